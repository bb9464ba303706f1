/- Awake. -/
import Derived.Test.YtfldnfchjaaoeaaC3
namespace Go.Abs
def aw1 : Pr := ⟨[97], 0, 0, 20, 0, true⟩
def aw2 : Pr := ⟨[98], 0, 0, 50, 0, true⟩
def aw3 : Pr := ⟨[99], 0, 0, 30, 0, true⟩
theorem pick_aw : pick [aw1, aw2, aw3] 60 = [aw1, aw3] := by simp [pick, aw1, aw2, aw3]

attribute [local irreducible] AStep aops AWp Nx awM
set_option maxHeartbeats 0 in
theorem awake_c (X : Nat → Prop) : ACalls (E0 X) 5 [] [] (fun r H' => r = .bool true ∧ H' = []) := by
  refine acalls_of Proofs.Try.func5 rfl Proofs.Try.ntmps5 (by kernel_rfl) rfl ?_
  intro hH hargs
  refine awp_seq ?_
  refine awp_region rfl ?_
  repeat' (first
      | (refine bs rfl ?_
         try
           first
           | refine st_move ?_
           | refine st_assign ?_
           | refine st_bin rfl ?_
           | refine st_load rfl rfl rfl ?_
           | refine st_fieldAddr rfl rfl rfl rfl rfl ?_
           | refine st_pick rfl ?_
           | refine st_nilCheck rfl ?_
           | refine st_len_sl rfl rfl rfl ?_
           | refine st_len_str rfl rfl rfl ?_
           | refine st_extract rfl rfl ?_
           | refine st_un rfl ?_
           | refine st_min rfl rfl ?_
           | refine st_max rfl rfl ?_
           | refine st_conv rfl rfl rfl rfl ?_
           | refine st_eql rfl rfl rfl ?_
           | refine st_neq rfl rfl rfl ?_
           | refine st_alloc rfl rfl ?_
           | refine st_box rfl ?_
           | refine st_field rfl rfl rfl rfl rfl ?_
           | refine st_bld rfl rfl rfl rfl rfl rfl ?_
           | refine st_bsl rfl rfl rfl rfl rfl rfl rfl (.inl rfl) rfl (.inl rfl) rfl rfl ?_
           refine nx rfl rfl ?_)
      | (refine bs0 rfl ?_
         try
           refine st_store_ptr rfl rfl rfl rfl rfl rfl rfl ?_
           refine nx rfl rfl ?_)
      | refine aops_nil ?_
      | refine bskip rfl ?_
      | refine bskip0 rfl ?_
      | refine bguard rfl rfl (fun _ => ?_) (fun _ => ?_)
      | refine bguardB rfl rfl (fun _ => ?_) (fun _ => ?_))
  refine awp_seq ?_
  refine awp_region rfl ?_
  repeat' (first
      | (refine bs rfl ?_
         try
           first
           | refine st_move ?_
           | refine st_assign ?_
           | refine st_bin rfl ?_
           | refine st_load rfl rfl rfl ?_
           | refine st_fieldAddr rfl rfl rfl rfl rfl ?_
           | refine st_pick rfl ?_
           | refine st_nilCheck rfl ?_
           | refine st_len_sl rfl rfl rfl ?_
           | refine st_len_str rfl rfl rfl ?_
           | refine st_extract rfl rfl ?_
           | refine st_un rfl ?_
           | refine st_min rfl rfl ?_
           | refine st_max rfl rfl ?_
           | refine st_conv rfl rfl rfl rfl ?_
           | refine st_eql rfl rfl rfl ?_
           | refine st_neq rfl rfl rfl ?_
           | refine st_alloc rfl rfl ?_
           | refine st_box rfl ?_
           | refine st_field rfl rfl rfl rfl rfl ?_
           | refine st_bld rfl rfl rfl rfl rfl rfl ?_
           | refine st_bsl rfl rfl rfl rfl rfl rfl rfl (.inl rfl) rfl (.inl rfl) rfl rfl ?_
           refine nx rfl rfl ?_)
      | (refine bs0 rfl ?_
         try
           refine st_store_ptr rfl rfl rfl rfl rfl rfl rfl ?_
           refine nx rfl rfl ?_)
      | refine aops_nil ?_
      | refine bskip rfl ?_
      | refine bskip0 rfl ?_
      | refine bguard rfl rfl (fun _ => ?_) (fun _ => ?_)
      | refine bguardB rfl rfl (fun _ => ?_) (fun _ => ?_))
  refine awp_seq ?_
  refine awp_region rfl ?_
  repeat' (first
      | (refine bs rfl ?_
         try
           first
           | refine st_move ?_
           | refine st_assign ?_
           | refine st_bin rfl ?_
           | refine st_load rfl rfl rfl ?_
           | refine st_fieldAddr rfl rfl rfl rfl rfl ?_
           | refine st_pick rfl ?_
           | refine st_nilCheck rfl ?_
           | refine st_len_sl rfl rfl rfl ?_
           | refine st_len_str rfl rfl rfl ?_
           | refine st_extract rfl rfl ?_
           | refine st_un rfl ?_
           | refine st_min rfl rfl ?_
           | refine st_max rfl rfl ?_
           | refine st_conv rfl rfl rfl rfl ?_
           | refine st_eql rfl rfl rfl ?_
           | refine st_neq rfl rfl rfl ?_
           | refine st_alloc rfl rfl ?_
           | refine st_box rfl ?_
           | refine st_field rfl rfl rfl rfl rfl ?_
           | refine st_bld rfl rfl rfl rfl rfl rfl ?_
           | refine st_bsl rfl rfl rfl rfl rfl rfl rfl (.inl rfl) rfl (.inl rfl) rfl rfl ?_
           refine nx rfl rfl ?_)
      | (refine bs0 rfl ?_
         try
           refine st_store_ptr rfl rfl rfl rfl rfl rfl rfl ?_
           refine nx rfl rfl ?_)
      | refine aops_nil ?_
      | refine bskip rfl ?_
      | refine bskip0 rfl ?_
      | refine bguard rfl rfl (fun _ => ?_) (fun _ => ?_)
      | refine bguardB rfl rfl (fun _ => ?_) (fun _ => ?_))
  refine st_call (fun _ => rfl) rfl ?_
  refine ACalls.mono (pick_c X [aw1, aw2, aw3] 60 (by simp) (by omega)) ?_
  rintro r H' ⟨rfl, rfl⟩
  rw [pick_aw]
  refine nx rfl rfl ?_
  repeat' (first
      | (refine bs rfl ?_
         try
           first
           | refine st_move ?_
           | refine st_assign ?_
           | refine st_bin rfl ?_
           | refine st_load rfl rfl rfl ?_
           | refine st_fieldAddr rfl rfl rfl rfl rfl ?_
           | refine st_pick rfl ?_
           | refine st_nilCheck rfl ?_
           | refine st_len_sl rfl rfl rfl ?_
           | refine st_len_str rfl rfl rfl ?_
           | refine st_extract rfl rfl ?_
           | refine st_un rfl ?_
           | refine st_min rfl rfl ?_
           | refine st_max rfl rfl ?_
           | refine st_conv rfl rfl rfl rfl ?_
           | refine st_eql rfl rfl rfl ?_
           | refine st_neq rfl rfl rfl ?_
           | refine st_alloc rfl rfl ?_
           | refine st_box rfl ?_
           | refine st_field rfl rfl rfl rfl rfl ?_
           | refine st_bld rfl rfl rfl rfl rfl rfl ?_
           | refine st_bsl rfl rfl rfl rfl rfl rfl rfl (.inl rfl) rfl (.inl rfl) rfl rfl ?_
           refine nx rfl rfl ?_)
      | (refine bs0 rfl ?_
         try
           refine st_store_ptr rfl rfl rfl rfl rfl rfl rfl ?_
           refine nx rfl rfl ?_)
      | refine aops_nil ?_
      | refine bskip rfl ?_
      | refine bskip0 rfl ?_
      | refine bguard rfl rfl (fun _ => ?_) (fun _ => ?_)
      | refine bguardB rfl rfl (fun _ => ?_) (fun _ => ?_))
  refine awp_seq ?_
  refine awp_region rfl ?_
  repeat' (first
      | (refine bs rfl ?_
         try
           first
           | refine st_move ?_
           | refine st_assign ?_
           | refine st_bin rfl ?_
           | refine st_load rfl rfl rfl ?_
           | refine st_fieldAddr rfl rfl rfl rfl rfl ?_
           | refine st_pick rfl ?_
           | refine st_nilCheck rfl ?_
           | refine st_len_sl rfl rfl rfl ?_
           | refine st_len_str rfl rfl rfl ?_
           | refine st_extract rfl rfl ?_
           | refine st_un rfl ?_
           | refine st_min rfl rfl ?_
           | refine st_max rfl rfl ?_
           | refine st_conv rfl rfl rfl rfl ?_
           | refine st_eql rfl rfl rfl ?_
           | refine st_neq rfl rfl rfl ?_
           | refine st_alloc rfl rfl ?_
           | refine st_box rfl ?_
           | refine st_field rfl rfl rfl rfl rfl ?_
           | refine st_bld rfl rfl rfl rfl rfl rfl ?_
           | refine st_bsl rfl rfl rfl rfl rfl rfl rfl (.inl rfl) rfl (.inl rfl) rfl rfl ?_
           refine nx rfl rfl ?_)
      | (refine bs0 rfl ?_
         try
           refine st_store_ptr rfl rfl rfl rfl rfl rfl rfl ?_
           refine nx rfl rfl ?_)
      | refine aops_nil ?_
      | refine bskip rfl ?_
      | refine bskip0 rfl ?_
      | refine bguard rfl rfl (fun _ => ?_) (fun _ => ?_)
      | refine bguardB rfl rfl (fun _ => ?_) (fun _ => ?_))
  · refine st_index_sl (k := 6) (es := [aw1, aw3].map pav) (e := 30) (kk := .i64) (n := 0) (j := 0) (y := pav aw1) rfl rfl rfl rfl rfl rfl rfl rfl rfl rfl ?_
    refine nx rfl rfl ?_
    repeat' (first
        | (refine bs rfl ?_
           try
             first
             | refine st_move ?_
             | refine st_assign ?_
             | refine st_bin rfl ?_
             | refine st_load rfl rfl rfl ?_
             | refine st_fieldAddr rfl rfl rfl rfl rfl ?_
             | refine st_pick rfl ?_
             | refine st_nilCheck rfl ?_
             | refine st_len_sl rfl rfl rfl ?_
             | refine st_len_str rfl rfl rfl ?_
             | refine st_extract rfl rfl ?_
             | refine st_un rfl ?_
             | refine st_min rfl rfl ?_
             | refine st_max rfl rfl ?_
             | refine st_conv rfl rfl rfl rfl ?_
             | refine st_eql rfl rfl rfl ?_
             | refine st_neq rfl rfl rfl ?_
             | refine st_alloc rfl rfl ?_
             | refine st_box rfl ?_
             | refine st_field rfl rfl rfl rfl rfl ?_
             | refine st_bld rfl rfl rfl rfl rfl rfl ?_
             | refine st_bsl rfl rfl rfl rfl rfl rfl rfl (.inl rfl) rfl (.inl rfl) rfl rfl ?_
             refine nx rfl rfl ?_)
        | (refine bs0 rfl ?_
           try
             refine st_store_ptr rfl rfl rfl rfl rfl rfl rfl ?_
             refine nx rfl rfl ?_)
        | refine aops_nil ?_
        | refine bskip rfl ?_
        | refine bskip0 rfl ?_
        | refine bguard rfl rfl (fun _ => ?_) (fun _ => ?_)
        | refine bguardB rfl rfl (fun _ => ?_) (fun _ => ?_))
    · refine st_index_sl (k := 6) (es := [aw1, aw3].map pav) (e := 30) (kk := .i64) (n := 1) (j := 1) (y := pav aw3) rfl rfl rfl rfl rfl rfl rfl rfl rfl rfl ?_
      refine nx rfl rfl ?_
      repeat' (first
          | (refine bs rfl ?_
             try
               first
               | refine st_move ?_
               | refine st_assign ?_
               | refine st_bin rfl ?_
               | refine st_load rfl rfl rfl ?_
               | refine st_fieldAddr rfl rfl rfl rfl rfl ?_
               | refine st_pick rfl ?_
               | refine st_nilCheck rfl ?_
               | refine st_len_sl rfl rfl rfl ?_
               | refine st_len_str rfl rfl rfl ?_
               | refine st_extract rfl rfl ?_
               | refine st_un rfl ?_
               | refine st_min rfl rfl ?_
               | refine st_max rfl rfl ?_
               | refine st_conv rfl rfl rfl rfl ?_
               | refine st_eql rfl rfl rfl ?_
               | refine st_neq rfl rfl rfl ?_
               | refine st_alloc rfl rfl ?_
               | refine st_box rfl ?_
               | refine st_field rfl rfl rfl rfl rfl ?_
               | refine st_bld rfl rfl rfl rfl rfl rfl ?_
               | refine st_bsl rfl rfl rfl rfl rfl rfl rfl (.inl rfl) rfl (.inl rfl) rfl rfl ?_
               refine nx rfl rfl ?_)
          | (refine bs0 rfl ?_
             try
               refine st_store_ptr rfl rfl rfl rfl rfl rfl rfl ?_
               refine nx rfl rfl ?_)
          | refine aops_nil ?_
          | refine bskip rfl ?_
          | refine bskip0 rfl ?_
          | refine bguard rfl rfl (fun _ => ?_) (fun _ => ?_)
          | refine bguardB rfl rfl (fun _ => ?_) (fun _ => ?_))
      refine awp_ret ?_
      exact ⟨_, rfl, rfl, rfl⟩
end Go.Abs
