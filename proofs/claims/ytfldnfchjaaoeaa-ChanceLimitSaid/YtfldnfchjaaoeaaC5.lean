/- ChancePick: the walk. -/
import Derived.Test.YtfldnfchjaaoeaaC4
namespace Go.Abs

theorem pick_len : ∀ (l : List Pr) (m : Int), (pick l m).length ≤ l.length
  | [], _ => Nat.le_refl _
  | p :: r, m => by
    simp only [pick]
    split
    · have := pick_len r (m - p.len); simp; omega
    · have := pick_len r m; simp; omega

attribute [local irreducible] AStep aops AWp Nx awM
set_option maxHeartbeats 0 in
theorem chancePick_c (X : Nat → Prop) (l : List Pr) (most : Int) (hm : most ≤ 9223372036854775807) :
    ACalls (E0 X) 3 [.sl 6 (l.map pav), .int .i64 most] [] (fun r H' => r = .bool true ∧ H' = []) := by
  refine acalls_of Proofs.Try.func3 rfl Proofs.Try.ntmps3 (by kernel_rfl) rfl ?_
  intro hH hargs
  refine awp_seq ?_
  refine awp_region rfl ?_
  repeat' (first
      | (refine bs rfl ?_
         try
           first
           | refine st_move ?_
           | refine st_assign ?_
           | refine st_bin rfl ?_
           | refine st_load rfl rfl rfl ?_
           | refine st_fieldAddr rfl rfl rfl rfl rfl ?_
           | refine st_pick rfl ?_
           | refine st_nilCheck rfl ?_
           | refine st_len_sl rfl rfl rfl ?_
           | refine st_len_str rfl rfl rfl ?_
           | refine st_extract rfl rfl ?_
           | refine st_un rfl ?_
           | refine st_min rfl rfl ?_
           | refine st_max rfl rfl ?_
           | refine st_conv rfl rfl rfl rfl ?_
           | refine st_eql rfl rfl rfl ?_
           | refine st_neq rfl rfl rfl ?_
           | refine st_alloc rfl rfl ?_
           | refine st_box rfl ?_
           | refine st_field rfl rfl rfl rfl rfl ?_
           | refine st_bld rfl rfl rfl rfl rfl rfl ?_
           | refine st_bsl rfl rfl rfl rfl rfl rfl rfl (.inl rfl) rfl (.inl rfl) rfl rfl ?_
           refine nx rfl rfl ?_)
      | (refine bs0 rfl ?_
         try
           refine st_store_ptr rfl rfl rfl rfl rfl rfl rfl ?_
           refine nx rfl rfl ?_)
      | refine aops_nil ?_
      | refine bskip rfl ?_
      | refine bskip0 rfl ?_
      | refine bguard rfl rfl (fun _ => ?_) (fun _ => ?_)
      | refine bguardB rfl rfl (fun _ => ?_) (fun _ => ?_))
  refine awp_seq ?_
  refine awp_region rfl ?_
  repeat' (first
      | (refine bs rfl ?_
         try
           first
           | refine st_move ?_
           | refine st_assign ?_
           | refine st_bin rfl ?_
           | refine st_load rfl rfl rfl ?_
           | refine st_fieldAddr rfl rfl rfl rfl rfl ?_
           | refine st_pick rfl ?_
           | refine st_nilCheck rfl ?_
           | refine st_len_sl rfl rfl rfl ?_
           | refine st_len_str rfl rfl rfl ?_
           | refine st_extract rfl rfl ?_
           | refine st_un rfl ?_
           | refine st_min rfl rfl ?_
           | refine st_max rfl rfl ?_
           | refine st_conv rfl rfl rfl rfl ?_
           | refine st_eql rfl rfl rfl ?_
           | refine st_neq rfl rfl rfl ?_
           | refine st_alloc rfl rfl ?_
           | refine st_box rfl ?_
           | refine st_field rfl rfl rfl rfl rfl ?_
           | refine st_bld rfl rfl rfl rfl rfl rfl ?_
           | refine st_bsl rfl rfl rfl rfl rfl rfl rfl (.inl rfl) rfl (.inl rfl) rfl rfl ?_
           refine nx rfl rfl ?_)
      | (refine bs0 rfl ?_
         try
           refine st_store_ptr rfl rfl rfl rfl rfl rfl rfl ?_
           refine nx rfl rfl ?_)
      | refine aops_nil ?_
      | refine bskip rfl ?_
      | refine bskip0 rfl ?_
      | refine bguard rfl rfl (fun _ => ?_) (fun _ => ?_)
      | refine bguardB rfl rfl (fun _ => ?_) (fun _ => ?_))
  have hmin : min ((l.map pav).length : Int) 30 = ((min l.length 30 : Nat) : Int) := by simp; omega
  refine st_slice_sl (k := 6) (es := l.map pav) (l := 0) (h := min l.length 30) rfl rfl rfl rfl rfl bnd_none (bnd_some rfl hmin) (Nat.zero_le _) (by simp; omega) ?_
  have hcut : List.drop 0 (List.take (min l.length 30) (l.map pav)) = (l.take (min l.length 30)).map pav := by simp [List.map_take]
  rw [hcut]
  have hlen : (l.take (min l.length 30)).length ≤ 30 := by simp; omega
  generalize l.take (min l.length 30) = l' at hlen ⊢
  refine nx rfl rfl ?_
  repeat' (first
      | (refine bs rfl ?_
         try
           first
           | refine st_move ?_
           | refine st_assign ?_
           | refine st_bin rfl ?_
           | refine st_load rfl rfl rfl ?_
           | refine st_fieldAddr rfl rfl rfl rfl rfl ?_
           | refine st_pick rfl ?_
           | refine st_nilCheck rfl ?_
           | refine st_len_sl rfl rfl rfl ?_
           | refine st_len_str rfl rfl rfl ?_
           | refine st_extract rfl rfl ?_
           | refine st_un rfl ?_
           | refine st_min rfl rfl ?_
           | refine st_max rfl rfl ?_
           | refine st_conv rfl rfl rfl rfl ?_
           | refine st_eql rfl rfl rfl ?_
           | refine st_neq rfl rfl rfl ?_
           | refine st_alloc rfl rfl ?_
           | refine st_box rfl ?_
           | refine st_field rfl rfl rfl rfl rfl ?_
           | refine st_bld rfl rfl rfl rfl rfl rfl ?_
           | refine st_bsl rfl rfl rfl rfl rfl rfl rfl (.inl rfl) rfl (.inl rfl) rfl rfl ?_
           refine nx rfl rfl ?_)
      | (refine bs0 rfl ?_
         try
           refine st_store_ptr rfl rfl rfl rfl rfl rfl rfl ?_
           refine nx rfl rfl ?_)
      | refine aops_nil ?_
      | refine bskip rfl ?_
      | refine bskip0 rfl ?_
      | refine bguard rfl rfl (fun _ => ?_) (fun _ => ?_)
      | refine bguardB rfl rfl (fun _ => ?_) (fun _ => ?_))
  refine awp_seq ?_
  refine awp_region rfl ?_
  repeat' (first
      | (refine bs rfl ?_
         try
           first
           | refine st_move ?_
           | refine st_assign ?_
           | refine st_bin rfl ?_
           | refine st_load rfl rfl rfl ?_
           | refine st_fieldAddr rfl rfl rfl rfl rfl ?_
           | refine st_pick rfl ?_
           | refine st_nilCheck rfl ?_
           | refine st_len_sl rfl rfl rfl ?_
           | refine st_len_str rfl rfl rfl ?_
           | refine st_extract rfl rfl ?_
           | refine st_un rfl ?_
           | refine st_min rfl rfl ?_
           | refine st_max rfl rfl ?_
           | refine st_conv rfl rfl rfl rfl ?_
           | refine st_eql rfl rfl rfl ?_
           | refine st_neq rfl rfl rfl ?_
           | refine st_alloc rfl rfl ?_
           | refine st_box rfl ?_
           | refine st_field rfl rfl rfl rfl rfl ?_
           | refine st_bld rfl rfl rfl rfl rfl rfl ?_
           | refine st_bsl rfl rfl rfl rfl rfl rfl rfl (.inl rfl) rfl (.inl rfl) rfl rfl ?_
           refine nx rfl rfl ?_)
      | (refine bs0 rfl ?_
         try
           refine st_store_ptr rfl rfl rfl rfl rfl rfl rfl ?_
           refine nx rfl rfl ?_)
      | refine aops_nil ?_
      | refine bskip rfl ?_
      | refine bskip0 rfl ?_
      | refine bguard rfl rfl (fun _ => ?_) (fun _ => ?_)
      | refine bguardB rfl rfl (fun _ => ?_) (fun _ => ?_))
  refine st_call (fun _ => rfl) rfl ?_
  refine ACalls.mono (awake_c X) ?_
  rintro r H' ⟨rfl, rfl⟩
  refine nx rfl rfl ?_
  repeat' (first
      | (refine bs rfl ?_
         try
           first
           | refine st_move ?_
           | refine st_assign ?_
           | refine st_bin rfl ?_
           | refine st_load rfl rfl rfl ?_
           | refine st_fieldAddr rfl rfl rfl rfl rfl ?_
           | refine st_pick rfl ?_
           | refine st_nilCheck rfl ?_
           | refine st_len_sl rfl rfl rfl ?_
           | refine st_len_str rfl rfl rfl ?_
           | refine st_extract rfl rfl ?_
           | refine st_un rfl ?_
           | refine st_min rfl rfl ?_
           | refine st_max rfl rfl ?_
           | refine st_conv rfl rfl rfl rfl ?_
           | refine st_eql rfl rfl rfl ?_
           | refine st_neq rfl rfl rfl ?_
           | refine st_alloc rfl rfl ?_
           | refine st_box rfl ?_
           | refine st_field rfl rfl rfl rfl rfl ?_
           | refine st_bld rfl rfl rfl rfl rfl rfl ?_
           | refine st_bsl rfl rfl rfl rfl rfl rfl rfl (.inl rfl) rfl (.inl rfl) rfl rfl ?_
           refine nx rfl rfl ?_)
      | (refine bs0 rfl ?_
         try
           refine st_store_ptr rfl rfl rfl rfl rfl rfl rfl ?_
           refine nx rfl rfl ?_)
      | refine aops_nil ?_
      | refine bskip rfl ?_
      | refine bskip0 rfl ?_
      | refine bguard rfl rfl (fun _ => ?_) (fun _ => ?_)
      | refine bguardB rfl rfl (fun _ => ?_) (fun _ => ?_))
  refine st_call (fun _ => rfl) rfl ?_
  refine ACalls.mono (pick_c X l' most hlen hm) ?_
  rintro r H' ⟨rfl, rfl⟩
  refine nx rfl rfl ?_
  repeat' (first
      | (refine bs rfl ?_
         try
           first
           | refine st_move ?_
           | refine st_assign ?_
           | refine st_bin rfl ?_
           | refine st_load rfl rfl rfl ?_
           | refine st_fieldAddr rfl rfl rfl rfl rfl ?_
           | refine st_pick rfl ?_
           | refine st_nilCheck rfl ?_
           | refine st_len_sl rfl rfl rfl ?_
           | refine st_len_str rfl rfl rfl ?_
           | refine st_extract rfl rfl ?_
           | refine st_un rfl ?_
           | refine st_min rfl rfl ?_
           | refine st_max rfl rfl ?_
           | refine st_conv rfl rfl rfl rfl ?_
           | refine st_eql rfl rfl rfl ?_
           | refine st_neq rfl rfl rfl ?_
           | refine st_alloc rfl rfl ?_
           | refine st_box rfl ?_
           | refine st_field rfl rfl rfl rfl rfl ?_
           | refine st_bld rfl rfl rfl rfl rfl rfl ?_
           | refine st_bsl rfl rfl rfl rfl rfl rfl rfl (.inl rfl) rfl (.inl rfl) rfl rfl ?_
           refine nx rfl rfl ?_)
      | (refine bs0 rfl ?_
         try
           refine st_store_ptr rfl rfl rfl rfl rfl rfl rfl ?_
           refine nx rfl rfl ?_)
      | refine aops_nil ?_
      | refine bskip rfl ?_
      | refine bskip0 rfl ?_
      | refine bguard rfl rfl (fun _ => ?_) (fun _ => ?_)
      | refine bguardB rfl rfl (fun _ => ?_) (fun _ => ?_))
  refine st_call (fun _ => rfl) rfl ?_
  refine ACalls.mono (rpick_c X l' most hlen hm) ?_
  rintro r H' ⟨rfl, rfl⟩
  refine nx rfl rfl ?_
  repeat' (first
      | (refine bs rfl ?_
         try
           first
           | refine st_move ?_
           | refine st_assign ?_
           | refine st_bin rfl ?_
           | refine st_load rfl rfl rfl ?_
           | refine st_fieldAddr rfl rfl rfl rfl rfl ?_
           | refine st_pick rfl ?_
           | refine st_nilCheck rfl ?_
           | refine st_len_sl rfl rfl rfl ?_
           | refine st_len_str rfl rfl rfl ?_
           | refine st_extract rfl rfl ?_
           | refine st_un rfl ?_
           | refine st_min rfl rfl ?_
           | refine st_max rfl rfl ?_
           | refine st_conv rfl rfl rfl rfl ?_
           | refine st_eql rfl rfl rfl ?_
           | refine st_neq rfl rfl rfl ?_
           | refine st_alloc rfl rfl ?_
           | refine st_box rfl ?_
           | refine st_field rfl rfl rfl rfl rfl ?_
           | refine st_bld rfl rfl rfl rfl rfl rfl ?_
           | refine st_bsl rfl rfl rfl rfl rfl rfl rfl (.inl rfl) rfl (.inl rfl) rfl rfl ?_
           refine nx rfl rfl ?_)
      | (refine bs0 rfl ?_
         try
           refine st_store_ptr rfl rfl rfl rfl rfl rfl rfl ?_
           refine nx rfl rfl ?_)
      | refine aops_nil ?_
      | refine bskip rfl ?_
      | refine bskip0 rfl ?_
      | refine bguard rfl rfl (fun _ => ?_) (fun _ => ?_)
      | refine bguardB rfl rfl (fun _ => ?_) (fun _ => ?_))
  refine st_call (fun _ => rfl) rfl ?_
  refine ACalls.mono (eq_c X (pick l' most) (pick l' most) ?_) ?_
  · have := pick_len l' most; omega
  rintro r H' ⟨rfl, rfl⟩
  refine nx rfl rfl ?_
  repeat' (first
      | (refine bs rfl ?_
         try
           first
           | refine st_move ?_
           | refine st_assign ?_
           | refine st_bin rfl ?_
           | refine st_load rfl rfl rfl ?_
           | refine st_fieldAddr rfl rfl rfl rfl rfl ?_
           | refine st_pick rfl ?_
           | refine st_nilCheck rfl ?_
           | refine st_len_sl rfl rfl rfl ?_
           | refine st_len_str rfl rfl rfl ?_
           | refine st_extract rfl rfl ?_
           | refine st_un rfl ?_
           | refine st_min rfl rfl ?_
           | refine st_max rfl rfl ?_
           | refine st_conv rfl rfl rfl rfl ?_
           | refine st_eql rfl rfl rfl ?_
           | refine st_neq rfl rfl rfl ?_
           | refine st_alloc rfl rfl ?_
           | refine st_box rfl ?_
           | refine st_field rfl rfl rfl rfl rfl ?_
           | refine st_bld rfl rfl rfl rfl rfl rfl ?_
           | refine st_bsl rfl rfl rfl rfl rfl rfl rfl (.inl rfl) rfl (.inl rfl) rfl rfl ?_
           refine nx rfl rfl ?_)
      | (refine bs0 rfl ?_
         try
           refine st_store_ptr rfl rfl rfl rfl rfl rfl rfl ?_
           refine nx rfl rfl ?_)
      | refine aops_nil ?_
      | refine bskip rfl ?_
      | refine bskip0 rfl ?_
      | refine bguard rfl rfl (fun _ => ?_) (fun _ => ?_)
      | refine bguardB rfl rfl (fun _ => ?_) (fun _ => ?_))
  refine awp_ret ?_
  exact ⟨_, rfl, by simp [get_cons, one], rfl⟩
end Go.Abs
