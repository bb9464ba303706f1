/- The reference of chance.Pick; equality of slices; Awake. -/
import Derived.Test.YtfldnfchjaaoeaaC1
import Derived.Test.YtfldnfchjaaoeaaA13
namespace Go.Abs
def rpickS (l : List Pr) (most : Int) (i : PickI l most) : St :=
  ⟨[(6, .int .i64 i.m), (5, .own 0 0 i.out.length), (10, .sl 6 (l.map pav)), (11, .int .i64 l.length), (12, .int .i64 i.k)], [some (.arr (i.out.map pav) 30)]⟩

attribute [local irreducible] AStep aops AWp Nx
set_option maxHeartbeats 0 in
theorem rpick_c (X : Nat → Prop) (l : List Pr) (most : Int) (hl : l.length ≤ 30) (hm : most ≤ 9223372036854775807) :
    ACalls (E0 X) 8 [.sl 6 (l.map pav), .int .i64 most] [] (fun r H' => r = .sl 6 ((pick l most).map pav) ∧ H' = []) := by
  refine acalls_of Proofs.Try.func8 rfl Proofs.Try.ntmps8 (by kernel_rfl) rfl ?_
  intro hH hargs
  refine awp_seq ?_
  refine awp_region rfl ?_
  repeat' (first
      | (first
         | refine bs rfl ?_
         | refine bs0 rfl ?_
         first
         | refine st_move ?_
         | refine st_assign ?_
         | refine st_bin rfl ?_
         | refine st_load rfl rfl rfl ?_
         | refine st_fieldAddr rfl rfl rfl rfl rfl ?_
         | refine st_pick rfl ?_
         | refine st_nilCheck rfl ?_
         | refine st_store_ptr rfl rfl rfl rfl rfl rfl rfl ?_
         | refine st_len_sl rfl rfl rfl ?_
         | refine st_len_str rfl rfl rfl ?_
         | refine st_extract rfl rfl ?_
         | refine st_un rfl ?_
         | refine st_min rfl rfl ?_
         | refine st_max rfl rfl ?_
         | refine st_conv rfl rfl rfl rfl ?_
         | refine st_eql rfl rfl rfl ?_
         | refine st_neq rfl rfl rfl ?_
         | refine st_alloc rfl rfl ?_
         | refine st_box rfl ?_
         | refine st_field rfl rfl rfl rfl rfl ?_
         | refine st_build rfl rfl rfl rfl rfl ?_
         refine nx rfl rfl ?_)
      | refine aops_nil ?_
      | refine bskip rfl ?_
      | refine bskip0 rfl ?_
      | refine bguard rfl rfl (fun _ => ?_) (fun _ => ?_)
      | refine bguardB rfl rfl (fun _ => ?_) (fun _ => ?_))
  refine awp_seq ?_
  refine awp_region rfl ?_
  repeat' (first
      | (first
         | refine bs rfl ?_
         | refine bs0 rfl ?_
         first
         | refine st_move ?_
         | refine st_assign ?_
         | refine st_bin rfl ?_
         | refine st_load rfl rfl rfl ?_
         | refine st_fieldAddr rfl rfl rfl rfl rfl ?_
         | refine st_pick rfl ?_
         | refine st_nilCheck rfl ?_
         | refine st_store_ptr rfl rfl rfl rfl rfl rfl rfl ?_
         | refine st_len_sl rfl rfl rfl ?_
         | refine st_len_str rfl rfl rfl ?_
         | refine st_extract rfl rfl ?_
         | refine st_un rfl ?_
         | refine st_min rfl rfl ?_
         | refine st_max rfl rfl ?_
         | refine st_conv rfl rfl rfl rfl ?_
         | refine st_eql rfl rfl rfl ?_
         | refine st_neq rfl rfl rfl ?_
         | refine st_alloc rfl rfl ?_
         | refine st_box rfl ?_
         | refine st_field rfl rfl rfl rfl rfl ?_
         | refine st_build rfl rfl rfl rfl rfl ?_
         refine nx rfl rfl ?_)
      | refine aops_nil ?_
      | refine bskip rfl ?_
      | refine bskip0 rfl ?_
      | refine bguard rfl rfl (fun _ => ?_) (fun _ => ?_)
      | refine bguardB rfl rfl (fun _ => ?_) (fun _ => ?_))
  refine awp_seq ?_
  refine awp_region rfl ?_
  repeat' (first
      | (first
         | refine bs rfl ?_
         | refine bs0 rfl ?_
         first
         | refine st_move ?_
         | refine st_assign ?_
         | refine st_bin rfl ?_
         | refine st_load rfl rfl rfl ?_
         | refine st_fieldAddr rfl rfl rfl rfl rfl ?_
         | refine st_pick rfl ?_
         | refine st_nilCheck rfl ?_
         | refine st_store_ptr rfl rfl rfl rfl rfl rfl rfl ?_
         | refine st_len_sl rfl rfl rfl ?_
         | refine st_len_str rfl rfl rfl ?_
         | refine st_extract rfl rfl ?_
         | refine st_un rfl ?_
         | refine st_min rfl rfl ?_
         | refine st_max rfl rfl ?_
         | refine st_conv rfl rfl rfl rfl ?_
         | refine st_eql rfl rfl rfl ?_
         | refine st_neq rfl rfl rfl ?_
         | refine st_alloc rfl rfl ?_
         | refine st_box rfl ?_
         | refine st_field rfl rfl rfl rfl rfl ?_
         | refine st_build rfl rfl rfl rfl rfl ?_
         refine nx rfl rfl ?_)
      | refine aops_nil ?_
      | refine bskip rfl ?_
      | refine bskip0 rfl ?_
      | refine bguard rfl rfl (fun _ => ?_) (fun _ => ?_)
      | refine bguardB rfl rfl (fun _ => ?_) (fun _ => ?_))
  refine awp_seq ?_
  refine awp_seq ?_
  refine awp_region rfl ?_
  repeat' (first
      | (first
         | refine bs rfl ?_
         | refine bs0 rfl ?_
         first
         | refine st_move ?_
         | refine st_assign ?_
         | refine st_bin rfl ?_
         | refine st_load rfl rfl rfl ?_
         | refine st_fieldAddr rfl rfl rfl rfl rfl ?_
         | refine st_pick rfl ?_
         | refine st_nilCheck rfl ?_
         | refine st_store_ptr rfl rfl rfl rfl rfl rfl rfl ?_
         | refine st_len_sl rfl rfl rfl ?_
         | refine st_len_str rfl rfl rfl ?_
         | refine st_extract rfl rfl ?_
         | refine st_un rfl ?_
         | refine st_min rfl rfl ?_
         | refine st_max rfl rfl ?_
         | refine st_conv rfl rfl rfl rfl ?_
         | refine st_eql rfl rfl rfl ?_
         | refine st_neq rfl rfl rfl ?_
         | refine st_alloc rfl rfl ?_
         | refine st_box rfl ?_
         | refine st_field rfl rfl rfl rfl rfl ?_
         | refine st_build rfl rfl rfl rfl rfl ?_
         refine nx rfl rfl ?_)
      | refine aops_nil ?_
      | refine bskip rfl ?_
      | refine bskip0 rfl ?_
      | refine bguard rfl rfl (fun _ => ?_) (fun _ => ?_)
      | refine bguardB rfl rfl (fun _ => ?_) (fun _ => ?_))
  refine awp_block ?_
  refine awp_loop (rpickS l most) (fun i => l.length - i.k) ⟨0, most, [], Nat.zero_le _, hm, Nat.le_refl _, rfl⟩ ?_ ?_
  · refine Imp.trans (imp_nil 5 30 rfl) (imp_sub ?_)
    refine sub_cons rfl (sub_cons rfl (sub_cons rfl (sub_cons ?_ (sub_cons rfl sub_nil))))
    simp [get_cons]
  · rintro ⟨k, m, out, hk, hmm, ho, h⟩
    show AWp (E0 X) _ _ _ _ ⟨[(6, .int .i64 m), (5, .own 0 0 out.length), (10, .sl 6 (l.map pav)), (11, .int .i64 l.length), (12, .int .i64 k)], [some (.arr (out.map pav) 30)]⟩
    refine awp_seq ?_
    refine awp_region rfl ?_
    repeat' (first
        | (first
           | refine bs rfl ?_
           | refine bs0 rfl ?_
           first
           | refine st_move ?_
           | refine st_assign ?_
           | refine st_bin rfl ?_
           | refine st_load rfl rfl rfl ?_
           | refine st_fieldAddr rfl rfl rfl rfl rfl ?_
           | refine st_pick rfl ?_
           | refine st_nilCheck rfl ?_
           | refine st_store_ptr rfl rfl rfl rfl rfl rfl rfl ?_
           | refine st_len_sl rfl rfl rfl ?_
           | refine st_len_str rfl rfl rfl ?_
           | refine st_extract rfl rfl ?_
           | refine st_un rfl ?_
           | refine st_min rfl rfl ?_
           | refine st_max rfl rfl ?_
           | refine st_conv rfl rfl rfl rfl ?_
           | refine st_eql rfl rfl rfl ?_
           | refine st_neq rfl rfl rfl ?_
           | refine st_alloc rfl rfl ?_
           | refine st_box rfl ?_
           | refine st_field rfl rfl rfl rfl rfl ?_
           | refine st_build rfl rfl rfl rfl rfl ?_
           refine nx rfl rfl ?_)
        | refine aops_nil ?_
        | refine bskip rfl ?_
        | refine bskip0 rfl ?_
        | refine bguard rfl rfl (fun _ => ?_) (fun _ => ?_)
        | refine bguardB rfl rfl (fun _ => ?_) (fun _ => ?_))
    refine awp_seq ?_
    refine awp_cond_dec rfl (fun hlt => ?_) (fun hge => ?_)
    · refine awp_skip ?_
      refine awp_seq ?_
      refine awp_block ?_
      refine awp_seq ?_
      refine awp_region rfl ?_
      have hkl : k < l.length := of_decide_eq_true (by simpa using hlt)
      obtain ⟨p, hp⟩ : ∃ p, l[k]? = some p := ⟨_, List.getElem?_eq_getElem hkl⟩
      obtain ⟨pk, ps, po, pl, pe, ph⟩ := p
      refine bs rfl ?_
      refine st_index_sl (k := 6) (es := l.map pav) (e := 30) (kk := .i64) (n := k) (j := k) (y := pav ⟨pk, ps, po, pl, pe, ph⟩) rfl rfl rfl ?_ ?_ rfl rfl (pav_get hp) rfl rfl ?_
      · rfl
      · rfl
      refine nx rfl rfl ?_
      repeat' (first
          | (first
             | refine bs rfl ?_
             | refine bs0 rfl ?_
             first
             | refine st_move ?_
             | refine st_assign ?_
             | refine st_bin rfl ?_
             | refine st_load rfl rfl rfl ?_
             | refine st_fieldAddr rfl rfl rfl rfl rfl ?_
             | refine st_pick rfl ?_
             | refine st_nilCheck rfl ?_
             | refine st_store_ptr rfl rfl rfl rfl rfl rfl rfl ?_
             | refine st_len_sl rfl rfl rfl ?_
             | refine st_len_str rfl rfl rfl ?_
             | refine st_extract rfl rfl ?_
             | refine st_un rfl ?_
             | refine st_min rfl rfl ?_
             | refine st_max rfl rfl ?_
             | refine st_conv rfl rfl rfl rfl ?_
             | refine st_eql rfl rfl rfl ?_
             | refine st_neq rfl rfl rfl ?_
             | refine st_alloc rfl rfl ?_
             | refine st_box rfl ?_
             | refine st_field rfl rfl rfl rfl rfl ?_
             | refine st_build rfl rfl rfl rfl rfl ?_
             refine nx rfl rfl ?_)
          | refine aops_nil ?_
          | refine bskip rfl ?_
          | refine bskip0 rfl ?_
          | refine bguard rfl rfl (fun _ => ?_) (fun _ => ?_)
          | refine bguardB rfl rfl (fun _ => ?_) (fun _ => ?_))
      refine awp_seq ?_
      refine awp_region rfl ?_
      repeat' (first
          | (first
             | refine bs rfl ?_
             | refine bs0 rfl ?_
             first
             | refine st_move ?_
             | refine st_assign ?_
             | refine st_bin rfl ?_
             | refine st_load rfl rfl rfl ?_
             | refine st_fieldAddr rfl rfl rfl rfl rfl ?_
             | refine st_pick rfl ?_
             | refine st_nilCheck rfl ?_
             | refine st_store_ptr rfl rfl rfl rfl rfl rfl rfl ?_
             | refine st_len_sl rfl rfl rfl ?_
             | refine st_len_str rfl rfl rfl ?_
             | refine st_extract rfl rfl ?_
             | refine st_un rfl ?_
             | refine st_min rfl rfl ?_
             | refine st_max rfl rfl ?_
             | refine st_conv rfl rfl rfl rfl ?_
             | refine st_eql rfl rfl rfl ?_
             | refine st_neq rfl rfl rfl ?_
             | refine st_alloc rfl rfl ?_
             | refine st_box rfl ?_
             | refine st_field rfl rfl rfl rfl rfl ?_
             | refine st_build rfl rfl rfl rfl rfl ?_
             refine nx rfl rfl ?_)
          | refine aops_nil ?_
          | refine bskip rfl ?_
          | refine bskip0 rfl ?_
          | refine bguard rfl rfl (fun _ => ?_) (fun _ => ?_)
          | refine bguardB rfl rfl (fun _ => ?_) (fun _ => ?_))
      · refine awp_cond_dec rfl (fun hle => ?_) (fun hgt => ?_)
        · refine awp_seq ?_
          refine awp_region rfl ?_
          repeat' (first
              | (first
                 | refine bs rfl ?_
                 | refine bs0 rfl ?_
                 first
                 | refine st_move ?_
                 | refine st_assign ?_
                 | refine st_bin rfl ?_
                 | refine st_load rfl rfl rfl ?_
                 | refine st_fieldAddr rfl rfl rfl rfl rfl ?_
                 | refine st_pick rfl ?_
                 | refine st_nilCheck rfl ?_
                 | refine st_store_ptr rfl rfl rfl rfl rfl rfl rfl ?_
                 | refine st_len_sl rfl rfl rfl ?_
                 | refine st_len_str rfl rfl rfl ?_
                 | refine st_extract rfl rfl ?_
                 | refine st_un rfl ?_
                 | refine st_min rfl rfl ?_
                 | refine st_max rfl rfl ?_
                 | refine st_conv rfl rfl rfl rfl ?_
                 | refine st_eql rfl rfl rfl ?_
                 | refine st_neq rfl rfl rfl ?_
                 | refine st_alloc rfl rfl ?_
                 | refine st_box rfl ?_
                 | refine st_field rfl rfl rfl rfl rfl ?_
                 | refine st_build rfl rfl rfl rfl rfl ?_
                 refine nx rfl rfl ?_)
              | refine aops_nil ?_
              | refine bskip rfl ?_
              | refine bskip0 rfl ?_
              | refine bguard rfl rfl (fun _ => ?_) (fun _ => ?_)
              | refine bguardB rfl rfl (fun _ => ?_) (fun _ => ?_))
          refine bs rfl ?_
          refine st_bsl rfl rfl rfl rfl rfl rfl rfl (.inl rfl) rfl (.inl rfl) rfl rfl ?_
          refine nx rfl rfl ?_
          refine bs rfl ?_
          refine st_append rfl rfl rfl rfl rfl rfl rfl rfl (dst_own rfl (by simp)) rfl ?_ ?_ ?_ ?_
          · intro y hy; simp only [List.mem_cons, List.not_mem_nil, or_false] at hy; subst hy; exact ⟨rfl, rfl⟩
          · simp [maxLen]; omega
          · show _ * 56 ≤ _
            simp; omega
          refine nx rfl rfl ?_
          repeat' (first
              | (first
                 | refine bs rfl ?_
                 | refine bs0 rfl ?_
                 first
                 | refine st_move ?_
                 | refine st_assign ?_
                 | refine st_bin rfl ?_
                 | refine st_load rfl rfl rfl ?_
                 | refine st_fieldAddr rfl rfl rfl rfl rfl ?_
                 | refine st_pick rfl ?_
                 | refine st_nilCheck rfl ?_
                 | refine st_store_ptr rfl rfl rfl rfl rfl rfl rfl ?_
                 | refine st_len_sl rfl rfl rfl ?_
                 | refine st_len_str rfl rfl rfl ?_
                 | refine st_extract rfl rfl ?_
                 | refine st_un rfl ?_
                 | refine st_min rfl rfl ?_
                 | refine st_max rfl rfl ?_
                 | refine st_conv rfl rfl rfl rfl ?_
                 | refine st_eql rfl rfl rfl ?_
                 | refine st_neq rfl rfl rfl ?_
                 | refine st_alloc rfl rfl ?_
                 | refine st_box rfl ?_
                 | refine st_field rfl rfl rfl rfl rfl ?_
                 | refine st_build rfl rfl rfl rfl rfl ?_
                 refine nx rfl rfl ?_)
              | refine aops_nil ?_
              | refine bskip rfl ?_
              | refine bskip0 rfl ?_
              | refine bguard rfl rfl (fun _ => ?_) (fun _ => ?_)
              | refine bguardB rfl rfl (fun _ => ?_) (fun _ => ?_))
          refine awp_region rfl ?_
          repeat' (first
              | (first
                 | refine bs rfl ?_
                 | refine bs0 rfl ?_
                 first
                 | refine st_move ?_
                 | refine st_assign ?_
                 | refine st_bin rfl ?_
                 | refine st_load rfl rfl rfl ?_
                 | refine st_fieldAddr rfl rfl rfl rfl rfl ?_
                 | refine st_pick rfl ?_
                 | refine st_nilCheck rfl ?_
                 | refine st_store_ptr rfl rfl rfl rfl rfl rfl rfl ?_
                 | refine st_len_sl rfl rfl rfl ?_
                 | refine st_len_str rfl rfl rfl ?_
                 | refine st_extract rfl rfl ?_
                 | refine st_un rfl ?_
                 | refine st_min rfl rfl ?_
                 | refine st_max rfl rfl ?_
                 | refine st_conv rfl rfl rfl rfl ?_
                 | refine st_eql rfl rfl rfl ?_
                 | refine st_neq rfl rfl rfl ?_
                 | refine st_alloc rfl rfl ?_
                 | refine st_box rfl ?_
                 | refine st_field rfl rfl rfl rfl rfl ?_
                 | refine st_build rfl rfl rfl rfl rfl ?_
                 refine nx rfl rfl ?_)
              | refine aops_nil ?_
              | refine bskip rfl ?_
              | refine bskip0 rfl ?_
              | refine bguard rfl rfl (fun _ => ?_) (fun _ => ?_)
              | refine bguardB rfl rfl (fun _ => ?_) (fun _ => ?_))
          refine awp_region rfl ?_
          repeat' (first
              | (first
                 | refine bs rfl ?_
                 | refine bs0 rfl ?_
                 first
                 | refine st_move ?_
                 | refine st_assign ?_
                 | refine st_bin rfl ?_
                 | refine st_load rfl rfl rfl ?_
                 | refine st_fieldAddr rfl rfl rfl rfl rfl ?_
                 | refine st_pick rfl ?_
                 | refine st_nilCheck rfl ?_
                 | refine st_store_ptr rfl rfl rfl rfl rfl rfl rfl ?_
                 | refine st_len_sl rfl rfl rfl ?_
                 | refine st_len_str rfl rfl rfl ?_
                 | refine st_extract rfl rfl ?_
                 | refine st_un rfl ?_
                 | refine st_min rfl rfl ?_
                 | refine st_max rfl rfl ?_
                 | refine st_conv rfl rfl rfl rfl ?_
                 | refine st_eql rfl rfl rfl ?_
                 | refine st_neq rfl rfl rfl ?_
                 | refine st_alloc rfl rfl ?_
                 | refine st_box rfl ?_
                 | refine st_field rfl rfl rfl rfl rfl ?_
                 | refine st_build rfl rfl rfl rfl rfl ?_
                 refine nx rfl rfl ?_)
              | refine aops_nil ?_
              | refine bskip rfl ?_
              | refine bskip0 rfl ?_
              | refine bguard rfl rfl (fun _ => ?_) (fun _ => ?_)
              | refine bguardB rfl rfl (fun _ => ?_) (fun _ => ?_))
          have hw1 : IntKind.i64.wrap (k + 1) = ((k + 1 : Nat) : Int) := by rw [wrap_in (by omega) (by omega)]; rfl
          have hle' : pl ≤ m := hle
          have hpl : 0 ≤ pl := ‹_›
          have hph : ph = true := ‹_›
          refine then_i ?_
          refine ⟨⟨k + 1, m - pl, out ++ [(⟨pk, ps, po, pl, pe, ph⟩ : Pr)], by omega, by omega, by simp; omega, ?_⟩, by show _ - (k + 1) < _ - k; omega, ?_⟩
          · rw [← h, drop_cons hp]
            simp [pick, hph, hpl, hle']
          · refine imp_tidy [2] (os := [.arr ((out ++ [(⟨pk, ps, po, pl, pe, ph⟩ : Pr)]).map pav) 30]) (by simp) rfl ?_ ?_
            · refine fa_cons (ren_val ?_ trivial) (fa_cons ?_ (fa_cons (ren_val rfl ?_) (fa_cons (ren_val rfl trivial) (fa_cons (ren_val ?_ trivial) fa_nil))))
              · show AV.int .i64 (IntKind.i64.wrap (m - pl)) = _
                rw [wrap_in (by omega) (by omega)]
              · show Ren _ (.own 2 0 _) (.own 0 0 _)
                have : (out.map pav).length + 1 = (out ++ [(⟨pk, ps, po, pl, pe, ph⟩ : Pr)]).length := by simp
                rw [← this]
                exact ren_own rfl
              · exact ids_pav l
              · show AV.int .i64 (IntKind.i64.wrap (k + 1)) = _
                rw [hw1]
            · exact os_cons rfl (renO_val2 (by simp [pav]) (ids_pav (out ++ [(⟨pk, ps, po, pl, pe, ph⟩ : Pr)]))) os_nil
        · have hno : ¬ (ph = true ∧ 0 ≤ pl ∧ pl ≤ m) := fun hh => hgt hh.2.2
          refine awp_skip ?_
          refine awp_region rfl ?_
          repeat' (first
              | (first
                 | refine bs rfl ?_
                 | refine bs0 rfl ?_
                 first
                 | refine st_move ?_
                 | refine st_assign ?_
                 | refine st_bin rfl ?_
                 | refine st_load rfl rfl rfl ?_
                 | refine st_fieldAddr rfl rfl rfl rfl rfl ?_
                 | refine st_pick rfl ?_
                 | refine st_nilCheck rfl ?_
                 | refine st_store_ptr rfl rfl rfl rfl rfl rfl rfl ?_
                 | refine st_len_sl rfl rfl rfl ?_
                 | refine st_len_str rfl rfl rfl ?_
                 | refine st_extract rfl rfl ?_
                 | refine st_un rfl ?_
                 | refine st_min rfl rfl ?_
                 | refine st_max rfl rfl ?_
                 | refine st_conv rfl rfl rfl rfl ?_
                 | refine st_eql rfl rfl rfl ?_
                 | refine st_neq rfl rfl rfl ?_
                 | refine st_alloc rfl rfl ?_
                 | refine st_box rfl ?_
                 | refine st_field rfl rfl rfl rfl rfl ?_
                 | refine st_build rfl rfl rfl rfl rfl ?_
                 refine nx rfl rfl ?_)
              | refine aops_nil ?_
              | refine bskip rfl ?_
              | refine bskip0 rfl ?_
              | refine bguard rfl rfl (fun _ => ?_) (fun _ => ?_)
              | refine bguardB rfl rfl (fun _ => ?_) (fun _ => ?_))
          refine then_i ?_
          refine ⟨⟨k + 1, m, out, by omega, by omega, by omega, ?_⟩, by show _ - (k + 1) < _ - k; omega, ?_⟩
          · rw [← h, drop_cons hp]
            simp [pick, hno]
          · refine imp_tidy [0] (os := [.arr (out.map pav) 30]) (by simp) rfl ?_ ?_
            · refine fa_cons (ren_val rfl trivial) (fa_cons (ren_own rfl) (fa_cons (ren_val rfl (ids_pav l)) (fa_cons (ren_val rfl trivial) (fa_cons (ren_val ?_ trivial) fa_nil))))
              show AV.int .i64 (IntKind.i64.wrap (k + 1)) = _
              rw [wrap_in (by omega) (by omega)]; rfl
            · exact os_cons rfl (renO_val rfl (ids_pav _)) os_nil
      · have hno : ¬ (ph = true ∧ 0 ≤ pl ∧ pl ≤ m) := fun hh => (show ¬ 0 ≤ pl by assumption) hh.2.1
        refine awp_cond_false rfl ?_
        refine awp_skip ?_
        refine awp_region rfl ?_
        repeat' (first
            | (first
               | refine bs rfl ?_
               | refine bs0 rfl ?_
               first
               | refine st_move ?_
               | refine st_assign ?_
               | refine st_bin rfl ?_
               | refine st_load rfl rfl rfl ?_
               | refine st_fieldAddr rfl rfl rfl rfl rfl ?_
               | refine st_pick rfl ?_
               | refine st_nilCheck rfl ?_
               | refine st_store_ptr rfl rfl rfl rfl rfl rfl rfl ?_
               | refine st_len_sl rfl rfl rfl ?_
               | refine st_len_str rfl rfl rfl ?_
               | refine st_extract rfl rfl ?_
               | refine st_un rfl ?_
               | refine st_min rfl rfl ?_
               | refine st_max rfl rfl ?_
               | refine st_conv rfl rfl rfl rfl ?_
               | refine st_eql rfl rfl rfl ?_
               | refine st_neq rfl rfl rfl ?_
               | refine st_alloc rfl rfl ?_
               | refine st_box rfl ?_
               | refine st_field rfl rfl rfl rfl rfl ?_
               | refine st_build rfl rfl rfl rfl rfl ?_
               refine nx rfl rfl ?_)
            | refine aops_nil ?_
            | refine bskip rfl ?_
            | refine bskip0 rfl ?_
            | refine bguard rfl rfl (fun _ => ?_) (fun _ => ?_)
            | refine bguardB rfl rfl (fun _ => ?_) (fun _ => ?_))
        refine then_i ?_
        refine ⟨⟨k + 1, m, out, by omega, by omega, by omega, ?_⟩, by show _ - (k + 1) < _ - k; omega, ?_⟩
        · rw [← h, drop_cons hp]
          simp [pick, hno]
        · refine imp_tidy [0] (os := [.arr (out.map pav) 30]) (by simp) rfl ?_ ?_
          · refine fa_cons (ren_val rfl trivial) (fa_cons (ren_own rfl) (fa_cons (ren_val rfl (ids_pav l)) (fa_cons (ren_val rfl trivial) (fa_cons (ren_val ?_ trivial) fa_nil))))
            show AV.int .i64 (IntKind.i64.wrap (k + 1)) = _
            rw [wrap_in (by omega) (by omega)]; rfl
          · exact os_cons rfl (renO_val rfl (ids_pav _)) os_nil
      · have hno : ¬ (ph = true ∧ 0 ≤ pl ∧ pl ≤ m) := fun hh => by
          have : ph = false := ‹_›
          rw [this] at hh; exact absurd hh.1 (by simp)
        refine awp_cond_false rfl ?_
        refine awp_skip ?_
        refine awp_region rfl ?_
        repeat' (first
            | (first
               | refine bs rfl ?_
               | refine bs0 rfl ?_
               first
               | refine st_move ?_
               | refine st_assign ?_
               | refine st_bin rfl ?_
               | refine st_load rfl rfl rfl ?_
               | refine st_fieldAddr rfl rfl rfl rfl rfl ?_
               | refine st_pick rfl ?_
               | refine st_nilCheck rfl ?_
               | refine st_store_ptr rfl rfl rfl rfl rfl rfl rfl ?_
               | refine st_len_sl rfl rfl rfl ?_
               | refine st_len_str rfl rfl rfl ?_
               | refine st_extract rfl rfl ?_
               | refine st_un rfl ?_
               | refine st_min rfl rfl ?_
               | refine st_max rfl rfl ?_
               | refine st_conv rfl rfl rfl rfl ?_
               | refine st_eql rfl rfl rfl ?_
               | refine st_neq rfl rfl rfl ?_
               | refine st_alloc rfl rfl ?_
               | refine st_box rfl ?_
               | refine st_field rfl rfl rfl rfl rfl ?_
               | refine st_build rfl rfl rfl rfl rfl ?_
               refine nx rfl rfl ?_)
            | refine aops_nil ?_
            | refine bskip rfl ?_
            | refine bskip0 rfl ?_
            | refine bguard rfl rfl (fun _ => ?_) (fun _ => ?_)
            | refine bguardB rfl rfl (fun _ => ?_) (fun _ => ?_))
        refine then_i ?_
        refine ⟨⟨k + 1, m, out, by omega, by omega, by omega, ?_⟩, by show _ - (k + 1) < _ - k; omega, ?_⟩
        · rw [← h, drop_cons hp]
          simp [pick, hno]
        · refine imp_tidy [0] (os := [.arr (out.map pav) 30]) (by simp) rfl ?_ ?_
          · refine fa_cons (ren_val rfl trivial) (fa_cons (ren_own rfl) (fa_cons (ren_val rfl (ids_pav l)) (fa_cons (ren_val rfl trivial) (fa_cons (ren_val ?_ trivial) fa_nil))))
            show AV.int .i64 (IntKind.i64.wrap (k + 1)) = _
            rw [wrap_in (by omega) (by omega)]; rfl
          · exact os_cons rfl (renO_val rfl (ids_pav _)) os_nil
    · have hkl : k = l.length := by
        have : ¬ (k < l.length) := fun hh => hge (by exact_mod_cast hh)
        omega
      subst hkl
      have hout : out = pick l most := by rw [← h]; simp [pick]
      refine awp_exit ?_
      refine then_x ?_
      refine then_x ?_
      refine blk_x ?_
      refine awp_pre (Imp.trans (imp_freeze (id := 0) (k := 6) rfl rfl rfl) (imp_tidy0 (sl' := [(5, .sl 6 (out.map pav))]) (fa_cons (ren_val2 (frz_own (by simp)) (ids_pav out)) fa_nil))) ?_
      refine awp_seq ?_
      refine awp_region rfl ?_
      repeat' (first
          | (first
             | refine bs rfl ?_
             | refine bs0 rfl ?_
             first
             | refine st_move ?_
             | refine st_assign ?_
             | refine st_bin rfl ?_
             | refine st_load rfl rfl rfl ?_
             | refine st_fieldAddr rfl rfl rfl rfl rfl ?_
             | refine st_pick rfl ?_
             | refine st_nilCheck rfl ?_
             | refine st_store_ptr rfl rfl rfl rfl rfl rfl rfl ?_
             | refine st_len_sl rfl rfl rfl ?_
             | refine st_len_str rfl rfl rfl ?_
             | refine st_extract rfl rfl ?_
             | refine st_un rfl ?_
             | refine st_min rfl rfl ?_
             | refine st_max rfl rfl ?_
             | refine st_conv rfl rfl rfl rfl ?_
             | refine st_eql rfl rfl rfl ?_
             | refine st_neq rfl rfl rfl ?_
             | refine st_alloc rfl rfl ?_
             | refine st_box rfl ?_
             | refine st_field rfl rfl rfl rfl rfl ?_
             | refine st_build rfl rfl rfl rfl rfl ?_
             refine nx rfl rfl ?_)
          | refine aops_nil ?_
          | refine bskip rfl ?_
          | refine bskip0 rfl ?_
          | refine bguard rfl rfl (fun _ => ?_) (fun _ => ?_)
          | refine bguardB rfl rfl (fun _ => ?_) (fun _ => ?_))
      refine awp_ret ?_
      exact ⟨_, rfl, by rw [hout]; rfl, rfl⟩
end Go.Abs
