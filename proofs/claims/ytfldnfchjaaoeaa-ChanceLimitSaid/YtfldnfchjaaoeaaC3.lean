/- Equality of lists of pairs. -/
import Derived.Test.YtfldnfchjaaoeaaC2
namespace Go.Abs
noncomputable instance : DecidableEq Pr := fun _ _ => Classical.propDecidable _
theorem eq_pav (X : Nat → Prop) (p q : Pr) : eqA (E0 X) 8 30 (pav p) (pav q) = some (decide (p = q)) := by
  have h : eqA (E0 X) 8 30 (pav p) (pav q) = some (decide (p.key = q.key) && ((decide (p.seq = q.seq) && (decide (p.off = q.off) && (decide (p.len = q.len) && (decide (p.exp = q.exp) && ((p.hit == q.hit) && true))))) && true)) := rfl
  rw [h]
  congr 1
  rw [Bool.eq_iff_iff]
  cases p; cases q
  simp
structure EqI (a b : List Pr) where
  k : Nat
  hk : k ≤ a.length
  h : ∀ j, j < k → a[j]? = b[j]?
def eqS (a b : List Pr) (i : EqI a b) : St :=
  ⟨[(0, .sl 6 (a.map pav)), (1, .sl 6 (b.map pav)), (12, .int .i64 a.length), (13, .int .i64 i.k)], []⟩

attribute [local irreducible] AStep aops AWp Nx awM
set_option maxHeartbeats 0 in
theorem eq_c (X : Nat → Prop) (a b : List Pr) (ha : a.length ≤ 4611686018427387904) :
    ACalls (E0 X) 6 [.sl 6 (a.map pav), .sl 6 (b.map pav)] [] (fun r H' => r = .bool (decide (a = b)) ∧ H' = []) := by
  refine acalls_of Proofs.Try.func6 rfl Proofs.Try.ntmps6 (by kernel_rfl) rfl ?_
  intro hH hargs
  refine awp_seq ?_
  refine awp_region rfl ?_
  repeat' (first
      | (first
         | refine bs rfl ?_
         | refine bs0 rfl ?_
         first
         | refine st_move ?_
         | refine st_assign ?_
         | refine st_bin rfl ?_
         | refine st_load rfl rfl rfl ?_
         | refine st_fieldAddr rfl rfl rfl rfl rfl ?_
         | refine st_pick rfl ?_
         | refine st_nilCheck rfl ?_
         | refine st_store_ptr rfl rfl rfl rfl rfl rfl rfl ?_
         | refine st_len_sl rfl rfl rfl ?_
         | refine st_len_str rfl rfl rfl ?_
         | refine st_extract rfl rfl ?_
         | refine st_un rfl ?_
         | refine st_min rfl rfl ?_
         | refine st_max rfl rfl ?_
         | refine st_conv rfl rfl rfl rfl ?_
         | refine st_eql rfl rfl rfl ?_
         | refine st_neq rfl rfl rfl ?_
         | refine st_alloc rfl rfl ?_
         | refine st_box rfl ?_
         | refine st_field rfl rfl rfl rfl rfl ?_
         | refine st_build rfl rfl rfl rfl rfl ?_
         refine nx rfl rfl ?_)
      | refine aops_nil ?_
      | refine bskip rfl ?_
      | refine bskip0 rfl ?_
      | refine bguard rfl rfl (fun _ => ?_) (fun _ => ?_)
      | refine bguardB rfl rfl (fun _ => ?_) (fun _ => ?_))
  refine awp_seq ?_
  refine awp_seq ?_
  refine awp_region rfl ?_
  repeat' (first
      | (first
         | refine bs rfl ?_
         | refine bs0 rfl ?_
         first
         | refine st_move ?_
         | refine st_assign ?_
         | refine st_bin rfl ?_
         | refine st_load rfl rfl rfl ?_
         | refine st_fieldAddr rfl rfl rfl rfl rfl ?_
         | refine st_pick rfl ?_
         | refine st_nilCheck rfl ?_
         | refine st_store_ptr rfl rfl rfl rfl rfl rfl rfl ?_
         | refine st_len_sl rfl rfl rfl ?_
         | refine st_len_str rfl rfl rfl ?_
         | refine st_extract rfl rfl ?_
         | refine st_un rfl ?_
         | refine st_min rfl rfl ?_
         | refine st_max rfl rfl ?_
         | refine st_conv rfl rfl rfl rfl ?_
         | refine st_eql rfl rfl rfl ?_
         | refine st_neq rfl rfl rfl ?_
         | refine st_alloc rfl rfl ?_
         | refine st_box rfl ?_
         | refine st_field rfl rfl rfl rfl rfl ?_
         | refine st_build rfl rfl rfl rfl rfl ?_
         refine nx rfl rfl ?_)
      | refine aops_nil ?_
      | refine bskip rfl ?_
      | refine bskip0 rfl ?_
      | refine bguard rfl rfl (fun _ => ?_) (fun _ => ?_)
      | refine bguardB rfl rfl (fun _ => ?_) (fun _ => ?_))
  refine awp_cond rfl (fun hne => ?_) (fun heq => ?_)
  · refine awp_seq ?_
    refine awp_region rfl ?_
    repeat' (first
        | (first
           | refine bs rfl ?_
           | refine bs0 rfl ?_
           first
           | refine st_move ?_
           | refine st_assign ?_
           | refine st_bin rfl ?_
           | refine st_load rfl rfl rfl ?_
           | refine st_fieldAddr rfl rfl rfl rfl rfl ?_
           | refine st_pick rfl ?_
           | refine st_nilCheck rfl ?_
           | refine st_store_ptr rfl rfl rfl rfl rfl rfl rfl ?_
           | refine st_len_sl rfl rfl rfl ?_
           | refine st_len_str rfl rfl rfl ?_
           | refine st_extract rfl rfl ?_
           | refine st_un rfl ?_
           | refine st_min rfl rfl ?_
           | refine st_max rfl rfl ?_
           | refine st_conv rfl rfl rfl rfl ?_
           | refine st_eql rfl rfl rfl ?_
           | refine st_neq rfl rfl rfl ?_
           | refine st_alloc rfl rfl ?_
           | refine st_box rfl ?_
           | refine st_field rfl rfl rfl rfl rfl ?_
           | refine st_build rfl rfl rfl rfl rfl ?_
           refine nx rfl rfl ?_)
        | refine aops_nil ?_
        | refine bskip rfl ?_
        | refine bskip0 rfl ?_
        | refine bguard rfl rfl (fun _ => ?_) (fun _ => ?_)
        | refine bguardB rfl rfl (fun _ => ?_) (fun _ => ?_))
    refine awp_ret ?_
    refine ⟨_, rfl, ?_, rfl⟩
    show AV.bool false = _
    have : a ≠ b := fun h => by subst h; simp at hne
    simp [this]
  · have hlen : a.length = b.length := by simp at heq; omega
    refine awp_skip ?_
    refine awp_seq ?_
    refine awp_seq ?_
    refine awp_region rfl ?_
    repeat' (first
        | (first
           | refine bs rfl ?_
           | refine bs0 rfl ?_
           first
           | refine st_move ?_
           | refine st_assign ?_
           | refine st_bin rfl ?_
           | refine st_load rfl rfl rfl ?_
           | refine st_fieldAddr rfl rfl rfl rfl rfl ?_
           | refine st_pick rfl ?_
           | refine st_nilCheck rfl ?_
           | refine st_store_ptr rfl rfl rfl rfl rfl rfl rfl ?_
           | refine st_len_sl rfl rfl rfl ?_
           | refine st_len_str rfl rfl rfl ?_
           | refine st_extract rfl rfl ?_
           | refine st_un rfl ?_
           | refine st_min rfl rfl ?_
           | refine st_max rfl rfl ?_
           | refine st_conv rfl rfl rfl rfl ?_
           | refine st_eql rfl rfl rfl ?_
           | refine st_neq rfl rfl rfl ?_
           | refine st_alloc rfl rfl ?_
           | refine st_box rfl ?_
           | refine st_field rfl rfl rfl rfl rfl ?_
           | refine st_build rfl rfl rfl rfl rfl ?_
           refine nx rfl rfl ?_)
        | refine aops_nil ?_
        | refine bskip rfl ?_
        | refine bskip0 rfl ?_
        | refine bguard rfl rfl (fun _ => ?_) (fun _ => ?_)
        | refine bguardB rfl rfl (fun _ => ?_) (fun _ => ?_))
    refine awp_block ?_
    refine awp_loop (eqS a b) (fun i => a.length - i.k) ⟨0, Nat.zero_le _, fun j h => absurd h (Nat.not_lt_zero j)⟩ ?_ ?_
    · refine imp_tidy0 (fa_cons (ren_val rfl ?_) (fa_cons (ren_val rfl ?_) (fa_cons (ren_val ?_ trivial) (fa_cons (ren_val rfl trivial) fa_nil))))
      · exact ids_pav a
      · exact ids_pav b
      · simp [get_cons]
    · rintro ⟨k, hk, h⟩
      show AWp (E0 X) _ _ _ _ ⟨[(0, .sl 6 (a.map pav)), (1, .sl 6 (b.map pav)), (12, .int .i64 a.length), (13, .int .i64 k)], []⟩
      refine awp_seq ?_
      refine awp_region rfl ?_
      repeat' (first
          | (first
             | refine bs rfl ?_
             | refine bs0 rfl ?_
             first
             | refine st_move ?_
             | refine st_assign ?_
             | refine st_bin rfl ?_
             | refine st_load rfl rfl rfl ?_
             | refine st_fieldAddr rfl rfl rfl rfl rfl ?_
             | refine st_pick rfl ?_
             | refine st_nilCheck rfl ?_
             | refine st_store_ptr rfl rfl rfl rfl rfl rfl rfl ?_
             | refine st_len_sl rfl rfl rfl ?_
             | refine st_len_str rfl rfl rfl ?_
             | refine st_extract rfl rfl ?_
             | refine st_un rfl ?_
             | refine st_min rfl rfl ?_
             | refine st_max rfl rfl ?_
             | refine st_conv rfl rfl rfl rfl ?_
             | refine st_eql rfl rfl rfl ?_
             | refine st_neq rfl rfl rfl ?_
             | refine st_alloc rfl rfl ?_
             | refine st_box rfl ?_
             | refine st_field rfl rfl rfl rfl rfl ?_
             | refine st_build rfl rfl rfl rfl rfl ?_
             refine nx rfl rfl ?_)
          | refine aops_nil ?_
          | refine bskip rfl ?_
          | refine bskip0 rfl ?_
          | refine bguard rfl rfl (fun _ => ?_) (fun _ => ?_)
          | refine bguardB rfl rfl (fun _ => ?_) (fun _ => ?_))
      refine awp_seq ?_
      refine awp_cond_dec rfl (fun hlt => ?_) (fun hge => ?_)
      · have hka : k < a.length := of_decide_eq_true (by simpa using hlt)
        obtain ⟨p, hp⟩ : ∃ p, a[k]? = some p := ⟨_, List.getElem?_eq_getElem hka⟩
        obtain ⟨q, hq⟩ : ∃ q, b[k]? = some q := ⟨_, List.getElem?_eq_getElem (hlen ▸ hka)⟩
        refine awp_skip ?_
        refine awp_seq ?_
        refine awp_block ?_
        refine awp_seq ?_
        refine awp_region rfl ?_
        repeat' (first
            | (first
               | refine bs rfl ?_
               | refine bs0 rfl ?_
               first
               | refine st_move ?_
               | refine st_assign ?_
               | refine st_bin rfl ?_
               | refine st_load rfl rfl rfl ?_
               | refine st_fieldAddr rfl rfl rfl rfl rfl ?_
               | refine st_pick rfl ?_
               | refine st_nilCheck rfl ?_
               | refine st_store_ptr rfl rfl rfl rfl rfl rfl rfl ?_
               | refine st_len_sl rfl rfl rfl ?_
               | refine st_len_str rfl rfl rfl ?_
               | refine st_extract rfl rfl ?_
               | refine st_un rfl ?_
               | refine st_min rfl rfl ?_
               | refine st_max rfl rfl ?_
               | refine st_conv rfl rfl rfl rfl ?_
               | refine st_eql rfl rfl rfl ?_
               | refine st_neq rfl rfl rfl ?_
               | refine st_alloc rfl rfl ?_
               | refine st_box rfl ?_
               | refine st_field rfl rfl rfl rfl rfl ?_
               | refine st_build rfl rfl rfl rfl rfl ?_
               refine nx rfl rfl ?_)
            | refine aops_nil ?_
            | refine bskip rfl ?_
            | refine bskip0 rfl ?_
            | refine bguard rfl rfl (fun _ => ?_) (fun _ => ?_)
            | refine bguardB rfl rfl (fun _ => ?_) (fun _ => ?_))
        refine awp_seq ?_
        refine awp_region_draw (ef := []) (so := []) (ord := [0, 1, 2, 3, 4, 5, 6, 7, 8]) rfl (by kernel_rfl) rfl ?_
        repeat (apply ds rfl rfl rfl rfl
                · first
                  | refine st_move ?_
                  | refine st_assign ?_
                  | refine st_bin rfl ?_
                  | refine st_load rfl rfl rfl ?_
                  | refine st_fieldAddr rfl rfl rfl rfl rfl ?_
                  | refine st_pick rfl ?_
                  | refine st_nilCheck rfl ?_
                  | refine st_len_sl rfl rfl rfl ?_
                  | refine st_len_str rfl rfl rfl ?_
                  | refine st_un rfl ?_
                  | refine st_field rfl rfl rfl rfl rfl ?_
                  exact nx rfl rfl ⟨rfl, rfl⟩)
        apply ds rfl rfl rfl rfl
        · refine st_index_sl (k := 6) (es := a.map pav) (e := 30) (kk := .i64) (n := k) (j := k) (y := pav p) rfl rfl rfl ?_ ?_ rfl rfl (pav_get hp) rfl rfl ?_
          · rfl
          · rfl
          exact nx rfl rfl ⟨rfl, rfl⟩
        repeat (apply ds rfl rfl rfl rfl
                · first
                  | refine st_move ?_
                  | refine st_assign ?_
                  | refine st_bin rfl ?_
                  | refine st_load rfl rfl rfl ?_
                  | refine st_fieldAddr rfl rfl rfl rfl rfl ?_
                  | refine st_pick rfl ?_
                  | refine st_nilCheck rfl ?_
                  | refine st_len_sl rfl rfl rfl ?_
                  | refine st_len_str rfl rfl rfl ?_
                  | refine st_un rfl ?_
                  | refine st_field rfl rfl rfl rfl rfl ?_
                  exact nx rfl rfl ⟨rfl, rfl⟩)
        apply ds rfl rfl rfl rfl
        · refine st_index_sl (k := 6) (es := b.map pav) (e := 30) (kk := .i64) (n := k) (j := k) (y := pav q) rfl rfl rfl ?_ ?_ rfl rfl (pav_get hq) rfl rfl ?_
          · rfl
          · rfl
          exact nx rfl rfl ⟨rfl, rfl⟩
        repeat (apply ds rfl rfl rfl rfl
                · first
                  | refine st_move ?_
                  | refine st_assign ?_
                  | refine st_bin rfl ?_
                  | refine st_load rfl rfl rfl ?_
                  | refine st_fieldAddr rfl rfl rfl rfl rfl ?_
                  | refine st_pick rfl ?_
                  | refine st_nilCheck rfl ?_
                  | refine st_len_sl rfl rfl rfl ?_
                  | refine st_len_str rfl rfl rfl ?_
                  | refine st_un rfl ?_
                  | refine st_field rfl rfl rfl rfl rfl ?_
                  exact nx rfl rfl ⟨rfl, rfl⟩)
        apply ds rfl rfl rfl rfl
        · refine st_neq rfl rfl (eq_pav X p q) ?_
          exact nx rfl rfl ⟨rfl, rfl⟩
        refine ds_nil ?_
        refine awp_cond rfl (fun hne => ?_) (fun heq => ?_)
        · refine awp_seq ?_
          refine awp_region rfl ?_
          repeat' (first
              | (first
                 | refine bs rfl ?_
                 | refine bs0 rfl ?_
                 first
                 | refine st_move ?_
                 | refine st_assign ?_
                 | refine st_bin rfl ?_
                 | refine st_load rfl rfl rfl ?_
                 | refine st_fieldAddr rfl rfl rfl rfl rfl ?_
                 | refine st_pick rfl ?_
                 | refine st_nilCheck rfl ?_
                 | refine st_store_ptr rfl rfl rfl rfl rfl rfl rfl ?_
                 | refine st_len_sl rfl rfl rfl ?_
                 | refine st_len_str rfl rfl rfl ?_
                 | refine st_extract rfl rfl ?_
                 | refine st_un rfl ?_
                 | refine st_min rfl rfl ?_
                 | refine st_max rfl rfl ?_
                 | refine st_conv rfl rfl rfl rfl ?_
                 | refine st_eql rfl rfl rfl ?_
                 | refine st_neq rfl rfl rfl ?_
                 | refine st_alloc rfl rfl ?_
                 | refine st_box rfl ?_
                 | refine st_field rfl rfl rfl rfl rfl ?_
                 | refine st_build rfl rfl rfl rfl rfl ?_
                 refine nx rfl rfl ?_)
              | refine aops_nil ?_
              | refine bskip rfl ?_
              | refine bskip0 rfl ?_
              | refine bguard rfl rfl (fun _ => ?_) (fun _ => ?_)
              | refine bguardB rfl rfl (fun _ => ?_) (fun _ => ?_))
          refine awp_ret ?_
          refine ⟨_, rfl, ?_, rfl⟩
          show AV.bool false = _
          have : a ≠ b := fun h => by subst h; rw [hp] at hq; cases hq; simp at hne
          simp [this]
        · have hpq : p = q := by simpa using heq
          refine awp_skip ?_
          refine awp_region rfl ?_
          repeat' (first
              | (first
                 | refine bs rfl ?_
                 | refine bs0 rfl ?_
                 first
                 | refine st_move ?_
                 | refine st_assign ?_
                 | refine st_bin rfl ?_
                 | refine st_load rfl rfl rfl ?_
                 | refine st_fieldAddr rfl rfl rfl rfl rfl ?_
                 | refine st_pick rfl ?_
                 | refine st_nilCheck rfl ?_
                 | refine st_store_ptr rfl rfl rfl rfl rfl rfl rfl ?_
                 | refine st_len_sl rfl rfl rfl ?_
                 | refine st_len_str rfl rfl rfl ?_
                 | refine st_extract rfl rfl ?_
                 | refine st_un rfl ?_
                 | refine st_min rfl rfl ?_
                 | refine st_max rfl rfl ?_
                 | refine st_conv rfl rfl rfl rfl ?_
                 | refine st_eql rfl rfl rfl ?_
                 | refine st_neq rfl rfl rfl ?_
                 | refine st_alloc rfl rfl ?_
                 | refine st_box rfl ?_
                 | refine st_field rfl rfl rfl rfl rfl ?_
                 | refine st_build rfl rfl rfl rfl rfl ?_
                 refine nx rfl rfl ?_)
              | refine aops_nil ?_
              | refine bskip rfl ?_
              | refine bskip0 rfl ?_
              | refine bguard rfl rfl (fun _ => ?_) (fun _ => ?_)
              | refine bguardB rfl rfl (fun _ => ?_) (fun _ => ?_))
          refine then_i ?_
          refine ⟨⟨k + 1, by omega, fun j hj => ?_⟩, by show _ - (k + 1) < _ - k; omega, ?_⟩
          · rcases Nat.lt_or_ge j k with h1 | h1
            · exact h j h1
            · have : j = k := by omega
              subst this
              rw [hp, hq, hpq]
          · refine imp_tidy0 (fa_cons (ren_val rfl ?_) (fa_cons (ren_val rfl ?_) (fa_cons (ren_val rfl trivial) (fa_cons (ren_val ?_ trivial) fa_nil))))
            · exact ids_pav a
            · exact ids_pav b
            · show AV.int .i64 (IntKind.i64.wrap (k + 1)) = _
              rw [wrap_in (by omega) (by omega)]; rfl
      · have hkl : k = a.length := by
          have : ¬ (k < a.length) := fun hh => hge (by exact_mod_cast hh)
          omega
        have hab : a = b := by
          refine List.ext_getElem? fun j => ?_
          rcases Nat.lt_or_ge j k with h1 | h1
          · exact h j h1
          · rw [List.getElem?_eq_none (by omega), List.getElem?_eq_none (by omega)]
        refine awp_exit ?_
        refine then_x ?_
        refine then_x ?_
        refine blk_x ?_
        refine awp_seq ?_
        refine awp_region rfl ?_
        repeat' (first
            | (first
               | refine bs rfl ?_
               | refine bs0 rfl ?_
               first
               | refine st_move ?_
               | refine st_assign ?_
               | refine st_bin rfl ?_
               | refine st_load rfl rfl rfl ?_
               | refine st_fieldAddr rfl rfl rfl rfl rfl ?_
               | refine st_pick rfl ?_
               | refine st_nilCheck rfl ?_
               | refine st_store_ptr rfl rfl rfl rfl rfl rfl rfl ?_
               | refine st_len_sl rfl rfl rfl ?_
               | refine st_len_str rfl rfl rfl ?_
               | refine st_extract rfl rfl ?_
               | refine st_un rfl ?_
               | refine st_min rfl rfl ?_
               | refine st_max rfl rfl ?_
               | refine st_conv rfl rfl rfl rfl ?_
               | refine st_eql rfl rfl rfl ?_
               | refine st_neq rfl rfl rfl ?_
               | refine st_alloc rfl rfl ?_
               | refine st_box rfl ?_
               | refine st_field rfl rfl rfl rfl rfl ?_
               | refine st_build rfl rfl rfl rfl rfl ?_
               refine nx rfl rfl ?_)
            | refine aops_nil ?_
            | refine bskip rfl ?_
            | refine bskip0 rfl ?_
            | refine bguard rfl rfl (fun _ => ?_) (fun _ => ?_)
            | refine bguardB rfl rfl (fun _ => ?_) (fun _ => ?_))
        refine awp_ret ?_
        exact ⟨_, rfl, by simp [hab]; rfl, rfl⟩
end Go.Abs
