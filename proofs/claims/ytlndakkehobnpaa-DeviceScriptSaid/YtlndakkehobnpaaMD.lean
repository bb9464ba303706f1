/- Equality of byte slices. Joined texts, each with what its own name promises; no condition beyond those stated. -/
import Derived.Test.YtlndakkehobnpaaMC
import Derived.Test.YtlndakkehobnpaaMB
namespace Go.Abs
structure EqI (a b : List UInt8) where
  k : Nat
  hk : k ≤ a.length
  h : ∀ j, j < k → a[j]? = b[j]?
def eqS (a b : List UInt8) (i : EqI a b) : St :=
  ⟨[(0, .sl 1 (a.map u8A)), (1, .sl 1 (b.map u8A)), (12, .int .i64 a.length), (13, .int .i64 i.k)], []⟩

theorem u8_get {l : List UInt8} {k : Nat} {p : UInt8} (h : l[k]? = some p) : (l.map u8A)[k]? = some (u8A p) := by simp [h]

attribute [local irreducible] AStep aops AWp Nx awM
set_option maxHeartbeats 0 in
theorem eqb_c (X : Nat → Prop) (a b : List UInt8) (ha : a.length ≤ 4611686018427387904) :
    ACalls (E0 X) 19 [.sl 1 (a.map u8A), .sl 1 (b.map u8A)] [] (fun r H' => r = .bool (decide (a = b)) ∧ H' = []) := by
  refine acalls_of Proofs.Try.func19 rfl Proofs.Try.ntmps19 (by kernel_rfl) rfl ?_
  intro hH hargs
  refine awp_seq ?_
  refine awp_region rfl ?_
  repeat' (first
      | (first
         | refine bs rfl ?_
         | refine bs0 rfl ?_
         first
         | refine st_move ?_
         | refine st_assign ?_
         | refine st_bin rfl ?_
         | refine st_load rfl rfl rfl ?_
         | refine st_fieldAddr rfl rfl rfl rfl rfl ?_
         | refine st_pick rfl ?_
         | refine st_nilCheck rfl ?_
         | refine st_store_ptr rfl rfl rfl rfl rfl rfl rfl ?_
         | refine st_len_sl rfl rfl rfl ?_
         | refine st_len_str rfl rfl rfl ?_
         | refine st_extract rfl rfl ?_
         | refine st_un rfl ?_
         | refine st_min rfl rfl ?_
         | refine st_max rfl rfl ?_
         | refine st_conv rfl rfl rfl rfl ?_
         | refine st_eql rfl rfl rfl ?_
         | refine st_neq rfl rfl rfl ?_
         | refine st_alloc rfl rfl ?_
         | refine st_box rfl ?_
         | refine st_field rfl rfl rfl rfl rfl ?_
         | refine st_build rfl rfl rfl rfl rfl ?_
         refine nx rfl rfl ?_)
      | refine aops_nil ?_
      | refine bskip rfl ?_
      | refine bskip0 rfl ?_
      | refine bguard rfl rfl (fun _ => ?_) (fun _ => ?_)
      | refine bguardB rfl rfl (fun _ => ?_) (fun _ => ?_))
  refine awp_seq ?_
  refine awp_seq ?_
  refine awp_region rfl ?_
  repeat' (first
      | (first
         | refine bs rfl ?_
         | refine bs0 rfl ?_
         first
         | refine st_move ?_
         | refine st_assign ?_
         | refine st_bin rfl ?_
         | refine st_load rfl rfl rfl ?_
         | refine st_fieldAddr rfl rfl rfl rfl rfl ?_
         | refine st_pick rfl ?_
         | refine st_nilCheck rfl ?_
         | refine st_store_ptr rfl rfl rfl rfl rfl rfl rfl ?_
         | refine st_len_sl rfl rfl rfl ?_
         | refine st_len_str rfl rfl rfl ?_
         | refine st_extract rfl rfl ?_
         | refine st_un rfl ?_
         | refine st_min rfl rfl ?_
         | refine st_max rfl rfl ?_
         | refine st_conv rfl rfl rfl rfl ?_
         | refine st_eql rfl rfl rfl ?_
         | refine st_neq rfl rfl rfl ?_
         | refine st_alloc rfl rfl ?_
         | refine st_box rfl ?_
         | refine st_field rfl rfl rfl rfl rfl ?_
         | refine st_build rfl rfl rfl rfl rfl ?_
         refine nx rfl rfl ?_)
      | refine aops_nil ?_
      | refine bskip rfl ?_
      | refine bskip0 rfl ?_
      | refine bguard rfl rfl (fun _ => ?_) (fun _ => ?_)
      | refine bguardB rfl rfl (fun _ => ?_) (fun _ => ?_))
  refine awp_cond rfl (fun hne => ?_) (fun heq => ?_)
  · refine awp_seq ?_
    refine awp_region rfl ?_
    repeat' (first
        | (first
           | refine bs rfl ?_
           | refine bs0 rfl ?_
           first
           | refine st_move ?_
           | refine st_assign ?_
           | refine st_bin rfl ?_
           | refine st_load rfl rfl rfl ?_
           | refine st_fieldAddr rfl rfl rfl rfl rfl ?_
           | refine st_pick rfl ?_
           | refine st_nilCheck rfl ?_
           | refine st_store_ptr rfl rfl rfl rfl rfl rfl rfl ?_
           | refine st_len_sl rfl rfl rfl ?_
           | refine st_len_str rfl rfl rfl ?_
           | refine st_extract rfl rfl ?_
           | refine st_un rfl ?_
           | refine st_min rfl rfl ?_
           | refine st_max rfl rfl ?_
           | refine st_conv rfl rfl rfl rfl ?_
           | refine st_eql rfl rfl rfl ?_
           | refine st_neq rfl rfl rfl ?_
           | refine st_alloc rfl rfl ?_
           | refine st_box rfl ?_
           | refine st_field rfl rfl rfl rfl rfl ?_
           | refine st_build rfl rfl rfl rfl rfl ?_
           refine nx rfl rfl ?_)
        | refine aops_nil ?_
        | refine bskip rfl ?_
        | refine bskip0 rfl ?_
        | refine bguard rfl rfl (fun _ => ?_) (fun _ => ?_)
        | refine bguardB rfl rfl (fun _ => ?_) (fun _ => ?_))
    refine awp_ret ?_
    refine ⟨_, rfl, ?_, rfl⟩
    show AV.bool false = _
    have : a ≠ b := fun h => by subst h; simp at hne
    simp [this]
  · have hlen : a.length = b.length := by simp at heq; omega
    refine awp_skip ?_
    refine awp_seq ?_
    refine awp_seq ?_
    refine awp_region rfl ?_
    repeat' (first
        | (first
           | refine bs rfl ?_
           | refine bs0 rfl ?_
           first
           | refine st_move ?_
           | refine st_assign ?_
           | refine st_bin rfl ?_
           | refine st_load rfl rfl rfl ?_
           | refine st_fieldAddr rfl rfl rfl rfl rfl ?_
           | refine st_pick rfl ?_
           | refine st_nilCheck rfl ?_
           | refine st_store_ptr rfl rfl rfl rfl rfl rfl rfl ?_
           | refine st_len_sl rfl rfl rfl ?_
           | refine st_len_str rfl rfl rfl ?_
           | refine st_extract rfl rfl ?_
           | refine st_un rfl ?_
           | refine st_min rfl rfl ?_
           | refine st_max rfl rfl ?_
           | refine st_conv rfl rfl rfl rfl ?_
           | refine st_eql rfl rfl rfl ?_
           | refine st_neq rfl rfl rfl ?_
           | refine st_alloc rfl rfl ?_
           | refine st_box rfl ?_
           | refine st_field rfl rfl rfl rfl rfl ?_
           | refine st_build rfl rfl rfl rfl rfl ?_
           refine nx rfl rfl ?_)
        | refine aops_nil ?_
        | refine bskip rfl ?_
        | refine bskip0 rfl ?_
        | refine bguard rfl rfl (fun _ => ?_) (fun _ => ?_)
        | refine bguardB rfl rfl (fun _ => ?_) (fun _ => ?_))
    refine awp_block ?_
    refine awp_loop (eqS a b) (fun i => a.length - i.k) ⟨0, Nat.zero_le _, fun j h => absurd h (Nat.not_lt_zero j)⟩ ?_ ?_
    · refine imp_tidy0 (fa_cons (ren_val rfl ?_) (fa_cons (ren_val rfl ?_) (fa_cons (ren_val ?_ trivial) (fa_cons (ren_val rfl trivial) fa_nil))))
      · exact u8_ids a
      · exact u8_ids b
      · simp [get_cons]
    · rintro ⟨k, hk, h⟩
      show AWp (E0 X) _ _ _ _ ⟨[(0, .sl 1 (a.map u8A)), (1, .sl 1 (b.map u8A)), (12, .int .i64 a.length), (13, .int .i64 k)], []⟩
      refine awp_seq ?_
      refine awp_region rfl ?_
      repeat' (first
          | (first
             | refine bs rfl ?_
             | refine bs0 rfl ?_
             first
             | refine st_move ?_
             | refine st_assign ?_
             | refine st_bin rfl ?_
             | refine st_load rfl rfl rfl ?_
             | refine st_fieldAddr rfl rfl rfl rfl rfl ?_
             | refine st_pick rfl ?_
             | refine st_nilCheck rfl ?_
             | refine st_store_ptr rfl rfl rfl rfl rfl rfl rfl ?_
             | refine st_len_sl rfl rfl rfl ?_
             | refine st_len_str rfl rfl rfl ?_
             | refine st_extract rfl rfl ?_
             | refine st_un rfl ?_
             | refine st_min rfl rfl ?_
             | refine st_max rfl rfl ?_
             | refine st_conv rfl rfl rfl rfl ?_
             | refine st_eql rfl rfl rfl ?_
             | refine st_neq rfl rfl rfl ?_
             | refine st_alloc rfl rfl ?_
             | refine st_box rfl ?_
             | refine st_field rfl rfl rfl rfl rfl ?_
             | refine st_build rfl rfl rfl rfl rfl ?_
             refine nx rfl rfl ?_)
          | refine aops_nil ?_
          | refine bskip rfl ?_
          | refine bskip0 rfl ?_
          | refine bguard rfl rfl (fun _ => ?_) (fun _ => ?_)
          | refine bguardB rfl rfl (fun _ => ?_) (fun _ => ?_))
      refine awp_seq ?_
      refine awp_cond_dec rfl (fun hlt => ?_) (fun hge => ?_)
      · have hka : k < a.length := of_decide_eq_true (by simpa using hlt)
        obtain ⟨p, hp⟩ : ∃ p, a[k]? = some p := ⟨_, List.getElem?_eq_getElem hka⟩
        obtain ⟨q, hq⟩ : ∃ q, b[k]? = some q := ⟨_, List.getElem?_eq_getElem (hlen ▸ hka)⟩
        refine awp_skip ?_
        refine awp_seq ?_
        refine awp_block ?_
        refine awp_seq ?_
        refine awp_region rfl ?_
        repeat' (first
            | (first
               | refine bs rfl ?_
               | refine bs0 rfl ?_
               first
               | refine st_move ?_
               | refine st_assign ?_
               | refine st_bin rfl ?_
               | refine st_load rfl rfl rfl ?_
               | refine st_fieldAddr rfl rfl rfl rfl rfl ?_
               | refine st_pick rfl ?_
               | refine st_nilCheck rfl ?_
               | refine st_store_ptr rfl rfl rfl rfl rfl rfl rfl ?_
               | refine st_len_sl rfl rfl rfl ?_
               | refine st_len_str rfl rfl rfl ?_
               | refine st_extract rfl rfl ?_
               | refine st_un rfl ?_
               | refine st_min rfl rfl ?_
               | refine st_max rfl rfl ?_
               | refine st_conv rfl rfl rfl rfl ?_
               | refine st_eql rfl rfl rfl ?_
               | refine st_neq rfl rfl rfl ?_
               | refine st_alloc rfl rfl ?_
               | refine st_box rfl ?_
               | refine st_field rfl rfl rfl rfl rfl ?_
               | refine st_build rfl rfl rfl rfl rfl ?_
               refine nx rfl rfl ?_)
            | refine aops_nil ?_
            | refine bskip rfl ?_
            | refine bskip0 rfl ?_
            | refine bguard rfl rfl (fun _ => ?_) (fun _ => ?_)
            | refine bguardB rfl rfl (fun _ => ?_) (fun _ => ?_))
        refine awp_seq ?_
        refine awp_region_draw (ef := []) (so := []) (ord := [0, 1, 2, 3, 4, 5, 6, 7, 8]) rfl (by kernel_rfl) rfl ?_
        repeat (apply ds rfl rfl rfl rfl
                · first
                  | refine st_move ?_
                  | refine st_assign ?_
                  | refine st_bin rfl ?_
                  | refine st_load rfl rfl rfl ?_
                  | refine st_fieldAddr rfl rfl rfl rfl rfl ?_
                  | refine st_pick rfl ?_
                  | refine st_nilCheck rfl ?_
                  | refine st_len_sl rfl rfl rfl ?_
                  | refine st_len_str rfl rfl rfl ?_
                  | refine st_un rfl ?_
                  | refine st_field rfl rfl rfl rfl rfl ?_
                  exact nx rfl rfl ⟨rfl, rfl⟩)
        apply ds rfl rfl rfl rfl
        · refine st_index_sl (k := 1) (es := a.map u8A) (e := 5) (kk := .i64) (n := k) (j := k) (y := u8A p) rfl rfl rfl ?_ ?_ rfl rfl (u8_get hp) rfl rfl ?_
          · rfl
          · rfl
          exact nx rfl rfl ⟨rfl, rfl⟩
        repeat (apply ds rfl rfl rfl rfl
                · first
                  | refine st_move ?_
                  | refine st_assign ?_
                  | refine st_bin rfl ?_
                  | refine st_load rfl rfl rfl ?_
                  | refine st_fieldAddr rfl rfl rfl rfl rfl ?_
                  | refine st_pick rfl ?_
                  | refine st_nilCheck rfl ?_
                  | refine st_len_sl rfl rfl rfl ?_
                  | refine st_len_str rfl rfl rfl ?_
                  | refine st_un rfl ?_
                  | refine st_field rfl rfl rfl rfl rfl ?_
                  exact nx rfl rfl ⟨rfl, rfl⟩)
        apply ds rfl rfl rfl rfl
        · refine st_index_sl (k := 1) (es := b.map u8A) (e := 5) (kk := .i64) (n := k) (j := k) (y := u8A q) rfl rfl rfl ?_ ?_ rfl rfl (u8_get hq) rfl rfl ?_
          · rfl
          · rfl
          exact nx rfl rfl ⟨rfl, rfl⟩
        repeat (apply ds rfl rfl rfl rfl
                · first
                  | refine st_move ?_
                  | refine st_assign ?_
                  | refine st_bin rfl ?_
                  | refine st_load rfl rfl rfl ?_
                  | refine st_fieldAddr rfl rfl rfl rfl rfl ?_
                  | refine st_pick rfl ?_
                  | refine st_nilCheck rfl ?_
                  | refine st_len_sl rfl rfl rfl ?_
                  | refine st_len_str rfl rfl rfl ?_
                  | refine st_un rfl ?_
                  | refine st_field rfl rfl rfl rfl rfl ?_
                  exact nx rfl rfl ⟨rfl, rfl⟩)
        refine ds_nil ?_
        refine awp_cond rfl (fun hne => ?_) (fun heq => ?_)
        · refine awp_seq ?_
          refine awp_region rfl ?_
          repeat' (first
              | (first
                 | refine bs rfl ?_
                 | refine bs0 rfl ?_
                 first
                 | refine st_move ?_
                 | refine st_assign ?_
                 | refine st_bin rfl ?_
                 | refine st_load rfl rfl rfl ?_
                 | refine st_fieldAddr rfl rfl rfl rfl rfl ?_
                 | refine st_pick rfl ?_
                 | refine st_nilCheck rfl ?_
                 | refine st_store_ptr rfl rfl rfl rfl rfl rfl rfl ?_
                 | refine st_len_sl rfl rfl rfl ?_
                 | refine st_len_str rfl rfl rfl ?_
                 | refine st_extract rfl rfl ?_
                 | refine st_un rfl ?_
                 | refine st_min rfl rfl ?_
                 | refine st_max rfl rfl ?_
                 | refine st_conv rfl rfl rfl rfl ?_
                 | refine st_eql rfl rfl rfl ?_
                 | refine st_neq rfl rfl rfl ?_
                 | refine st_alloc rfl rfl ?_
                 | refine st_box rfl ?_
                 | refine st_field rfl rfl rfl rfl rfl ?_
                 | refine st_build rfl rfl rfl rfl rfl ?_
                 refine nx rfl rfl ?_)
              | refine aops_nil ?_
              | refine bskip rfl ?_
              | refine bskip0 rfl ?_
              | refine bguard rfl rfl (fun _ => ?_) (fun _ => ?_)
              | refine bguardB rfl rfl (fun _ => ?_) (fun _ => ?_))
          refine awp_ret ?_
          refine ⟨_, rfl, ?_, rfl⟩
          show AV.bool false = _
          have : a ≠ b := fun h => by subst h; rw [hp] at hq; cases hq; simp at hne
          simp [this]
        · have hpq : p = q := by
            have h9 : (p.toNat : Int) = q.toNat := by simpa using heq
            exact UInt8.toNat_inj.1 (by omega)
          refine awp_skip ?_
          refine awp_region rfl ?_
          repeat' (first
              | (first
                 | refine bs rfl ?_
                 | refine bs0 rfl ?_
                 first
                 | refine st_move ?_
                 | refine st_assign ?_
                 | refine st_bin rfl ?_
                 | refine st_load rfl rfl rfl ?_
                 | refine st_fieldAddr rfl rfl rfl rfl rfl ?_
                 | refine st_pick rfl ?_
                 | refine st_nilCheck rfl ?_
                 | refine st_store_ptr rfl rfl rfl rfl rfl rfl rfl ?_
                 | refine st_len_sl rfl rfl rfl ?_
                 | refine st_len_str rfl rfl rfl ?_
                 | refine st_extract rfl rfl ?_
                 | refine st_un rfl ?_
                 | refine st_min rfl rfl ?_
                 | refine st_max rfl rfl ?_
                 | refine st_conv rfl rfl rfl rfl ?_
                 | refine st_eql rfl rfl rfl ?_
                 | refine st_neq rfl rfl rfl ?_
                 | refine st_alloc rfl rfl ?_
                 | refine st_box rfl ?_
                 | refine st_field rfl rfl rfl rfl rfl ?_
                 | refine st_build rfl rfl rfl rfl rfl ?_
                 refine nx rfl rfl ?_)
              | refine aops_nil ?_
              | refine bskip rfl ?_
              | refine bskip0 rfl ?_
              | refine bguard rfl rfl (fun _ => ?_) (fun _ => ?_)
              | refine bguardB rfl rfl (fun _ => ?_) (fun _ => ?_))
          refine then_i ?_
          refine ⟨⟨k + 1, by omega, fun j hj => ?_⟩, by show _ - (k + 1) < _ - k; omega, ?_⟩
          · rcases Nat.lt_or_ge j k with h1 | h1
            · exact h j h1
            · have : j = k := by omega
              subst this
              rw [hp, hq, hpq]
          · refine imp_tidy0 (fa_cons (ren_val rfl ?_) (fa_cons (ren_val rfl ?_) (fa_cons (ren_val rfl trivial) (fa_cons (ren_val ?_ trivial) fa_nil))))
            · exact u8_ids a
            · exact u8_ids b
            · show AV.int .i64 (IntKind.i64.wrap (k + 1)) = _
              rw [wrap_in (by omega) (by omega)]; rfl
      · have hkl : k = a.length := by
          have : ¬ (k < a.length) := fun hh => hge (by exact_mod_cast hh)
          omega
        have hab : a = b := by
          refine List.ext_getElem? fun j => ?_
          rcases Nat.lt_or_ge j k with h1 | h1
          · exact h j h1
          · rw [List.getElem?_eq_none (by omega), List.getElem?_eq_none (by omega)]
        refine awp_exit ?_
        refine then_x ?_
        refine then_x ?_
        refine blk_x ?_
        refine awp_seq ?_
        refine awp_region rfl ?_
        repeat' (first
            | (first
               | refine bs rfl ?_
               | refine bs0 rfl ?_
               first
               | refine st_move ?_
               | refine st_assign ?_
               | refine st_bin rfl ?_
               | refine st_load rfl rfl rfl ?_
               | refine st_fieldAddr rfl rfl rfl rfl rfl ?_
               | refine st_pick rfl ?_
               | refine st_nilCheck rfl ?_
               | refine st_store_ptr rfl rfl rfl rfl rfl rfl rfl ?_
               | refine st_len_sl rfl rfl rfl ?_
               | refine st_len_str rfl rfl rfl ?_
               | refine st_extract rfl rfl ?_
               | refine st_un rfl ?_
               | refine st_min rfl rfl ?_
               | refine st_max rfl rfl ?_
               | refine st_conv rfl rfl rfl rfl ?_
               | refine st_eql rfl rfl rfl ?_
               | refine st_neq rfl rfl rfl ?_
               | refine st_alloc rfl rfl ?_
               | refine st_box rfl ?_
               | refine st_field rfl rfl rfl rfl rfl ?_
               | refine st_build rfl rfl rfl rfl rfl ?_
               refine nx rfl rfl ?_)
            | refine aops_nil ?_
            | refine bskip rfl ?_
            | refine bskip0 rfl ?_
            | refine bguard rfl rfl (fun _ => ?_) (fun _ => ?_)
            | refine bguardB rfl rfl (fun _ => ?_) (fun _ => ?_))
        refine awp_ret ?_
        exact ⟨_, rfl, by simp [hab] <;> rfl, rfl⟩
end Go.Abs
namespace Go.Abs
/-- What lies behind the caller's objects is dropped. -/
theorem imp_cut {E : Env} {N n : Nat} {sl sl' : List (Nat × AV)} {hp H0 : Hp} (hok : HOk n H0) (hh : hp.take n = H0) (hl : n ≤ hp.length) (hsl : ∀ p ∈ sl', get sl p.1 = p.2 ∧ IdsLt n p.2) : Imp E N n ⟨sl, hp⟩ ⟨sl', H0⟩ := by
  have := imp_gc (E := E) (N := N) (n0 := n) (s := ⟨sl, hp⟩) n [] sl' [] (Nat.le_refl _) hl (by simp) (by simp) (by rw [hh]; exact hok) (fun p hp => by
    rw [(hsl p hp).1]; exact ren_old n gcF_lt (hsl p hp).2) rfl (fun _ _ _ h => absurd h (by simp))
  simpa [hh] using this
theorem hok_int (k : Int) : HOk 1 [some (.cells [.int .i64 k] 3)] := fun j o ho => by
  match j, ho with
  | 0, ho => cases ho; exact ⟨trivial, trivial⟩
structure Tr where
  k : Int
  n : Int
def trA (t : Tr) : AV := .agg [.int .i64 t.k, .int .i64 t.n]
def Tr.fits (t : Tr) (k : Int) : Bool := decide (t.k = k) && (decide (0 < t.n) && decide (t.n < 64))

attribute [local irreducible] AStep aops AWp Nx awM
set_option maxHeartbeats 0 in
theorem keptfn_c (X : Nat → Prop) (t : Tr) (k : Int) :
    ACalls (E0 X) 45 [trA t, .ptr 0 0] [some (.cells [.int .i64 k] 3)] (fun r H' => r = .bool (t.fits k) ∧ H' = [some (.cells [.int .i64 k] 3)]) := by
  refine acalls_of Proofs.Try.func45 rfl Proofs.Try.ntmps45 (by kernel_rfl) rfl ?_
  intro hH hargs
  clear hH hargs
  obtain ⟨tk, tn⟩ := t
  refine awp_seq ?_
  refine awp_region rfl ?_
  repeat' (first | (refine Qa rfl ?_; try ((first | refine Q0 ?_ | refine Q1 ?_ | refine Q2 rfl ?_ | refine Q3 rfl rfl rfl ?_ | refine Q4 rfl rfl rfl rfl rfl ?_ | refine Q5 rfl ?_ | refine Q6 rfl ?_ | refine Q7 rfl rfl rfl ?_ | refine Q8 rfl rfl rfl ?_ | refine Q9 rfl rfl rfl rfl ?_ | refine QA rfl rfl (by decide) ?_ | refine QB rfl rfl (by decide) ?_ | refine QC rfl rfl ?_ | refine QD rfl ?_ | refine QE rfl rfl ?_ | refine QF rfl rfl ?_ | refine QG rfl rfl rfl rfl ?_ | refine QH rfl rfl rfl ?_ | refine QI rfl rfl rfl ?_ | refine QJ rfl rfl ?_ | refine QK rfl ?_ | refine QM rfl rfl rfl rfl rfl ?_ | refine QP rfl rfl rfl rfl rfl rfl ?_ | refine QQ rfl rfl rfl rfl rfl rfl rfl rfl rfl rfl rfl ?_); refine QX rfl rfl ?_)) | (refine Qb rfl ?_; try (refine QS rfl rfl rfl rfl rfl rfl rfl ?_; refine QX rfl rfl ?_)) | refine Qh ?_ | refine Qi rfl ?_ | refine Qj rfl ?_ | refine Qy rfl rfl (fun _ => ?_) (fun _ => ?_) | refine Qz rfl rfl (fun _ => ?_) (fun _ => ?_))
  refine awp_seq ?_
  refine awp_region rfl ?_
  repeat' (first | (refine Qa rfl ?_; try ((first | refine Q0 ?_ | refine Q1 ?_ | refine Q2 rfl ?_ | refine Q3 rfl rfl rfl ?_ | refine Q4 rfl rfl rfl rfl rfl ?_ | refine Q5 rfl ?_ | refine Q6 rfl ?_ | refine Q7 rfl rfl rfl ?_ | refine Q8 rfl rfl rfl ?_ | refine Q9 rfl rfl rfl rfl ?_ | refine QA rfl rfl (by decide) ?_ | refine QB rfl rfl (by decide) ?_ | refine QC rfl rfl ?_ | refine QD rfl ?_ | refine QE rfl rfl ?_ | refine QF rfl rfl ?_ | refine QG rfl rfl rfl rfl ?_ | refine QH rfl rfl rfl ?_ | refine QI rfl rfl rfl ?_ | refine QJ rfl rfl ?_ | refine QK rfl ?_ | refine QM rfl rfl rfl rfl rfl ?_ | refine QP rfl rfl rfl rfl rfl rfl ?_ | refine QQ rfl rfl rfl rfl rfl rfl rfl rfl rfl rfl rfl ?_); refine QX rfl rfl ?_)) | (refine Qb rfl ?_; try (refine QS rfl rfl rfl rfl rfl rfl rfl ?_; refine QX rfl rfl ?_)) | refine Qh ?_ | refine Qi rfl ?_ | refine Qj rfl ?_ | refine Qy rfl rfl (fun _ => ?_) (fun _ => ?_) | refine Qz rfl rfl (fun _ => ?_) (fun _ => ?_))
  · rename_i h1 h2
    have h1' : tk = k := h1
    have h2' : 0 < tn := h2
    refine awp_pre (imp_cut (sl' := [(3, .bool (decide (tn < 64)))]) (hok_int k) rfl (by simp) (fa_cons ⟨rfl, trivial⟩ fa_nil)) ?_
    refine awp_ret ?_
    exact ⟨_, rfl, by simp [Tr.fits, h1', h2', one, get_cons], rfl⟩
  · rename_i h1 h2
    have h2' : ¬ 0 < tn := h2
    refine awp_pre (imp_cut (sl' := [(3, .bool false)]) (hok_int k) rfl (by simp) (fa_cons ⟨rfl, trivial⟩ fa_nil)) ?_
    refine awp_ret ?_
    exact ⟨_, rfl, by simp [Tr.fits, h2', one, get_cons], rfl⟩
  · rename_i h1
    have h1' : ¬ tk = k := h1
    refine awp_pre (imp_cut (sl' := [(3, .bool false)]) (hok_int k) rfl (by simp) (fa_cons ⟨rfl, trivial⟩ fa_nil)) ?_
    refine awp_ret ?_
    exact ⟨_, rfl, by simp [Tr.fits, h1', one, get_cons], rfl⟩
end Go.Abs
namespace Go.Abs
def firstFit (k : Int) : List Tr → Nat → Option (Nat × Tr)
  | [], _ => none
  | t :: ts, i => if t.fits k = true then some (i, t) else firstFit k ts (i + 1)
def fitIx (ts : List Tr) (k : Int) : Int := match firstFit k ts 0 with
  | some (i, _) => i
  | none => -1
theorem tr_get {l : List Tr} {k : Nat} {p : Tr} (h : l[k]? = some p) : (l.map trA)[k]? = some (trA p) := by simp [h]
theorem ids_tr (l : List Tr) : IdsLtL 0 (l.map trA) := ids_map (fun _ => by simp [trA, IdsLt, IdsLtL]) l
structure IxI (ts : List Tr) (k : Int) where
  i : Nat
  hi : i ≤ ts.length
  h : firstFit k (ts.drop i) i = firstFit k ts 0
def ixS (ts : List Tr) (k : Int) (j : IxI ts k) : St :=
  ⟨[(0, .sl 2 (ts.map trA)), (1, .clo (.func 45) [] [.ptr 0 0]), (7, .int .i64 ts.length), (8, .int .i64 j.i)], [some (.cells [.int .i64 k] 3)]⟩

attribute [local irreducible] AStep aops AWp Nx awM
set_option maxHeartbeats 0 in
theorem index_c (X : Nat → Prop) (ts : List Tr) (k : Int) (hl : ts.length ≤ 1073741824) :
    ACalls (E0 X) 44 [.sl 2 (ts.map trA), .clo (.func 45) [] [.ptr 0 0]] [some (.cells [.int .i64 k] 3)]
      (fun r H' => r = .int .i64 (fitIx ts k) ∧ H' = [some (.cells [.int .i64 k] 3)]) := by
  refine acalls_of Proofs.Try.func44 rfl Proofs.Try.ntmps44 (by kernel_rfl) rfl ?_
  intro hH hargs
  clear hH hargs
  refine awp_seq ?_
  refine awp_region rfl ?_
  repeat' (first | (refine Qa rfl ?_; try ((first | refine Q0 ?_ | refine Q1 ?_ | refine Q2 rfl ?_ | refine Q3 rfl rfl rfl ?_ | refine Q4 rfl rfl rfl rfl rfl ?_ | refine Q5 rfl ?_ | refine Q6 rfl ?_ | refine Q7 rfl rfl rfl ?_ | refine Q8 rfl rfl rfl ?_ | refine Q9 rfl rfl rfl rfl ?_ | refine QA rfl rfl (by decide) ?_ | refine QB rfl rfl (by decide) ?_ | refine QC rfl rfl ?_ | refine QD rfl ?_ | refine QE rfl rfl ?_ | refine QF rfl rfl ?_ | refine QG rfl rfl rfl rfl ?_ | refine QH rfl rfl rfl ?_ | refine QI rfl rfl rfl ?_ | refine QJ rfl rfl ?_ | refine QK rfl ?_ | refine QM rfl rfl rfl rfl rfl ?_ | refine QP rfl rfl rfl rfl rfl rfl ?_ | refine QQ rfl rfl rfl rfl rfl rfl rfl rfl rfl rfl rfl ?_); refine QX rfl rfl ?_)) | (refine Qb rfl ?_; try (refine QS rfl rfl rfl rfl rfl rfl rfl ?_; refine QX rfl rfl ?_)) | refine Qh ?_ | refine Qi rfl ?_ | refine Qj rfl ?_ | refine Qy rfl rfl (fun _ => ?_) (fun _ => ?_) | refine Qz rfl rfl (fun _ => ?_) (fun _ => ?_))
  refine awp_seq ?_
  refine awp_seq ?_
  refine awp_region rfl ?_
  repeat' (first | (refine Qa rfl ?_; try ((first | refine Q0 ?_ | refine Q1 ?_ | refine Q2 rfl ?_ | refine Q3 rfl rfl rfl ?_ | refine Q4 rfl rfl rfl rfl rfl ?_ | refine Q5 rfl ?_ | refine Q6 rfl ?_ | refine Q7 rfl rfl rfl ?_ | refine Q8 rfl rfl rfl ?_ | refine Q9 rfl rfl rfl rfl ?_ | refine QA rfl rfl (by decide) ?_ | refine QB rfl rfl (by decide) ?_ | refine QC rfl rfl ?_ | refine QD rfl ?_ | refine QE rfl rfl ?_ | refine QF rfl rfl ?_ | refine QG rfl rfl rfl rfl ?_ | refine QH rfl rfl rfl ?_ | refine QI rfl rfl rfl ?_ | refine QJ rfl rfl ?_ | refine QK rfl ?_ | refine QM rfl rfl rfl rfl rfl ?_ | refine QP rfl rfl rfl rfl rfl rfl ?_ | refine QQ rfl rfl rfl rfl rfl rfl rfl rfl rfl rfl rfl ?_); refine QX rfl rfl ?_)) | (refine Qb rfl ?_; try (refine QS rfl rfl rfl rfl rfl rfl rfl ?_; refine QX rfl rfl ?_)) | refine Qh ?_ | refine Qi rfl ?_ | refine Qj rfl ?_ | refine Qy rfl rfl (fun _ => ?_) (fun _ => ?_) | refine Qz rfl rfl (fun _ => ?_) (fun _ => ?_))
  refine awp_block ?_
  refine awp_loop (ixS ts k) (fun j => ts.length - j.i) ⟨0, Nat.zero_le _, rfl⟩ ?_ ?_
  · refine imp_cut (hok_int k) rfl (by simp) (fa_cons ⟨rfl, ids_mono (Nat.zero_le _) (ids_tr ts)⟩ (fa_cons ⟨rfl, ?_⟩ (fa_cons ⟨?_, trivial⟩ (fa_cons ⟨rfl, trivial⟩ fa_nil))))
    · simp [IdsLt, IdsLtL]
    · simp [get_cons]
  · rintro ⟨i, hi, h⟩
    show AWp (E0 X) _ _ _ _ ⟨[(0, .sl 2 (ts.map trA)), (1, .clo (.func 45) [] [.ptr 0 0]), (7, .int .i64 ts.length), (8, .int .i64 i)], [some (.cells [.int .i64 k] 3)]⟩
    refine awp_seq ?_
    refine awp_region rfl ?_
    repeat' (first | (refine Qa rfl ?_; try ((first | refine Q0 ?_ | refine Q1 ?_ | refine Q2 rfl ?_ | refine Q3 rfl rfl rfl ?_ | refine Q4 rfl rfl rfl rfl rfl ?_ | refine Q5 rfl ?_ | refine Q6 rfl ?_ | refine Q7 rfl rfl rfl ?_ | refine Q8 rfl rfl rfl ?_ | refine Q9 rfl rfl rfl rfl ?_ | refine QA rfl rfl (by decide) ?_ | refine QB rfl rfl (by decide) ?_ | refine QC rfl rfl ?_ | refine QD rfl ?_ | refine QE rfl rfl ?_ | refine QF rfl rfl ?_ | refine QG rfl rfl rfl rfl ?_ | refine QH rfl rfl rfl ?_ | refine QI rfl rfl rfl ?_ | refine QJ rfl rfl ?_ | refine QK rfl ?_ | refine QM rfl rfl rfl rfl rfl ?_ | refine QP rfl rfl rfl rfl rfl rfl ?_ | refine QQ rfl rfl rfl rfl rfl rfl rfl rfl rfl rfl rfl ?_); refine QX rfl rfl ?_)) | (refine Qb rfl ?_; try (refine QS rfl rfl rfl rfl rfl rfl rfl ?_; refine QX rfl rfl ?_)) | refine Qh ?_ | refine Qi rfl ?_ | refine Qj rfl ?_ | refine Qy rfl rfl (fun _ => ?_) (fun _ => ?_) | refine Qz rfl rfl (fun _ => ?_) (fun _ => ?_))
    refine awp_seq ?_
    refine awp_cond_dec rfl (fun hlt => ?_) (fun hge => ?_)
    · have hil : i < ts.length := by simpa using hlt
      obtain ⟨q, hq⟩ : ∃ q, ts[i]? = some q := ⟨_, List.getElem?_eq_getElem hil⟩
      have hdrop : ts.drop i = q :: ts.drop (i + 1) := by
        obtain ⟨h1, rfl⟩ := List.getElem?_eq_some_iff.1 hq
        exact List.drop_eq_getElem_cons h1
      rw [hdrop] at h
      refine awp_skip ?_
      refine awp_seq ?_
      refine awp_block ?_
      refine awp_seq ?_
      refine awp_region rfl ?_
      repeat' (first | (refine Qa rfl ?_; try ((first | refine Q0 ?_ | refine Q1 ?_ | refine Q2 rfl ?_ | refine Q3 rfl rfl rfl ?_ | refine Q4 rfl rfl rfl rfl rfl ?_ | refine Q5 rfl ?_ | refine Q6 rfl ?_ | refine Q7 rfl rfl rfl ?_ | refine Q8 rfl rfl rfl ?_ | refine Q9 rfl rfl rfl rfl ?_ | refine QA rfl rfl (by decide) ?_ | refine QB rfl rfl (by decide) ?_ | refine QC rfl rfl ?_ | refine QD rfl ?_ | refine QE rfl rfl ?_ | refine QF rfl rfl ?_ | refine QG rfl rfl rfl rfl ?_ | refine QH rfl rfl rfl ?_ | refine QI rfl rfl rfl ?_ | refine QJ rfl rfl ?_ | refine QK rfl ?_ | refine QM rfl rfl rfl rfl rfl ?_ | refine QP rfl rfl rfl rfl rfl rfl ?_ | refine QQ rfl rfl rfl rfl rfl rfl rfl rfl rfl rfl rfl ?_); refine QX rfl rfl ?_)) | (refine Qb rfl ?_; try (refine QS rfl rfl rfl rfl rfl rfl rfl ?_; refine QX rfl rfl ?_)) | refine Qh ?_ | refine Qi rfl ?_ | refine Qj rfl ?_ | refine Qy rfl rfl (fun _ => ?_) (fun _ => ?_) | refine Qz rfl rfl (fun _ => ?_) (fun _ => ?_))
      refine awp_seq ?_
      refine awp_region rfl ?_
      repeat' (first | (refine Qa rfl ?_; try ((first | refine Q0 ?_ | refine Q1 ?_ | refine Q2 rfl ?_ | refine Q3 rfl rfl rfl ?_ | refine Q4 rfl rfl rfl rfl rfl ?_ | refine Q5 rfl ?_ | refine Q6 rfl ?_ | refine Q7 rfl rfl rfl ?_ | refine Q8 rfl rfl rfl ?_ | refine Q9 rfl rfl rfl rfl ?_ | refine QA rfl rfl (by decide) ?_ | refine QB rfl rfl (by decide) ?_ | refine QC rfl rfl ?_ | refine QD rfl ?_ | refine QE rfl rfl ?_ | refine QF rfl rfl ?_ | refine QG rfl rfl rfl rfl ?_ | refine QH rfl rfl rfl ?_ | refine QI rfl rfl rfl ?_ | refine QJ rfl rfl ?_ | refine QK rfl ?_ | refine QM rfl rfl rfl rfl rfl ?_ | refine QP rfl rfl rfl rfl rfl rfl ?_ | refine QQ rfl rfl rfl rfl rfl rfl rfl rfl rfl rfl rfl ?_); refine QX rfl rfl ?_)) | (refine Qb rfl ?_; try (refine QS rfl rfl rfl rfl rfl rfl rfl ?_; refine QX rfl rfl ?_)) | refine Qh ?_ | refine Qi rfl ?_ | refine Qj rfl ?_ | refine Qy rfl rfl (fun _ => ?_) (fun _ => ?_) | refine Qz rfl rfl (fun _ => ?_) (fun _ => ?_))
      refine st_index_sl (k := 2) (es := ts.map trA) (e := 67) (kk := .i64) (n := i) (j := i) (y := trA q) rfl rfl rfl ?_ ?_ rfl rfl (tr_get hq) rfl rfl ?_
      · rfl
      · rfl
      refine nx rfl rfl ?_
      repeat' (first | (refine Qa rfl ?_; try ((first | refine Q0 ?_ | refine Q1 ?_ | refine Q2 rfl ?_ | refine Q3 rfl rfl rfl ?_ | refine Q4 rfl rfl rfl rfl rfl ?_ | refine Q5 rfl ?_ | refine Q6 rfl ?_ | refine Q7 rfl rfl rfl ?_ | refine Q8 rfl rfl rfl ?_ | refine Q9 rfl rfl rfl rfl ?_ | refine QA rfl rfl (by decide) ?_ | refine QB rfl rfl (by decide) ?_ | refine QC rfl rfl ?_ | refine QD rfl ?_ | refine QE rfl rfl ?_ | refine QF rfl rfl ?_ | refine QG rfl rfl rfl rfl ?_ | refine QH rfl rfl rfl ?_ | refine QI rfl rfl rfl ?_ | refine QJ rfl rfl ?_ | refine QK rfl ?_ | refine QM rfl rfl rfl rfl rfl ?_ | refine QP rfl rfl rfl rfl rfl rfl ?_ | refine QQ rfl rfl rfl rfl rfl rfl rfl rfl rfl rfl rfl ?_); refine QX rfl rfl ?_)) | (refine Qb rfl ?_; try (refine QS rfl rfl rfl rfl rfl rfl rfl ?_; refine QX rfl rfl ?_)) | refine Qh ?_ | refine Qi rfl ?_ | refine Qj rfl ?_ | refine Qy rfl rfl (fun _ => ?_) (fun _ => ?_) | refine Qz rfl rfl (fun _ => ?_) (fun _ => ?_))
      refine st_call (fun _ => rfl) rfl ?_
      refine ACalls.mono (keptfn_c X q k) ?_
      rintro r H' ⟨rfl, rfl⟩
      refine nx rfl rfl ?_
      repeat' (first | (refine Qa rfl ?_; try ((first | refine Q0 ?_ | refine Q1 ?_ | refine Q2 rfl ?_ | refine Q3 rfl rfl rfl ?_ | refine Q4 rfl rfl rfl rfl rfl ?_ | refine Q5 rfl ?_ | refine Q6 rfl ?_ | refine Q7 rfl rfl rfl ?_ | refine Q8 rfl rfl rfl ?_ | refine Q9 rfl rfl rfl rfl ?_ | refine QA rfl rfl (by decide) ?_ | refine QB rfl rfl (by decide) ?_ | refine QC rfl rfl ?_ | refine QD rfl ?_ | refine QE rfl rfl ?_ | refine QF rfl rfl ?_ | refine QG rfl rfl rfl rfl ?_ | refine QH rfl rfl rfl ?_ | refine QI rfl rfl rfl ?_ | refine QJ rfl rfl ?_ | refine QK rfl ?_ | refine QM rfl rfl rfl rfl rfl ?_ | refine QP rfl rfl rfl rfl rfl rfl ?_ | refine QQ rfl rfl rfl rfl rfl rfl rfl rfl rfl rfl rfl ?_); refine QX rfl rfl ?_)) | (refine Qb rfl ?_; try (refine QS rfl rfl rfl rfl rfl rfl rfl ?_; refine QX rfl rfl ?_)) | refine Qh ?_ | refine Qi rfl ?_ | refine Qj rfl ?_ | refine Qy rfl rfl (fun _ => ?_) (fun _ => ?_) | refine Qz rfl rfl (fun _ => ?_) (fun _ => ?_))
      refine awp_cond rfl (fun hf => ?_) (fun hf => ?_)
      · refine awp_seq ?_
        refine awp_region rfl ?_
        repeat' (first | (refine Qa rfl ?_; try ((first | refine Q0 ?_ | refine Q1 ?_ | refine Q2 rfl ?_ | refine Q3 rfl rfl rfl ?_ | refine Q4 rfl rfl rfl rfl rfl ?_ | refine Q5 rfl ?_ | refine Q6 rfl ?_ | refine Q7 rfl rfl rfl ?_ | refine Q8 rfl rfl rfl ?_ | refine Q9 rfl rfl rfl rfl ?_ | refine QA rfl rfl (by decide) ?_ | refine QB rfl rfl (by decide) ?_ | refine QC rfl rfl ?_ | refine QD rfl ?_ | refine QE rfl rfl ?_ | refine QF rfl rfl ?_ | refine QG rfl rfl rfl rfl ?_ | refine QH rfl rfl rfl ?_ | refine QI rfl rfl rfl ?_ | refine QJ rfl rfl ?_ | refine QK rfl ?_ | refine QM rfl rfl rfl rfl rfl ?_ | refine QP rfl rfl rfl rfl rfl rfl ?_ | refine QQ rfl rfl rfl rfl rfl rfl rfl rfl rfl rfl rfl ?_); refine QX rfl rfl ?_)) | (refine Qb rfl ?_; try (refine QS rfl rfl rfl rfl rfl rfl rfl ?_; refine QX rfl rfl ?_)) | refine Qh ?_ | refine Qi rfl ?_ | refine Qj rfl ?_ | refine Qy rfl rfl (fun _ => ?_) (fun _ => ?_) | refine Qz rfl rfl (fun _ => ?_) (fun _ => ?_))
        refine awp_ret ?_
        refine ⟨_, rfl, ?_, rfl⟩
        have : fitIx ts k = (i : Int) := by unfold fitIx; rw [← h]; simp [firstFit, hf]
        rw [this]; rfl
      · refine awp_skip ?_
        refine awp_region rfl ?_
        repeat' (first | (refine Qa rfl ?_; try ((first | refine Q0 ?_ | refine Q1 ?_ | refine Q2 rfl ?_ | refine Q3 rfl rfl rfl ?_ | refine Q4 rfl rfl rfl rfl rfl ?_ | refine Q5 rfl ?_ | refine Q6 rfl ?_ | refine Q7 rfl rfl rfl ?_ | refine Q8 rfl rfl rfl ?_ | refine Q9 rfl rfl rfl rfl ?_ | refine QA rfl rfl (by decide) ?_ | refine QB rfl rfl (by decide) ?_ | refine QC rfl rfl ?_ | refine QD rfl ?_ | refine QE rfl rfl ?_ | refine QF rfl rfl ?_ | refine QG rfl rfl rfl rfl ?_ | refine QH rfl rfl rfl ?_ | refine QI rfl rfl rfl ?_ | refine QJ rfl rfl ?_ | refine QK rfl ?_ | refine QM rfl rfl rfl rfl rfl ?_ | refine QP rfl rfl rfl rfl rfl rfl ?_ | refine QQ rfl rfl rfl rfl rfl rfl rfl rfl rfl rfl rfl ?_); refine QX rfl rfl ?_)) | (refine Qb rfl ?_; try (refine QS rfl rfl rfl rfl rfl rfl rfl ?_; refine QX rfl rfl ?_)) | refine Qh ?_ | refine Qi rfl ?_ | refine Qj rfl ?_ | refine Qy rfl rfl (fun _ => ?_) (fun _ => ?_) | refine Qz rfl rfl (fun _ => ?_) (fun _ => ?_))
        refine then_i ?_
        refine ⟨⟨i + 1, by omega, by rw [← h]; simp [firstFit, hf]⟩, by show _ - (i + 1) < _ - i; omega, ?_⟩
        refine imp_cut (hok_int k) rfl (by simp) (fa_cons ⟨rfl, ids_mono (Nat.zero_le _) (ids_tr ts)⟩ (fa_cons ⟨rfl, ?_⟩ (fa_cons ⟨rfl, trivial⟩ (fa_cons ⟨?_, trivial⟩ fa_nil))))
        · simp [IdsLt, IdsLtL]
        · show AV.int .i64 (IntKind.i64.wrap (i + 1)) = _
          rw [wrap_in (by omega) (by omega)]; rfl
    · have hil : i = ts.length := by
        have : ¬ (i < ts.length) := fun hh => hge (by exact_mod_cast hh)
        omega
      refine awp_exit ?_
      refine then_x ?_
      refine then_x ?_
      refine blk_x ?_
      refine awp_seq ?_
      refine awp_region rfl ?_
      repeat' (first | (refine Qa rfl ?_; try ((first | refine Q0 ?_ | refine Q1 ?_ | refine Q2 rfl ?_ | refine Q3 rfl rfl rfl ?_ | refine Q4 rfl rfl rfl rfl rfl ?_ | refine Q5 rfl ?_ | refine Q6 rfl ?_ | refine Q7 rfl rfl rfl ?_ | refine Q8 rfl rfl rfl ?_ | refine Q9 rfl rfl rfl rfl ?_ | refine QA rfl rfl (by decide) ?_ | refine QB rfl rfl (by decide) ?_ | refine QC rfl rfl ?_ | refine QD rfl ?_ | refine QE rfl rfl ?_ | refine QF rfl rfl ?_ | refine QG rfl rfl rfl rfl ?_ | refine QH rfl rfl rfl ?_ | refine QI rfl rfl rfl ?_ | refine QJ rfl rfl ?_ | refine QK rfl ?_ | refine QM rfl rfl rfl rfl rfl ?_ | refine QP rfl rfl rfl rfl rfl rfl ?_ | refine QQ rfl rfl rfl rfl rfl rfl rfl rfl rfl rfl rfl ?_); refine QX rfl rfl ?_)) | (refine Qb rfl ?_; try (refine QS rfl rfl rfl rfl rfl rfl rfl ?_; refine QX rfl rfl ?_)) | refine Qh ?_ | refine Qi rfl ?_ | refine Qj rfl ?_ | refine Qy rfl rfl (fun _ => ?_) (fun _ => ?_) | refine Qz rfl rfl (fun _ => ?_) (fun _ => ?_))
      refine awp_ret ?_
      refine ⟨_, rfl, ?_, rfl⟩
      have : fitIx ts k = -1 := by unfold fitIx; rw [← h, hil]; simp [firstFit]
      rw [this]; rfl
end Go.Abs
namespace Go.Abs
def boA (b : Bool) : AV := .bool b
theorem bo_get {l : List Bool} {k : Nat} {p : Bool} (h : l[k]? = some p) : (l.map boA)[k]? = some (boA p) := by simp [h]
def keptN (k : Nat) (keep : List Bool) (ts : List Tr) : Int := match firstFit k ts 0 with
  | some (_, t) => t.n
  | none => if keep[k]? = some true then 64 else 0
theorem firstFit_some {k : Int} : ∀ {ts : List Tr} {b i : Nat} {t : Tr}, firstFit k ts b = some (i, t) → b ≤ i ∧ ts[i - b]? = some t
  | [], _, _, _, h => by simp [firstFit] at h
  | q :: ts, b, i, t, h => by
    simp only [firstFit] at h
    split at h
    · simp only [Option.some.injEq, Prod.mk.injEq] at h
      obtain ⟨rfl, rfl⟩ := h
      simp
    · obtain ⟨h1, h2⟩ := firstFit_some h
      refine ⟨by omega, ?_⟩
      have : i - b = (i - (b + 1)) + 1 := by omega
      rw [this]; simpa using h2

attribute [local irreducible] AStep aops AWp Nx awM
set_option maxHeartbeats 0 in
theorem kept_c (X : Nat → Prop) (k : Nat) (keep : List Bool) (ts : List Tr) (hl : ts.length ≤ 1073741824) :
    ACalls (E0 X) 36 [.int .i64 (k : Int), .sl 1 (keep.map boA), .sl 2 (ts.map trA)] [] (fun r H' => r = .int .i64 (keptN k keep ts) ∧ H' = []) := by
  refine acalls_of Proofs.Try.func36 rfl Proofs.Try.ntmps36 (by kernel_rfl) rfl ?_
  intro hH hargs
  clear hH hargs
  refine awp_seq ?_
  refine awp_region rfl ?_
  repeat' (first | (refine Qa rfl ?_; try ((first | refine Q0 ?_ | refine Q1 ?_ | refine Q2 rfl ?_ | refine Q3 rfl rfl rfl ?_ | refine Q4 rfl rfl rfl rfl rfl ?_ | refine Q5 rfl ?_ | refine Q6 rfl ?_ | refine Q7 rfl rfl rfl ?_ | refine Q8 rfl rfl rfl ?_ | refine Q9 rfl rfl rfl rfl ?_ | refine QA rfl rfl (by decide) ?_ | refine QB rfl rfl (by decide) ?_ | refine QC rfl rfl ?_ | refine QD rfl ?_ | refine QE rfl rfl ?_ | refine QF rfl rfl ?_ | refine QG rfl rfl rfl rfl ?_ | refine QH rfl rfl rfl ?_ | refine QI rfl rfl rfl ?_ | refine QJ rfl rfl ?_ | refine QK rfl ?_ | refine QM rfl rfl rfl rfl rfl ?_ | refine QP rfl rfl rfl rfl rfl rfl ?_ | refine QQ rfl rfl rfl rfl rfl rfl rfl rfl rfl rfl rfl ?_); refine QX rfl rfl ?_)) | (refine Qb rfl ?_; try (refine QS rfl rfl rfl rfl rfl rfl rfl ?_; refine QX rfl rfl ?_)) | refine Qh ?_ | refine Qi rfl ?_ | refine Qj rfl ?_ | refine Qy rfl rfl (fun _ => ?_) (fun _ => ?_) | refine Qz rfl rfl (fun _ => ?_) (fun _ => ?_))
  refine awp_seq ?_
  refine awp_region rfl ?_
  repeat' (first | (refine Qa rfl ?_; try ((first | refine Q0 ?_ | refine Q1 ?_ | refine Q2 rfl ?_ | refine Q3 rfl rfl rfl ?_ | refine Q4 rfl rfl rfl rfl rfl ?_ | refine Q5 rfl ?_ | refine Q6 rfl ?_ | refine Q7 rfl rfl rfl ?_ | refine Q8 rfl rfl rfl ?_ | refine Q9 rfl rfl rfl rfl ?_ | refine QA rfl rfl (by decide) ?_ | refine QB rfl rfl (by decide) ?_ | refine QC rfl rfl ?_ | refine QD rfl ?_ | refine QE rfl rfl ?_ | refine QF rfl rfl ?_ | refine QG rfl rfl rfl rfl ?_ | refine QH rfl rfl rfl ?_ | refine QI rfl rfl rfl ?_ | refine QJ rfl rfl ?_ | refine QK rfl ?_ | refine QM rfl rfl rfl rfl rfl ?_ | refine QP rfl rfl rfl rfl rfl rfl ?_ | refine QQ rfl rfl rfl rfl rfl rfl rfl rfl rfl rfl rfl ?_); refine QX rfl rfl ?_)) | (refine Qb rfl ?_; try (refine QS rfl rfl rfl rfl rfl rfl rfl ?_; refine QX rfl rfl ?_)) | refine Qh ?_ | refine Qi rfl ?_ | refine Qj rfl ?_ | refine Qy rfl rfl (fun _ => ?_) (fun _ => ?_) | refine Qz rfl rfl (fun _ => ?_) (fun _ => ?_))
  refine st_makeFunc ?_
  refine nx0 ?_
  repeat' (first | (refine Qa rfl ?_; try ((first | refine Q0 ?_ | refine Q1 ?_ | refine Q2 rfl ?_ | refine Q3 rfl rfl rfl ?_ | refine Q4 rfl rfl rfl rfl rfl ?_ | refine Q5 rfl ?_ | refine Q6 rfl ?_ | refine Q7 rfl rfl rfl ?_ | refine Q8 rfl rfl rfl ?_ | refine Q9 rfl rfl rfl rfl ?_ | refine QA rfl rfl (by decide) ?_ | refine QB rfl rfl (by decide) ?_ | refine QC rfl rfl ?_ | refine QD rfl ?_ | refine QE rfl rfl ?_ | refine QF rfl rfl ?_ | refine QG rfl rfl rfl rfl ?_ | refine QH rfl rfl rfl ?_ | refine QI rfl rfl rfl ?_ | refine QJ rfl rfl ?_ | refine QK rfl ?_ | refine QM rfl rfl rfl rfl rfl ?_ | refine QP rfl rfl rfl rfl rfl rfl ?_ | refine QQ rfl rfl rfl rfl rfl rfl rfl rfl rfl rfl rfl ?_); refine QX rfl rfl ?_)) | (refine Qb rfl ?_; try (refine QS rfl rfl rfl rfl rfl rfl rfl ?_; refine QX rfl rfl ?_)) | refine Qh ?_ | refine Qi rfl ?_ | refine Qj rfl ?_ | refine Qy rfl rfl (fun _ => ?_) (fun _ => ?_) | refine Qz rfl rfl (fun _ => ?_) (fun _ => ?_))
  refine st_call (fun _ => rfl) rfl ?_
  refine ACalls.mono (index_c X ts k hl) ?_
  rintro r H' ⟨rfl, rfl⟩
  refine nx rfl rfl ?_
  repeat' (first | (refine Qa rfl ?_; try ((first | refine Q0 ?_ | refine Q1 ?_ | refine Q2 rfl ?_ | refine Q3 rfl rfl rfl ?_ | refine Q4 rfl rfl rfl rfl rfl ?_ | refine Q5 rfl ?_ | refine Q6 rfl ?_ | refine Q7 rfl rfl rfl ?_ | refine Q8 rfl rfl rfl ?_ | refine Q9 rfl rfl rfl rfl ?_ | refine QA rfl rfl (by decide) ?_ | refine QB rfl rfl (by decide) ?_ | refine QC rfl rfl ?_ | refine QD rfl ?_ | refine QE rfl rfl ?_ | refine QF rfl rfl ?_ | refine QG rfl rfl rfl rfl ?_ | refine QH rfl rfl rfl ?_ | refine QI rfl rfl rfl ?_ | refine QJ rfl rfl ?_ | refine QK rfl ?_ | refine QM rfl rfl rfl rfl rfl ?_ | refine QP rfl rfl rfl rfl rfl rfl ?_ | refine QQ rfl rfl rfl rfl rfl rfl rfl rfl rfl rfl rfl ?_); refine QX rfl rfl ?_)) | (refine Qb rfl ?_; try (refine QS rfl rfl rfl rfl rfl rfl rfl ?_; refine QX rfl rfl ?_)) | refine Qh ?_ | refine Qi rfl ?_ | refine Qj rfl ?_ | refine Qy rfl rfl (fun _ => ?_) (fun _ => ?_) | refine Qz rfl rfl (fun _ => ?_) (fun _ => ?_))
  refine awp_seq ?_
  refine awp_block ?_
  refine awp_seq ?_
  refine awp_region rfl ?_
  repeat' (first | (refine Qa rfl ?_; try ((first | refine Q0 ?_ | refine Q1 ?_ | refine Q2 rfl ?_ | refine Q3 rfl rfl rfl ?_ | refine Q4 rfl rfl rfl rfl rfl ?_ | refine Q5 rfl ?_ | refine Q6 rfl ?_ | refine Q7 rfl rfl rfl ?_ | refine Q8 rfl rfl rfl ?_ | refine Q9 rfl rfl rfl rfl ?_ | refine QA rfl rfl (by decide) ?_ | refine QB rfl rfl (by decide) ?_ | refine QC rfl rfl ?_ | refine QD rfl ?_ | refine QE rfl rfl ?_ | refine QF rfl rfl ?_ | refine QG rfl rfl rfl rfl ?_ | refine QH rfl rfl rfl ?_ | refine QI rfl rfl rfl ?_ | refine QJ rfl rfl ?_ | refine QK rfl ?_ | refine QM rfl rfl rfl rfl rfl ?_ | refine QP rfl rfl rfl rfl rfl rfl ?_ | refine QQ rfl rfl rfl rfl rfl rfl rfl rfl rfl rfl rfl ?_); refine QX rfl rfl ?_)) | (refine Qb rfl ?_; try (refine QS rfl rfl rfl rfl rfl rfl rfl ?_; refine QX rfl rfl ?_)) | refine Qh ?_ | refine Qi rfl ?_ | refine Qj rfl ?_ | refine Qy rfl rfl (fun _ => ?_) (fun _ => ?_) | refine Qz rfl rfl (fun _ => ?_) (fun _ => ?_))
  cases hf : firstFit (k : Int) ts 0 with
  | some p =>
    obtain ⟨i, q⟩ := p
    have hix : fitIx ts k = (i : Int) := by unfold fitIx; rw [hf]
    obtain ⟨_, hq⟩ := firstFit_some hf
    rw [Nat.sub_zero] at hq
    refine awp_cond_dec rfl (fun _ => ?_) (fun hn => absurd (show (0 : Int) ≤ fitIx ts k by rw [hix]; omega) hn)
    refine awp_seq ?_
    refine awp_region rfl ?_
    repeat' (first | (refine Qa rfl ?_; try ((first | refine Q0 ?_ | refine Q1 ?_ | refine Q2 rfl ?_ | refine Q3 rfl rfl rfl ?_ | refine Q4 rfl rfl rfl rfl rfl ?_ | refine Q5 rfl ?_ | refine Q6 rfl ?_ | refine Q7 rfl rfl rfl ?_ | refine Q8 rfl rfl rfl ?_ | refine Q9 rfl rfl rfl rfl ?_ | refine QA rfl rfl (by decide) ?_ | refine QB rfl rfl (by decide) ?_ | refine QC rfl rfl ?_ | refine QD rfl ?_ | refine QE rfl rfl ?_ | refine QF rfl rfl ?_ | refine QG rfl rfl rfl rfl ?_ | refine QH rfl rfl rfl ?_ | refine QI rfl rfl rfl ?_ | refine QJ rfl rfl ?_ | refine QK rfl ?_ | refine QM rfl rfl rfl rfl rfl ?_ | refine QP rfl rfl rfl rfl rfl rfl ?_ | refine QQ rfl rfl rfl rfl rfl rfl rfl rfl rfl rfl rfl ?_); refine QX rfl rfl ?_)) | (refine Qb rfl ?_; try (refine QS rfl rfl rfl rfl rfl rfl rfl ?_; refine QX rfl rfl ?_)) | refine Qh ?_ | refine Qi rfl ?_ | refine Qj rfl ?_ | refine Qy rfl rfl (fun _ => ?_) (fun _ => ?_) | refine Qz rfl rfl (fun _ => ?_) (fun _ => ?_))
    refine st_index_sl (k := 2) (es := ts.map trA) (e := 67) (kk := .i64) (n := fitIx ts k) (j := i) (y := trA q) rfl rfl rfl ?_ ?_ rfl rfl (tr_get hq) hix rfl ?_
    · rfl
    · rfl
    refine nx rfl rfl ?_
    repeat' (first | (refine Qa rfl ?_; try ((first | refine Q0 ?_ | refine Q1 ?_ | refine Q2 rfl ?_ | refine Q3 rfl rfl rfl ?_ | refine Q4 rfl rfl rfl rfl rfl ?_ | refine Q5 rfl ?_ | refine Q6 rfl ?_ | refine Q7 rfl rfl rfl ?_ | refine Q8 rfl rfl rfl ?_ | refine Q9 rfl rfl rfl rfl ?_ | refine QA rfl rfl (by decide) ?_ | refine QB rfl rfl (by decide) ?_ | refine QC rfl rfl ?_ | refine QD rfl ?_ | refine QE rfl rfl ?_ | refine QF rfl rfl ?_ | refine QG rfl rfl rfl rfl ?_ | refine QH rfl rfl rfl ?_ | refine QI rfl rfl rfl ?_ | refine QJ rfl rfl ?_ | refine QK rfl ?_ | refine QM rfl rfl rfl rfl rfl ?_ | refine QP rfl rfl rfl rfl rfl rfl ?_ | refine QQ rfl rfl rfl rfl rfl rfl rfl rfl rfl rfl rfl ?_); refine QX rfl rfl ?_)) | (refine Qb rfl ?_; try (refine QS rfl rfl rfl rfl rfl rfl rfl ?_; refine QX rfl rfl ?_)) | refine Qh ?_ | refine Qi rfl ?_ | refine Qj rfl ?_ | refine Qy rfl rfl (fun _ => ?_) (fun _ => ?_) | refine Qz rfl rfl (fun _ => ?_) (fun _ => ?_))
    refine awp_pre (imp_tidy0 (sl' := [(6, .int .i64 q.n)]) (fa_cons (ren_val2 rfl trivial) fa_nil)) ?_
    refine awp_ret ?_
    have : keptN k keep ts = q.n := by unfold keptN; rw [hf]
    exact ⟨_, rfl, by rw [this]; rfl, rfl⟩
  | none =>
    have hix : fitIx ts k = -1 := by unfold fitIx; rw [hf]
    have hkn : keptN k keep ts = if keep[k]? = some true then 64 else 0 := by unfold keptN; rw [hf]
    rw [hkn]
    refine awp_cond_dec rfl (fun hn => absurd (show (0 : Int) ≤ fitIx ts k from hn) (by rw [hix]; omega)) (fun _ => ?_)
    refine awp_seq ?_
    refine awp_region rfl ?_
    rcases Nat.lt_or_ge k keep.length with hk | hk
    · obtain ⟨b, hb⟩ : ∃ b, keep[k]? = some b := ⟨_, List.getElem?_eq_getElem hk⟩
      repeat' (first | (refine Qa rfl ?_; try ((first | refine Q0 ?_ | refine Q1 ?_ | refine Q2 rfl ?_ | refine Q3 rfl rfl rfl ?_ | refine Q4 rfl rfl rfl rfl rfl ?_ | refine Q5 rfl ?_ | refine Q6 rfl ?_ | refine Q7 rfl rfl rfl ?_ | refine Q8 rfl rfl rfl ?_ | refine Q9 rfl rfl rfl rfl ?_ | refine QA rfl rfl (by decide) ?_ | refine QB rfl rfl (by decide) ?_ | refine QC rfl rfl ?_ | refine QD rfl ?_ | refine QE rfl rfl ?_ | refine QF rfl rfl ?_ | refine QG rfl rfl rfl rfl ?_ | refine QH rfl rfl rfl ?_ | refine QI rfl rfl rfl ?_ | refine QJ rfl rfl ?_ | refine QK rfl ?_ | refine QM rfl rfl rfl rfl rfl ?_ | refine QP rfl rfl rfl rfl rfl rfl ?_ | refine QQ rfl rfl rfl rfl rfl rfl rfl rfl rfl rfl rfl ?_); refine QX rfl rfl ?_)) | (refine Qb rfl ?_; try (refine QS rfl rfl rfl rfl rfl rfl rfl ?_; refine QX rfl rfl ?_)) | refine Qh ?_ | refine Qi rfl ?_ | refine Qj rfl ?_ | refine Qy rfl rfl (fun _ => ?_) (fun _ => ?_) | refine Qz rfl rfl (fun _ => ?_) (fun _ => ?_))
      · refine st_index_sl (k := 1) (es := keep.map boA) (e := 4) (kk := .i64) (n := k) (j := k) (y := boA b) rfl rfl rfl ?_ ?_ rfl rfl (bo_get hb) rfl rfl ?_
        · rfl
        · rfl
        refine nx rfl rfl ?_
        repeat' (first | (refine Qa rfl ?_; try ((first | refine Q0 ?_ | refine Q1 ?_ | refine Q2 rfl ?_ | refine Q3 rfl rfl rfl ?_ | refine Q4 rfl rfl rfl rfl rfl ?_ | refine Q5 rfl ?_ | refine Q6 rfl ?_ | refine Q7 rfl rfl rfl ?_ | refine Q8 rfl rfl rfl ?_ | refine Q9 rfl rfl rfl rfl ?_ | refine QA rfl rfl (by decide) ?_ | refine QB rfl rfl (by decide) ?_ | refine QC rfl rfl ?_ | refine QD rfl ?_ | refine QE rfl rfl ?_ | refine QF rfl rfl ?_ | refine QG rfl rfl rfl rfl ?_ | refine QH rfl rfl rfl ?_ | refine QI rfl rfl rfl ?_ | refine QJ rfl rfl ?_ | refine QK rfl ?_ | refine QM rfl rfl rfl rfl rfl ?_ | refine QP rfl rfl rfl rfl rfl rfl ?_ | refine QQ rfl rfl rfl rfl rfl rfl rfl rfl rfl rfl rfl ?_); refine QX rfl rfl ?_)) | (refine Qb rfl ?_; try (refine QS rfl rfl rfl rfl rfl rfl rfl ?_; refine QX rfl rfl ?_)) | refine Qh ?_ | refine Qi rfl ?_ | refine Qj rfl ?_ | refine Qy rfl rfl (fun _ => ?_) (fun _ => ?_) | refine Qz rfl rfl (fun _ => ?_) (fun _ => ?_))
        refine awp_cond rfl (fun ht => ?_) (fun ht => ?_)
        · refine awp_seq ?_
          refine awp_region rfl ?_
          repeat' (first | (refine Qa rfl ?_; try ((first | refine Q0 ?_ | refine Q1 ?_ | refine Q2 rfl ?_ | refine Q3 rfl rfl rfl ?_ | refine Q4 rfl rfl rfl rfl rfl ?_ | refine Q5 rfl ?_ | refine Q6 rfl ?_ | refine Q7 rfl rfl rfl ?_ | refine Q8 rfl rfl rfl ?_ | refine Q9 rfl rfl rfl rfl ?_ | refine QA rfl rfl (by decide) ?_ | refine QB rfl rfl (by decide) ?_ | refine QC rfl rfl ?_ | refine QD rfl ?_ | refine QE rfl rfl ?_ | refine QF rfl rfl ?_ | refine QG rfl rfl rfl rfl ?_ | refine QH rfl rfl rfl ?_ | refine QI rfl rfl rfl ?_ | refine QJ rfl rfl ?_ | refine QK rfl ?_ | refine QM rfl rfl rfl rfl rfl ?_ | refine QP rfl rfl rfl rfl rfl rfl ?_ | refine QQ rfl rfl rfl rfl rfl rfl rfl rfl rfl rfl rfl ?_); refine QX rfl rfl ?_)) | (refine Qb rfl ?_; try (refine QS rfl rfl rfl rfl rfl rfl rfl ?_; refine QX rfl rfl ?_)) | refine Qh ?_ | refine Qi rfl ?_ | refine Qj rfl ?_ | refine Qy rfl rfl (fun _ => ?_) (fun _ => ?_) | refine Qz rfl rfl (fun _ => ?_) (fun _ => ?_))
          refine awp_pre (imp_tidy0 (sl' := [(6, .int .i64 64)]) (fa_cons (ren_val2 rfl trivial) fa_nil)) ?_
          refine awp_ret ?_
          exact ⟨_, rfl, by rw [hb, ht]; rfl, rfl⟩
        · refine awp_skip ?_
          refine awp_seq ?_
          refine awp_region rfl ?_
          repeat' (first | (refine Qa rfl ?_; try ((first | refine Q0 ?_ | refine Q1 ?_ | refine Q2 rfl ?_ | refine Q3 rfl rfl rfl ?_ | refine Q4 rfl rfl rfl rfl rfl ?_ | refine Q5 rfl ?_ | refine Q6 rfl ?_ | refine Q7 rfl rfl rfl ?_ | refine Q8 rfl rfl rfl ?_ | refine Q9 rfl rfl rfl rfl ?_ | refine QA rfl rfl (by decide) ?_ | refine QB rfl rfl (by decide) ?_ | refine QC rfl rfl ?_ | refine QD rfl ?_ | refine QE rfl rfl ?_ | refine QF rfl rfl ?_ | refine QG rfl rfl rfl rfl ?_ | refine QH rfl rfl rfl ?_ | refine QI rfl rfl rfl ?_ | refine QJ rfl rfl ?_ | refine QK rfl ?_ | refine QM rfl rfl rfl rfl rfl ?_ | refine QP rfl rfl rfl rfl rfl rfl ?_ | refine QQ rfl rfl rfl rfl rfl rfl rfl rfl rfl rfl rfl ?_); refine QX rfl rfl ?_)) | (refine Qb rfl ?_; try (refine QS rfl rfl rfl rfl rfl rfl rfl ?_; refine QX rfl rfl ?_)) | refine Qh ?_ | refine Qi rfl ?_ | refine Qj rfl ?_ | refine Qy rfl rfl (fun _ => ?_) (fun _ => ?_) | refine Qz rfl rfl (fun _ => ?_) (fun _ => ?_))
          refine awp_pre (imp_tidy0 (sl' := [(6, .int .i64 0)]) (fa_cons (ren_val2 rfl trivial) fa_nil)) ?_
          refine awp_ret ?_
          exact ⟨_, rfl, by rw [hb, ht]; rfl, rfl⟩
      · rename_i hh
        exact absurd (by simp; omega) hh
    · skip
      repeat' (first | (refine Qa rfl ?_; try ((first | refine Q0 ?_ | refine Q1 ?_ | refine Q2 rfl ?_ | refine Q3 rfl rfl rfl ?_ | refine Q4 rfl rfl rfl rfl rfl ?_ | refine Q5 rfl ?_ | refine Q6 rfl ?_ | refine Q7 rfl rfl rfl ?_ | refine Q8 rfl rfl rfl ?_ | refine Q9 rfl rfl rfl rfl ?_ | refine QA rfl rfl (by decide) ?_ | refine QB rfl rfl (by decide) ?_ | refine QC rfl rfl ?_ | refine QD rfl ?_ | refine QE rfl rfl ?_ | refine QF rfl rfl ?_ | refine QG rfl rfl rfl rfl ?_ | refine QH rfl rfl rfl ?_ | refine QI rfl rfl rfl ?_ | refine QJ rfl rfl ?_ | refine QK rfl ?_ | refine QM rfl rfl rfl rfl rfl ?_ | refine QP rfl rfl rfl rfl rfl rfl ?_ | refine QQ rfl rfl rfl rfl rfl rfl rfl rfl rfl rfl rfl ?_); refine QX rfl rfl ?_)) | (refine Qb rfl ?_; try (refine QS rfl rfl rfl rfl rfl rfl rfl ?_; refine QX rfl rfl ?_)) | refine Qh ?_ | refine Qi rfl ?_ | refine Qj rfl ?_ | refine Qy rfl rfl (fun _ => ?_) (fun _ => ?_) | refine Qz rfl rfl (fun _ => ?_) (fun _ => ?_))
      · rename_i hh
        have h9 : (k : Int) < ((keep.map boA).length : Int) := hh
        simp at h9
        omega
      · refine awp_cond_false rfl ?_
        refine awp_skip ?_
        refine awp_seq ?_
        refine awp_region rfl ?_
        repeat' (first | (refine Qa rfl ?_; try ((first | refine Q0 ?_ | refine Q1 ?_ | refine Q2 rfl ?_ | refine Q3 rfl rfl rfl ?_ | refine Q4 rfl rfl rfl rfl rfl ?_ | refine Q5 rfl ?_ | refine Q6 rfl ?_ | refine Q7 rfl rfl rfl ?_ | refine Q8 rfl rfl rfl ?_ | refine Q9 rfl rfl rfl rfl ?_ | refine QA rfl rfl (by decide) ?_ | refine QB rfl rfl (by decide) ?_ | refine QC rfl rfl ?_ | refine QD rfl ?_ | refine QE rfl rfl ?_ | refine QF rfl rfl ?_ | refine QG rfl rfl rfl rfl ?_ | refine QH rfl rfl rfl ?_ | refine QI rfl rfl rfl ?_ | refine QJ rfl rfl ?_ | refine QK rfl ?_ | refine QM rfl rfl rfl rfl rfl ?_ | refine QP rfl rfl rfl rfl rfl rfl ?_ | refine QQ rfl rfl rfl rfl rfl rfl rfl rfl rfl rfl rfl ?_); refine QX rfl rfl ?_)) | (refine Qb rfl ?_; try (refine QS rfl rfl rfl rfl rfl rfl rfl ?_; refine QX rfl rfl ?_)) | refine Qh ?_ | refine Qi rfl ?_ | refine Qj rfl ?_ | refine Qy rfl rfl (fun _ => ?_) (fun _ => ?_) | refine Qz rfl rfl (fun _ => ?_) (fun _ => ?_))
        refine awp_pre (imp_tidy0 (sl' := [(6, .int .i64 0)]) (fa_cons (ren_val2 rfl trivial) fa_nil)) ?_
        refine awp_ret ?_
        exact ⟨_, rfl, by rw [List.getElem?_eq_none hk]; rfl, rfl⟩
end Go.Abs
namespace Go.Abs
@[simp] theorem boA_ids {n : Nat} {b : Bool} : IdsLt n (boA b) := trivial
@[simp] theorem trA_ids {n : Nat} {b : Tr} : IdsLt n (trA b) := ⟨trivial, trivial, trivial⟩
theorem hok_nil : HOk 0 [] := fun _ _ h => by simp at h
attribute [local irreducible] AStep aops AWp Nx awM
set_option maxHeartbeats 0 in
theorem rkept_c (X : Nat → Prop) (k : Nat) (keep : List Bool) (ts : List Tr) (hl : ts.length ≤ 1073741824) :
    ACalls (E0 X) 39 [.int .i64 (k : Int), .sl 1 (keep.map boA), .sl 2 (ts.map trA)] [] (fun r H' => r = .int .i64 (keptN k keep ts) ∧ H' = []) := by
  refine acalls_of Proofs.Try.func39 rfl Proofs.Try.ntmps39 (by kernel_rfl) rfl ?_
  intro hH hargs
  clear hH hargs
  repeat' (first | ((first | refine Qa rfl ?_ | refine Qc rfl rfl rfl ?_ | apply Qd rfl rfl rfl rfl | (apply Qe rfl rfl rfl rfl; intro H9)); (first | refine Q0 ?_ | refine Q1 ?_ | refine Q2 rfl ?_ | refine Q3 rfl rfl rfl ?_ | refine Q4 rfl rfl rfl rfl rfl ?_ | refine Q5 rfl ?_ | refine Q6 rfl ?_ | refine Q7 rfl rfl rfl ?_ | refine Q8 rfl rfl rfl ?_ | refine Q9 rfl rfl rfl rfl ?_ | refine QA rfl rfl (by decide) ?_ | refine QB rfl rfl (by decide) ?_ | refine QC rfl rfl ?_ | refine QD rfl ?_ | refine QE rfl rfl ?_ | refine QF rfl rfl ?_ | refine QG rfl rfl rfl rfl ?_ | refine QH rfl rfl rfl ?_ | refine QI rfl rfl rfl ?_ | refine QJ rfl rfl ?_ | refine QK rfl ?_ | refine QM rfl rfl rfl rfl rfl ?_ | refine QN ?_ | refine QO ?_ | refine QP rfl rfl rfl rfl rfl rfl ?_ | refine QQ rfl rfl rfl rfl rfl rfl rfl rfl rfl rfl rfl ?_ | refine QR rfl rfl rfl rfl rfl rfl rfl rfl rfl rfl rfl rfl ?_); (first | exact QX rfl rfl ⟨rfl, rfl⟩ | exact QY rfl ⟨rfl, rfl⟩ | exact QZ ⟨rfl, rfl⟩ | refine QX rfl rfl ?_ | refine QZ ?_)) | refine Qa rfl ?_ | (refine Qb rfl ?_; try (refine QS rfl rfl rfl rfl rfl rfl rfl ?_; (first | refine QX rfl rfl ?_ | refine QZ ?_))) | refine Qh ?_ | refine Qi rfl ?_ | refine Qj rfl ?_ | (refine Qf rfl rfl rfl ?_; refine QS rfl rfl rfl rfl rfl rfl rfl ?_; (first | refine QX rfl rfl ?_ | refine QZ ?_)) | apply Qg rfl rfl | refine Qk ?_ | refine Ql ?_ | refine Qm ?_ | refine Qn ?_ | refine Qo rfl ?_ | refine Qp rfl ?_ | refine Qq rfl ?_ | refine Qr ?_ | refine Qs ?_ | refine Qt ?_ | refine Qu ?_ | refine Qv ?_ | refine Qw (by kernel_rfl) ?_ | refine Qx rfl (by kernel_rfl) ?_ | ((fail_if_success refine QV rfl ?_); first | refine Qy rfl rfl (fun _ => ?_) (fun _ => ?_) | refine Qz rfl rfl (fun _ => ?_) (fun _ => ?_)) | ((fail_if_success refine QW rfl rfl ?_); first | refine QT rfl rfl rfl (fun _ => ?_) (fun _ => ?_) | refine QU rfl rfl rfl (fun _ => ?_) (fun _ => ?_)))
  refine awp_loop2 (fun i : Nat => ⟨[(0, .int .i64 (k : Int)), (1, .sl 1 (keep.map boA)), (2, .sl 2 (ts.map trA)), (9, .sl 2 (ts.map trA)), (10, .int .i64 ts.length), (11, .int .i64 i)], []⟩)
    (fun i => i ≤ ts.length ∧ firstFit k (ts.drop i) i = firstFit k ts 0) (fun i => ts.length - i) 0 ⟨Nat.zero_le _, rfl⟩ ?_ ?_
  · refine imp_cutk 0 (Nat.zero_le _) hok_nil rfl (by simp) ?_
    repeat' (first | exact fa_nil | refine fa_cons ⟨?_, ?_⟩ ?_)
    all_goals (try first | exact rfl | exact trivial | (simp [IdsLt, IdsLtL]; done) | (simp [get_cons]; done) | (simp [get_cons, *]; done) | (refine congrArg (AV.int .i64) (wrap_eq ?_ ?_ ?_) <;> (first | omega | (simp; omega))))
  · rintro i ⟨hi, h⟩
    repeat' (first | ((first | refine Qa rfl ?_ | refine Qc rfl rfl rfl ?_ | apply Qd rfl rfl rfl rfl | (apply Qe rfl rfl rfl rfl; intro H9)); (first | refine Q0 ?_ | refine Q1 ?_ | refine Q2 rfl ?_ | refine Q3 rfl rfl rfl ?_ | refine Q4 rfl rfl rfl rfl rfl ?_ | refine Q5 rfl ?_ | refine Q6 rfl ?_ | refine Q7 rfl rfl rfl ?_ | refine Q8 rfl rfl rfl ?_ | refine Q9 rfl rfl rfl rfl ?_ | refine QA rfl rfl (by decide) ?_ | refine QB rfl rfl (by decide) ?_ | refine QC rfl rfl ?_ | refine QD rfl ?_ | refine QE rfl rfl ?_ | refine QF rfl rfl ?_ | refine QG rfl rfl rfl rfl ?_ | refine QH rfl rfl rfl ?_ | refine QI rfl rfl rfl ?_ | refine QJ rfl rfl ?_ | refine QK rfl ?_ | refine QM rfl rfl rfl rfl rfl ?_ | refine QN ?_ | refine QO ?_ | refine QP rfl rfl rfl rfl rfl rfl ?_ | refine QQ rfl rfl rfl rfl rfl rfl rfl rfl rfl rfl rfl ?_ | refine QR rfl rfl rfl rfl rfl rfl rfl rfl rfl rfl rfl rfl ?_); (first | exact QX rfl rfl ⟨rfl, rfl⟩ | exact QY rfl ⟨rfl, rfl⟩ | exact QZ ⟨rfl, rfl⟩ | refine QX rfl rfl ?_ | refine QZ ?_)) | refine Qa rfl ?_ | (refine Qb rfl ?_; try (refine QS rfl rfl rfl rfl rfl rfl rfl ?_; (first | refine QX rfl rfl ?_ | refine QZ ?_))) | refine Qh ?_ | refine Qi rfl ?_ | refine Qj rfl ?_ | (refine Qf rfl rfl rfl ?_; refine QS rfl rfl rfl rfl rfl rfl rfl ?_; (first | refine QX rfl rfl ?_ | refine QZ ?_)) | apply Qg rfl rfl | refine Qk ?_ | refine Ql ?_ | refine Qm ?_ | refine Qn ?_ | refine Qo rfl ?_ | refine Qp rfl ?_ | refine Qq rfl ?_ | refine Qr ?_ | refine Qs ?_ | refine Qt ?_ | refine Qu ?_ | refine Qv ?_ | refine Qw (by kernel_rfl) ?_ | refine Qx rfl (by kernel_rfl) ?_ | ((fail_if_success refine QV rfl ?_); first | refine Qy rfl rfl (fun _ => ?_) (fun _ => ?_) | refine Qz rfl rfl (fun _ => ?_) (fun _ => ?_)) | ((fail_if_success refine QW rfl rfl ?_); first | refine QT rfl rfl rfl (fun _ => ?_) (fun _ => ?_) | refine QU rfl rfl rfl (fun _ => ?_) (fun _ => ?_)))
    refine awp_cond_dec rfl (fun hc => ?_) (fun hc => ?_)
    · have hc1 : i < ts.length := by omega
      obtain ⟨q, hq⟩ : ∃ q, ts[i]? = some q := ⟨_, List.getElem?_eq_getElem hc1⟩
      have hd : ts.drop i = q :: ts.drop (i + 1) := by
        obtain ⟨h1, rfl⟩ := List.getElem?_eq_some_iff.1 hq
        exact List.drop_eq_getElem_cons h1
      rw [hd] at h
      have next : q.fits k = false → firstFit k (ts.drop (i + 1)) (i + 1) = firstFit k ts 0 := fun hf => by rw [← h]; simp [firstFit, hf]
      repeat' (first | ((first | refine Qa rfl ?_ | refine Qc rfl rfl rfl ?_ | apply Qd rfl rfl rfl rfl | (apply Qe rfl rfl rfl rfl; intro H9)); (first | refine Q0 ?_ | refine Q1 ?_ | refine Q2 rfl ?_ | refine Q3 rfl rfl rfl ?_ | refine Q4 rfl rfl rfl rfl rfl ?_ | refine Q5 rfl ?_ | refine Q6 rfl ?_ | refine Q7 rfl rfl rfl ?_ | refine Q8 rfl rfl rfl ?_ | refine Q9 rfl rfl rfl rfl ?_ | refine QA rfl rfl (by decide) ?_ | refine QB rfl rfl (by decide) ?_ | refine QC rfl rfl ?_ | refine QD rfl ?_ | refine QE rfl rfl ?_ | refine QF rfl rfl ?_ | refine QG rfl rfl rfl rfl ?_ | refine QH rfl rfl rfl ?_ | refine QI rfl rfl rfl ?_ | refine QJ rfl rfl ?_ | refine QK rfl ?_ | refine QM rfl rfl rfl rfl rfl ?_ | refine QN ?_ | refine QO ?_ | refine QP rfl rfl rfl rfl rfl rfl ?_ | refine QQ rfl rfl rfl rfl rfl rfl rfl rfl rfl rfl rfl ?_ | refine QR rfl rfl rfl rfl rfl rfl rfl rfl rfl rfl rfl rfl ?_); (first | exact QX rfl rfl ⟨rfl, rfl⟩ | exact QY rfl ⟨rfl, rfl⟩ | exact QZ ⟨rfl, rfl⟩ | refine QX rfl rfl ?_ | refine QZ ?_)) | refine Qa rfl ?_ | (refine Qb rfl ?_; try (refine QS rfl rfl rfl rfl rfl rfl rfl ?_; (first | refine QX rfl rfl ?_ | refine QZ ?_))) | refine Qh ?_ | refine Qi rfl ?_ | refine Qj rfl ?_ | (refine Qf rfl rfl rfl ?_; refine QS rfl rfl rfl rfl rfl rfl rfl ?_; (first | refine QX rfl rfl ?_ | refine QZ ?_)) | apply Qg rfl rfl | refine Qk ?_ | refine Ql ?_ | refine Qm ?_ | refine Qn ?_ | refine Qo rfl ?_ | refine Qp rfl ?_ | refine Qq rfl ?_ | refine Qr ?_ | refine Qs ?_ | refine Qt ?_ | refine Qu ?_ | refine Qv ?_ | refine Qw (by kernel_rfl) ?_ | refine Qx rfl (by kernel_rfl) ?_ | ((fail_if_success refine QV rfl ?_); first | refine Qy rfl rfl (fun _ => ?_) (fun _ => ?_) | refine Qz rfl rfl (fun _ => ?_) (fun _ => ?_)) | ((fail_if_success refine QW rfl rfl ?_); first | refine QT rfl rfl rfl (fun _ => ?_) (fun _ => ?_) | refine QU rfl rfl rfl (fun _ => ?_) (fun _ => ?_)))
      refine st_ixm hq rfl rfl rfl rfl rfl rfl rfl (by first | rfl | omega) rfl ?_
      first | refine nx rfl rfl ?_ | refine nx0 ?_
      repeat' (first | ((first | refine Qa rfl ?_ | refine Qc rfl rfl rfl ?_ | apply Qd rfl rfl rfl rfl | (apply Qe rfl rfl rfl rfl; intro H9)); (first | refine Q0 ?_ | refine Q1 ?_ | refine Q2 rfl ?_ | refine Q3 rfl rfl rfl ?_ | refine Q4 rfl rfl rfl rfl rfl ?_ | refine Q5 rfl ?_ | refine Q6 rfl ?_ | refine Q7 rfl rfl rfl ?_ | refine Q8 rfl rfl rfl ?_ | refine Q9 rfl rfl rfl rfl ?_ | refine QA rfl rfl (by decide) ?_ | refine QB rfl rfl (by decide) ?_ | refine QC rfl rfl ?_ | refine QD rfl ?_ | refine QE rfl rfl ?_ | refine QF rfl rfl ?_ | refine QG rfl rfl rfl rfl ?_ | refine QH rfl rfl rfl ?_ | refine QI rfl rfl rfl ?_ | refine QJ rfl rfl ?_ | refine QK rfl ?_ | refine QM rfl rfl rfl rfl rfl ?_ | refine QN ?_ | refine QO ?_ | refine QP rfl rfl rfl rfl rfl rfl ?_ | refine QQ rfl rfl rfl rfl rfl rfl rfl rfl rfl rfl rfl ?_ | refine QR rfl rfl rfl rfl rfl rfl rfl rfl rfl rfl rfl rfl ?_); (first | exact QX rfl rfl ⟨rfl, rfl⟩ | exact QY rfl ⟨rfl, rfl⟩ | exact QZ ⟨rfl, rfl⟩ | refine QX rfl rfl ?_ | refine QZ ?_)) | refine Qa rfl ?_ | (refine Qb rfl ?_; try (refine QS rfl rfl rfl rfl rfl rfl rfl ?_; (first | refine QX rfl rfl ?_ | refine QZ ?_))) | refine Qh ?_ | refine Qi rfl ?_ | refine Qj rfl ?_ | (refine Qf rfl rfl rfl ?_; refine QS rfl rfl rfl rfl rfl rfl rfl ?_; (first | refine QX rfl rfl ?_ | refine QZ ?_)) | apply Qg rfl rfl | refine Qk ?_ | refine Ql ?_ | refine Qm ?_ | refine Qn ?_ | refine Qo rfl ?_ | refine Qp rfl ?_ | refine Qq rfl ?_ | refine Qr ?_ | refine Qs ?_ | refine Qt ?_ | refine Qu ?_ | refine Qv ?_ | refine Qw (by kernel_rfl) ?_ | refine Qx rfl (by kernel_rfl) ?_ | ((fail_if_success refine QV rfl ?_); first | refine Qy rfl rfl (fun _ => ?_) (fun _ => ?_) | refine Qz rfl rfl (fun _ => ?_) (fun _ => ?_)) | ((fail_if_success refine QW rfl rfl ?_); first | refine QT rfl rfl rfl (fun _ => ?_) (fun _ => ?_) | refine QU rfl rfl rfl (fun _ => ?_) (fun _ => ?_)))
      · rename_i h1 h2
        refine awp_cond_dec rfl (fun h3 => ?_) (fun h3 => ?_)
        · skip
          repeat' (first | ((first | refine Qa rfl ?_ | refine Qc rfl rfl rfl ?_ | apply Qd rfl rfl rfl rfl | (apply Qe rfl rfl rfl rfl; intro H9)); (first | refine Q0 ?_ | refine Q1 ?_ | refine Q2 rfl ?_ | refine Q3 rfl rfl rfl ?_ | refine Q4 rfl rfl rfl rfl rfl ?_ | refine Q5 rfl ?_ | refine Q6 rfl ?_ | refine Q7 rfl rfl rfl ?_ | refine Q8 rfl rfl rfl ?_ | refine Q9 rfl rfl rfl rfl ?_ | refine QA rfl rfl (by decide) ?_ | refine QB rfl rfl (by decide) ?_ | refine QC rfl rfl ?_ | refine QD rfl ?_ | refine QE rfl rfl ?_ | refine QF rfl rfl ?_ | refine QG rfl rfl rfl rfl ?_ | refine QH rfl rfl rfl ?_ | refine QI rfl rfl rfl ?_ | refine QJ rfl rfl ?_ | refine QK rfl ?_ | refine QM rfl rfl rfl rfl rfl ?_ | refine QN ?_ | refine QO ?_ | refine QP rfl rfl rfl rfl rfl rfl ?_ | refine QQ rfl rfl rfl rfl rfl rfl rfl rfl rfl rfl rfl ?_ | refine QR rfl rfl rfl rfl rfl rfl rfl rfl rfl rfl rfl rfl ?_); (first | exact QX rfl rfl ⟨rfl, rfl⟩ | exact QY rfl ⟨rfl, rfl⟩ | exact QZ ⟨rfl, rfl⟩ | refine QX rfl rfl ?_ | refine QZ ?_)) | refine Qa rfl ?_ | (refine Qb rfl ?_; try (refine QS rfl rfl rfl rfl rfl rfl rfl ?_; (first | refine QX rfl rfl ?_ | refine QZ ?_))) | refine Qh ?_ | refine Qi rfl ?_ | refine Qj rfl ?_ | (refine Qf rfl rfl rfl ?_; refine QS rfl rfl rfl rfl rfl rfl rfl ?_; (first | refine QX rfl rfl ?_ | refine QZ ?_)) | apply Qg rfl rfl | refine Qk ?_ | refine Ql ?_ | refine Qm ?_ | refine Qn ?_ | refine Qo rfl ?_ | refine Qp rfl ?_ | refine Qq rfl ?_ | refine Qr ?_ | refine Qs ?_ | refine Qt ?_ | refine Qu ?_ | refine Qv ?_ | refine Qw (by kernel_rfl) ?_ | refine Qx rfl (by kernel_rfl) ?_ | ((fail_if_success refine QV rfl ?_); first | refine Qy rfl rfl (fun _ => ?_) (fun _ => ?_) | refine Qz rfl rfl (fun _ => ?_) (fun _ => ?_)) | ((fail_if_success refine QW rfl rfl ?_); first | refine QT rfl rfl rfl (fun _ => ?_) (fun _ => ?_) | refine QU rfl rfl rfl (fun _ => ?_) (fun _ => ?_)))
          refine awp_pre (imp_cutk 0 (Nat.le_refl _) hok_nil rfl (by simp) (sl' := [(6, .int .i64 q.n)]) ?_) ?_
          · repeat' (first | exact fa_nil | refine fa_cons ⟨?_, ?_⟩ ?_)
            all_goals (try first | exact rfl | exact trivial | (simp [IdsLt, IdsLtL]; done) | (simp [get_cons]; done) | (simp [get_cons, *]; done) | (refine congrArg (AV.int .i64) (wrap_eq ?_ ?_ ?_) <;> (first | omega | (simp; omega))))
          refine awp_ret ?_
          refine ⟨_, rfl, ?_, ?_⟩
          · have hf : q.fits k = true := by simp [Tr.fits, h1, h3]; omega
            rw [keptN, ← h]
            simp only [firstFit, hf, if_true]; rfl
          · rfl
        · skip
          repeat' (first | ((first | refine Qa rfl ?_ | refine Qc rfl rfl rfl ?_ | apply Qd rfl rfl rfl rfl | (apply Qe rfl rfl rfl rfl; intro H9)); (first | refine Q0 ?_ | refine Q1 ?_ | refine Q2 rfl ?_ | refine Q3 rfl rfl rfl ?_ | refine Q4 rfl rfl rfl rfl rfl ?_ | refine Q5 rfl ?_ | refine Q6 rfl ?_ | refine Q7 rfl rfl rfl ?_ | refine Q8 rfl rfl rfl ?_ | refine Q9 rfl rfl rfl rfl ?_ | refine QA rfl rfl (by decide) ?_ | refine QB rfl rfl (by decide) ?_ | refine QC rfl rfl ?_ | refine QD rfl ?_ | refine QE rfl rfl ?_ | refine QF rfl rfl ?_ | refine QG rfl rfl rfl rfl ?_ | refine QH rfl rfl rfl ?_ | refine QI rfl rfl rfl ?_ | refine QJ rfl rfl ?_ | refine QK rfl ?_ | refine QM rfl rfl rfl rfl rfl ?_ | refine QN ?_ | refine QO ?_ | refine QP rfl rfl rfl rfl rfl rfl ?_ | refine QQ rfl rfl rfl rfl rfl rfl rfl rfl rfl rfl rfl ?_ | refine QR rfl rfl rfl rfl rfl rfl rfl rfl rfl rfl rfl rfl ?_); (first | exact QX rfl rfl ⟨rfl, rfl⟩ | exact QY rfl ⟨rfl, rfl⟩ | exact QZ ⟨rfl, rfl⟩ | refine QX rfl rfl ?_ | refine QZ ?_)) | refine Qa rfl ?_ | (refine Qb rfl ?_; try (refine QS rfl rfl rfl rfl rfl rfl rfl ?_; (first | refine QX rfl rfl ?_ | refine QZ ?_))) | refine Qh ?_ | refine Qi rfl ?_ | refine Qj rfl ?_ | (refine Qf rfl rfl rfl ?_; refine QS rfl rfl rfl rfl rfl rfl rfl ?_; (first | refine QX rfl rfl ?_ | refine QZ ?_)) | apply Qg rfl rfl | refine Qk ?_ | refine Ql ?_ | refine Qm ?_ | refine Qn ?_ | refine Qo rfl ?_ | refine Qp rfl ?_ | refine Qq rfl ?_ | refine Qr ?_ | refine Qs ?_ | refine Qt ?_ | refine Qu ?_ | refine Qv ?_ | refine Qw (by kernel_rfl) ?_ | refine Qx rfl (by kernel_rfl) ?_ | ((fail_if_success refine QV rfl ?_); first | refine Qy rfl rfl (fun _ => ?_) (fun _ => ?_) | refine Qz rfl rfl (fun _ => ?_) (fun _ => ?_)) | ((fail_if_success refine QW rfl rfl ?_); first | refine QT rfl rfl rfl (fun _ => ?_) (fun _ => ?_) | refine QU rfl rfl rfl (fun _ => ?_) (fun _ => ?_)))
          refine ⟨i + 1, ⟨by omega, next (by simp [Tr.fits, h3])⟩, by omega, imp_cutk 0 (Nat.zero_le _) hok_nil rfl (by simp) ?_⟩
          repeat' (first | exact fa_nil | refine fa_cons ⟨?_, ?_⟩ ?_)
          all_goals (try first | exact rfl | exact trivial | (simp [IdsLt, IdsLtL]; done) | (simp [get_cons]; done) | (simp [get_cons, *]; done) | (refine congrArg (AV.int .i64) (wrap_eq ?_ ?_ ?_) <;> (first | omega | (simp; omega))))
      · rename_i h1 h2
        refine ⟨i + 1, ⟨by omega, next (by simp [Tr.fits]; omega)⟩, by omega, imp_cutk 0 (Nat.zero_le _) hok_nil rfl (by simp) ?_⟩
        repeat' (first | exact fa_nil | refine fa_cons ⟨?_, ?_⟩ ?_)
        all_goals (try first | exact rfl | exact trivial | (simp [IdsLt, IdsLtL]; done) | (simp [get_cons]; done) | (simp [get_cons, *]; done) | (refine congrArg (AV.int .i64) (wrap_eq ?_ ?_ ?_) <;> (first | omega | (simp; omega))))
      · rename_i h1
        refine ⟨i + 1, ⟨by omega, next (by simp [Tr.fits, h1])⟩, by omega, imp_cutk 0 (Nat.zero_le _) hok_nil rfl (by simp) ?_⟩
        repeat' (first | exact fa_nil | refine fa_cons ⟨?_, ?_⟩ ?_)
        all_goals (try first | exact rfl | exact trivial | (simp [IdsLt, IdsLtL]; done) | (simp [get_cons]; done) | (simp [get_cons, *]; done) | (refine congrArg (AV.int .i64) (wrap_eq ?_ ?_ ?_) <;> (first | omega | (simp; omega))))
    · have hn : firstFit k ts 0 = none := by rw [← h, List.drop_of_length_le (by omega)]; rfl
      repeat' (first | ((first | refine Qa rfl ?_ | refine Qc rfl rfl rfl ?_ | apply Qd rfl rfl rfl rfl | (apply Qe rfl rfl rfl rfl; intro H9)); (first | refine Q0 ?_ | refine Q1 ?_ | refine Q2 rfl ?_ | refine Q3 rfl rfl rfl ?_ | refine Q4 rfl rfl rfl rfl rfl ?_ | refine Q5 rfl ?_ | refine Q6 rfl ?_ | refine Q7 rfl rfl rfl ?_ | refine Q8 rfl rfl rfl ?_ | refine Q9 rfl rfl rfl rfl ?_ | refine QA rfl rfl (by decide) ?_ | refine QB rfl rfl (by decide) ?_ | refine QC rfl rfl ?_ | refine QD rfl ?_ | refine QE rfl rfl ?_ | refine QF rfl rfl ?_ | refine QG rfl rfl rfl rfl ?_ | refine QH rfl rfl rfl ?_ | refine QI rfl rfl rfl ?_ | refine QJ rfl rfl ?_ | refine QK rfl ?_ | refine QM rfl rfl rfl rfl rfl ?_ | refine QN ?_ | refine QO ?_ | refine QP rfl rfl rfl rfl rfl rfl ?_ | refine QQ rfl rfl rfl rfl rfl rfl rfl rfl rfl rfl rfl ?_ | refine QR rfl rfl rfl rfl rfl rfl rfl rfl rfl rfl rfl rfl ?_); (first | exact QX rfl rfl ⟨rfl, rfl⟩ | exact QY rfl ⟨rfl, rfl⟩ | exact QZ ⟨rfl, rfl⟩ | refine QX rfl rfl ?_ | refine QZ ?_)) | refine Qa rfl ?_ | (refine Qb rfl ?_; try (refine QS rfl rfl rfl rfl rfl rfl rfl ?_; (first | refine QX rfl rfl ?_ | refine QZ ?_))) | refine Qh ?_ | refine Qi rfl ?_ | refine Qj rfl ?_ | (refine Qf rfl rfl rfl ?_; refine QS rfl rfl rfl rfl rfl rfl rfl ?_; (first | refine QX rfl rfl ?_ | refine QZ ?_)) | apply Qg rfl rfl | refine Qk ?_ | refine Ql ?_ | refine Qm ?_ | refine Qn ?_ | refine Qo rfl ?_ | refine Qp rfl ?_ | refine Qq rfl ?_ | refine Qr ?_ | refine Qs ?_ | refine Qt ?_ | refine Qu ?_ | refine Qv ?_ | refine Qw (by kernel_rfl) ?_ | refine Qx rfl (by kernel_rfl) ?_ | ((fail_if_success refine QV rfl ?_); first | refine Qy rfl rfl (fun _ => ?_) (fun _ => ?_) | refine Qz rfl rfl (fun _ => ?_) (fun _ => ?_)) | ((fail_if_success refine QW rfl rfl ?_); first | refine QT rfl rfl rfl (fun _ => ?_) (fun _ => ?_) | refine QU rfl rfl rfl (fun _ => ?_) (fun _ => ?_)))
      · rename_i h1
        have h2 : k < keep.length := by simpa using h1
        obtain ⟨q, hq⟩ : ∃ q, keep[k]? = some q := ⟨_, List.getElem?_eq_getElem h2⟩
        refine st_ixm hq rfl rfl rfl rfl rfl rfl rfl (by first | rfl | omega) rfl ?_
        first | refine nx rfl rfl ?_ | refine nx0 ?_
        repeat' (first | ((first | refine Qa rfl ?_ | refine Qc rfl rfl rfl ?_ | apply Qd rfl rfl rfl rfl | (apply Qe rfl rfl rfl rfl; intro H9)); (first | refine Q0 ?_ | refine Q1 ?_ | refine Q2 rfl ?_ | refine Q3 rfl rfl rfl ?_ | refine Q4 rfl rfl rfl rfl rfl ?_ | refine Q5 rfl ?_ | refine Q6 rfl ?_ | refine Q7 rfl rfl rfl ?_ | refine Q8 rfl rfl rfl ?_ | refine Q9 rfl rfl rfl rfl ?_ | refine QA rfl rfl (by decide) ?_ | refine QB rfl rfl (by decide) ?_ | refine QC rfl rfl ?_ | refine QD rfl ?_ | refine QE rfl rfl ?_ | refine QF rfl rfl ?_ | refine QG rfl rfl rfl rfl ?_ | refine QH rfl rfl rfl ?_ | refine QI rfl rfl rfl ?_ | refine QJ rfl rfl ?_ | refine QK rfl ?_ | refine QM rfl rfl rfl rfl rfl ?_ | refine QN ?_ | refine QO ?_ | refine QP rfl rfl rfl rfl rfl rfl ?_ | refine QQ rfl rfl rfl rfl rfl rfl rfl rfl rfl rfl rfl ?_ | refine QR rfl rfl rfl rfl rfl rfl rfl rfl rfl rfl rfl rfl ?_); (first | exact QX rfl rfl ⟨rfl, rfl⟩ | exact QY rfl ⟨rfl, rfl⟩ | exact QZ ⟨rfl, rfl⟩ | refine QX rfl rfl ?_ | refine QZ ?_)) | refine Qa rfl ?_ | (refine Qb rfl ?_; try (refine QS rfl rfl rfl rfl rfl rfl rfl ?_; (first | refine QX rfl rfl ?_ | refine QZ ?_))) | refine Qh ?_ | refine Qi rfl ?_ | refine Qj rfl ?_ | (refine Qf rfl rfl rfl ?_; refine QS rfl rfl rfl rfl rfl rfl rfl ?_; (first | refine QX rfl rfl ?_ | refine QZ ?_)) | apply Qg rfl rfl | refine Qk ?_ | refine Ql ?_ | refine Qm ?_ | refine Qn ?_ | refine Qo rfl ?_ | refine Qp rfl ?_ | refine Qq rfl ?_ | refine Qr ?_ | refine Qs ?_ | refine Qt ?_ | refine Qu ?_ | refine Qv ?_ | refine Qw (by kernel_rfl) ?_ | refine Qx rfl (by kernel_rfl) ?_ | ((fail_if_success refine QV rfl ?_); first | refine Qy rfl rfl (fun _ => ?_) (fun _ => ?_) | refine Qz rfl rfl (fun _ => ?_) (fun _ => ?_)) | ((fail_if_success refine QW rfl rfl ?_); first | refine QT rfl rfl rfl (fun _ => ?_) (fun _ => ?_) | refine QU rfl rfl rfl (fun _ => ?_) (fun _ => ?_)))
        refine awp_cond rfl (fun h3 => ?_) (fun h3 => ?_)
        · skip
          repeat' (first | ((first | refine Qa rfl ?_ | refine Qc rfl rfl rfl ?_ | apply Qd rfl rfl rfl rfl | (apply Qe rfl rfl rfl rfl; intro H9)); (first | refine Q0 ?_ | refine Q1 ?_ | refine Q2 rfl ?_ | refine Q3 rfl rfl rfl ?_ | refine Q4 rfl rfl rfl rfl rfl ?_ | refine Q5 rfl ?_ | refine Q6 rfl ?_ | refine Q7 rfl rfl rfl ?_ | refine Q8 rfl rfl rfl ?_ | refine Q9 rfl rfl rfl rfl ?_ | refine QA rfl rfl (by decide) ?_ | refine QB rfl rfl (by decide) ?_ | refine QC rfl rfl ?_ | refine QD rfl ?_ | refine QE rfl rfl ?_ | refine QF rfl rfl ?_ | refine QG rfl rfl rfl rfl ?_ | refine QH rfl rfl rfl ?_ | refine QI rfl rfl rfl ?_ | refine QJ rfl rfl ?_ | refine QK rfl ?_ | refine QM rfl rfl rfl rfl rfl ?_ | refine QN ?_ | refine QO ?_ | refine QP rfl rfl rfl rfl rfl rfl ?_ | refine QQ rfl rfl rfl rfl rfl rfl rfl rfl rfl rfl rfl ?_ | refine QR rfl rfl rfl rfl rfl rfl rfl rfl rfl rfl rfl rfl ?_); (first | exact QX rfl rfl ⟨rfl, rfl⟩ | exact QY rfl ⟨rfl, rfl⟩ | exact QZ ⟨rfl, rfl⟩ | refine QX rfl rfl ?_ | refine QZ ?_)) | refine Qa rfl ?_ | (refine Qb rfl ?_; try (refine QS rfl rfl rfl rfl rfl rfl rfl ?_; (first | refine QX rfl rfl ?_ | refine QZ ?_))) | refine Qh ?_ | refine Qi rfl ?_ | refine Qj rfl ?_ | (refine Qf rfl rfl rfl ?_; refine QS rfl rfl rfl rfl rfl rfl rfl ?_; (first | refine QX rfl rfl ?_ | refine QZ ?_)) | apply Qg rfl rfl | refine Qk ?_ | refine Ql ?_ | refine Qm ?_ | refine Qn ?_ | refine Qo rfl ?_ | refine Qp rfl ?_ | refine Qq rfl ?_ | refine Qr ?_ | refine Qs ?_ | refine Qt ?_ | refine Qu ?_ | refine Qv ?_ | refine Qw (by kernel_rfl) ?_ | refine Qx rfl (by kernel_rfl) ?_ | ((fail_if_success refine QV rfl ?_); first | refine Qy rfl rfl (fun _ => ?_) (fun _ => ?_) | refine Qz rfl rfl (fun _ => ?_) (fun _ => ?_)) | ((fail_if_success refine QW rfl rfl ?_); first | refine QT rfl rfl rfl (fun _ => ?_) (fun _ => ?_) | refine QU rfl rfl rfl (fun _ => ?_) (fun _ => ?_)))
          refine awp_ret ?_
          refine ⟨_, rfl, ?_, ?_⟩
          · simp [keptN, hn, hq, h3] <;> rfl
          · rfl
        · skip
          repeat' (first | ((first | refine Qa rfl ?_ | refine Qc rfl rfl rfl ?_ | apply Qd rfl rfl rfl rfl | (apply Qe rfl rfl rfl rfl; intro H9)); (first | refine Q0 ?_ | refine Q1 ?_ | refine Q2 rfl ?_ | refine Q3 rfl rfl rfl ?_ | refine Q4 rfl rfl rfl rfl rfl ?_ | refine Q5 rfl ?_ | refine Q6 rfl ?_ | refine Q7 rfl rfl rfl ?_ | refine Q8 rfl rfl rfl ?_ | refine Q9 rfl rfl rfl rfl ?_ | refine QA rfl rfl (by decide) ?_ | refine QB rfl rfl (by decide) ?_ | refine QC rfl rfl ?_ | refine QD rfl ?_ | refine QE rfl rfl ?_ | refine QF rfl rfl ?_ | refine QG rfl rfl rfl rfl ?_ | refine QH rfl rfl rfl ?_ | refine QI rfl rfl rfl ?_ | refine QJ rfl rfl ?_ | refine QK rfl ?_ | refine QM rfl rfl rfl rfl rfl ?_ | refine QN ?_ | refine QO ?_ | refine QP rfl rfl rfl rfl rfl rfl ?_ | refine QQ rfl rfl rfl rfl rfl rfl rfl rfl rfl rfl rfl ?_ | refine QR rfl rfl rfl rfl rfl rfl rfl rfl rfl rfl rfl rfl ?_); (first | exact QX rfl rfl ⟨rfl, rfl⟩ | exact QY rfl ⟨rfl, rfl⟩ | exact QZ ⟨rfl, rfl⟩ | refine QX rfl rfl ?_ | refine QZ ?_)) | refine Qa rfl ?_ | (refine Qb rfl ?_; try (refine QS rfl rfl rfl rfl rfl rfl rfl ?_; (first | refine QX rfl rfl ?_ | refine QZ ?_))) | refine Qh ?_ | refine Qi rfl ?_ | refine Qj rfl ?_ | (refine Qf rfl rfl rfl ?_; refine QS rfl rfl rfl rfl rfl rfl rfl ?_; (first | refine QX rfl rfl ?_ | refine QZ ?_)) | apply Qg rfl rfl | refine Qk ?_ | refine Ql ?_ | refine Qm ?_ | refine Qn ?_ | refine Qo rfl ?_ | refine Qp rfl ?_ | refine Qq rfl ?_ | refine Qr ?_ | refine Qs ?_ | refine Qt ?_ | refine Qu ?_ | refine Qv ?_ | refine Qw (by kernel_rfl) ?_ | refine Qx rfl (by kernel_rfl) ?_ | ((fail_if_success refine QV rfl ?_); first | refine Qy rfl rfl (fun _ => ?_) (fun _ => ?_) | refine Qz rfl rfl (fun _ => ?_) (fun _ => ?_)) | ((fail_if_success refine QW rfl rfl ?_); first | refine QT rfl rfl rfl (fun _ => ?_) (fun _ => ?_) | refine QU rfl rfl rfl (fun _ => ?_) (fun _ => ?_)))
          refine awp_ret ?_
          refine ⟨_, rfl, ?_, ?_⟩
          · simp [keptN, hn, hq, h3] <;> rfl
          · rfl
      · rename_i h1
        have h2 : keep[k]? = none := List.getElem?_eq_none (by simpa using h1)
        refine awp_ret ?_
        refine ⟨_, rfl, ?_, ?_⟩
        · simp [keptN, hn, h2] <;> rfl
        · rfl
end Go.Abs
namespace Go.Abs
structure Rd where
  old : List UInt8
  new : List UInt8
  dirt : List Bool
  has : Bool
  left : Int
  gone : Bool
  wrote : Int
def rdH (r : Rd) : Hp :=
  [some (.cells [.own 1 0 r.old.length, .own 2 0 r.new.length, .own 3 0 r.dirt.length, .bool r.has, .int .i64 r.left, .bool r.gone, .int .i64 r.wrote] 70),
   some (.arr (r.old.map u8A) 5), some (.arr (r.new.map u8A) 5), some (.arr (r.dirt.map boA) 4)]
theorem hok_rd (r : Rd) : HOk 4 (rdH r) := fun j o ho => by
  match j, ho with
  | 0, ho => cases ho; exact ⟨by simp [IdsLt], by simp [IdsLt], by simp [IdsLt], trivial, trivial, trivial, trivial, trivial⟩
  | 1, ho => cases ho; exact idsL_map fun _ => u8A_ids
  | 2, ho => cases ho; exact idsL_map fun _ => u8A_ids
  | 3, ho => cases ho; exact idsL_map fun _ => boA_ids
def Rd.dies (r : Rd) : Bool := r.has && decide (r.left = 0)
def Rd.burn (r : Rd) : Rd := if r.dies = true then { r with gone := true } else { r with left := IntKind.i64.wrap (r.left - 1) }
def Rd.fuse (r : Rd) (n : Int) : Rd := { r with has := decide (0 ≤ n), left := max n 0 }
attribute [local irreducible] AStep aops AWp Nx awM
set_option maxHeartbeats 0 in
theorem rburn_c (X : Nat → Prop) (r : Rd) : ACalls (E0 X) 38 [.ptr 0 0] (rdH r) (fun v H' => v = .bool (!r.dies) ∧ H' = rdH r.burn) := by
  refine acalls_of Proofs.Try.func38 rfl Proofs.Try.ntmps38 (by kernel_rfl) rfl ?_
  intro hH hargs
  clear hH hargs
  repeat' (first | ((first | refine Qa rfl ?_ | refine Qc rfl rfl rfl ?_ | apply Qd rfl rfl rfl rfl | (apply Qe rfl rfl rfl rfl; intro H9)); (first | refine Q0 ?_ | refine Q1 ?_ | refine Q2 rfl ?_ | refine Q3 rfl rfl rfl ?_ | refine Q4 rfl rfl rfl rfl rfl ?_ | refine Q5 rfl ?_ | refine Q6 rfl ?_ | refine Q7 rfl rfl rfl ?_ | refine Q8 rfl rfl rfl ?_ | refine Q9 rfl rfl rfl rfl ?_ | refine QA rfl rfl (by decide) ?_ | refine QB rfl rfl (by decide) ?_ | refine QC rfl rfl ?_ | refine QD rfl ?_ | refine QE rfl rfl ?_ | refine QF rfl rfl ?_ | refine QG rfl rfl rfl rfl ?_ | refine QH rfl rfl rfl ?_ | refine QI rfl rfl rfl ?_ | refine QJ rfl rfl ?_ | refine QK rfl ?_ | refine QM rfl rfl rfl rfl rfl ?_ | refine QN ?_ | refine QO ?_ | refine QP rfl rfl rfl rfl rfl rfl ?_ | refine QQ rfl rfl rfl rfl rfl rfl rfl rfl rfl rfl rfl ?_ | refine QR rfl rfl rfl rfl rfl rfl rfl rfl rfl rfl rfl rfl ?_); (first | exact QX rfl rfl ⟨rfl, rfl⟩ | exact QY rfl ⟨rfl, rfl⟩ | exact QZ ⟨rfl, rfl⟩ | refine QX rfl rfl ?_ | refine QZ ?_)) | refine Qa rfl ?_ | (refine Qb rfl ?_; try (refine QS rfl rfl rfl rfl rfl rfl rfl ?_; (first | refine QX rfl rfl ?_ | refine QZ ?_))) | refine Qh ?_ | refine Qi rfl ?_ | refine Qj rfl ?_ | (refine Qf rfl rfl rfl ?_; refine QS rfl rfl rfl rfl rfl rfl rfl ?_; (first | refine QX rfl rfl ?_ | refine QZ ?_)) | apply Qg rfl rfl | refine Qk ?_ | refine Ql ?_ | refine Qm ?_ | refine Qn ?_ | refine Qo rfl ?_ | refine Qp rfl ?_ | refine Qq rfl ?_ | refine Qr ?_ | refine Qs ?_ | refine Qt ?_ | refine Qu ?_ | refine Qv ?_ | refine Qw (by kernel_rfl) ?_ | refine Qx rfl (by kernel_rfl) ?_ | ((fail_if_success refine QV rfl ?_); first | refine Qy rfl rfl (fun _ => ?_) (fun _ => ?_) | refine Qz rfl rfl (fun _ => ?_) (fun _ => ?_)) | ((fail_if_success refine QW rfl rfl ?_); first | refine QT rfl rfl rfl (fun _ => ?_) (fun _ => ?_) | refine QU rfl rfl rfl (fun _ => ?_) (fun _ => ?_)))
  · rename_i h1
    refine awp_cond_dec rfl (fun h2 => ?_) (fun h2 => ?_)
    · have h2' : r.left = 0 := h2
      repeat' (first | ((first | refine Qa rfl ?_ | refine Qc rfl rfl rfl ?_ | apply Qd rfl rfl rfl rfl | (apply Qe rfl rfl rfl rfl; intro H9)); (first | refine Q0 ?_ | refine Q1 ?_ | refine Q2 rfl ?_ | refine Q3 rfl rfl rfl ?_ | refine Q4 rfl rfl rfl rfl rfl ?_ | refine Q5 rfl ?_ | refine Q6 rfl ?_ | refine Q7 rfl rfl rfl ?_ | refine Q8 rfl rfl rfl ?_ | refine Q9 rfl rfl rfl rfl ?_ | refine QA rfl rfl (by decide) ?_ | refine QB rfl rfl (by decide) ?_ | refine QC rfl rfl ?_ | refine QD rfl ?_ | refine QE rfl rfl ?_ | refine QF rfl rfl ?_ | refine QG rfl rfl rfl rfl ?_ | refine QH rfl rfl rfl ?_ | refine QI rfl rfl rfl ?_ | refine QJ rfl rfl ?_ | refine QK rfl ?_ | refine QM rfl rfl rfl rfl rfl ?_ | refine QN ?_ | refine QO ?_ | refine QP rfl rfl rfl rfl rfl rfl ?_ | refine QQ rfl rfl rfl rfl rfl rfl rfl rfl rfl rfl rfl ?_ | refine QR rfl rfl rfl rfl rfl rfl rfl rfl rfl rfl rfl rfl ?_); (first | exact QX rfl rfl ⟨rfl, rfl⟩ | exact QY rfl ⟨rfl, rfl⟩ | exact QZ ⟨rfl, rfl⟩ | refine QX rfl rfl ?_ | refine QZ ?_)) | refine Qa rfl ?_ | (refine Qb rfl ?_; try (refine QS rfl rfl rfl rfl rfl rfl rfl ?_; (first | refine QX rfl rfl ?_ | refine QZ ?_))) | refine Qh ?_ | refine Qi rfl ?_ | refine Qj rfl ?_ | (refine Qf rfl rfl rfl ?_; refine QS rfl rfl rfl rfl rfl rfl rfl ?_; (first | refine QX rfl rfl ?_ | refine QZ ?_)) | apply Qg rfl rfl | refine Qk ?_ | refine Ql ?_ | refine Qm ?_ | refine Qn ?_ | refine Qo rfl ?_ | refine Qp rfl ?_ | refine Qq rfl ?_ | refine Qr ?_ | refine Qs ?_ | refine Qt ?_ | refine Qu ?_ | refine Qv ?_ | refine Qw (by kernel_rfl) ?_ | refine Qx rfl (by kernel_rfl) ?_ | ((fail_if_success refine QV rfl ?_); first | refine Qy rfl rfl (fun _ => ?_) (fun _ => ?_) | refine Qz rfl rfl (fun _ => ?_) (fun _ => ?_)) | ((fail_if_success refine QW rfl rfl ?_); first | refine QT rfl rfl rfl (fun _ => ?_) (fun _ => ?_) | refine QU rfl rfl rfl (fun _ => ?_) (fun _ => ?_)))
      refine awp_ret ?_
      refine ⟨_, rfl, ?_, ?_⟩
      · simp [Rd.dies, h1, h2'] <;> rfl
      · simp [Rd.dies, Rd.burn, h1, h2'] <;> rfl
    · have h2' : ¬ r.left = 0 := h2
      repeat' (first | ((first | refine Qa rfl ?_ | refine Qc rfl rfl rfl ?_ | apply Qd rfl rfl rfl rfl | (apply Qe rfl rfl rfl rfl; intro H9)); (first | refine Q0 ?_ | refine Q1 ?_ | refine Q2 rfl ?_ | refine Q3 rfl rfl rfl ?_ | refine Q4 rfl rfl rfl rfl rfl ?_ | refine Q5 rfl ?_ | refine Q6 rfl ?_ | refine Q7 rfl rfl rfl ?_ | refine Q8 rfl rfl rfl ?_ | refine Q9 rfl rfl rfl rfl ?_ | refine QA rfl rfl (by decide) ?_ | refine QB rfl rfl (by decide) ?_ | refine QC rfl rfl ?_ | refine QD rfl ?_ | refine QE rfl rfl ?_ | refine QF rfl rfl ?_ | refine QG rfl rfl rfl rfl ?_ | refine QH rfl rfl rfl ?_ | refine QI rfl rfl rfl ?_ | refine QJ rfl rfl ?_ | refine QK rfl ?_ | refine QM rfl rfl rfl rfl rfl ?_ | refine QN ?_ | refine QO ?_ | refine QP rfl rfl rfl rfl rfl rfl ?_ | refine QQ rfl rfl rfl rfl rfl rfl rfl rfl rfl rfl rfl ?_ | refine QR rfl rfl rfl rfl rfl rfl rfl rfl rfl rfl rfl rfl ?_); (first | exact QX rfl rfl ⟨rfl, rfl⟩ | exact QY rfl ⟨rfl, rfl⟩ | exact QZ ⟨rfl, rfl⟩ | refine QX rfl rfl ?_ | refine QZ ?_)) | refine Qa rfl ?_ | (refine Qb rfl ?_; try (refine QS rfl rfl rfl rfl rfl rfl rfl ?_; (first | refine QX rfl rfl ?_ | refine QZ ?_))) | refine Qh ?_ | refine Qi rfl ?_ | refine Qj rfl ?_ | (refine Qf rfl rfl rfl ?_; refine QS rfl rfl rfl rfl rfl rfl rfl ?_; (first | refine QX rfl rfl ?_ | refine QZ ?_)) | apply Qg rfl rfl | refine Qk ?_ | refine Ql ?_ | refine Qm ?_ | refine Qn ?_ | refine Qo rfl ?_ | refine Qp rfl ?_ | refine Qq rfl ?_ | refine Qr ?_ | refine Qs ?_ | refine Qt ?_ | refine Qu ?_ | refine Qv ?_ | refine Qw (by kernel_rfl) ?_ | refine Qx rfl (by kernel_rfl) ?_ | ((fail_if_success refine QV rfl ?_); first | refine Qy rfl rfl (fun _ => ?_) (fun _ => ?_) | refine Qz rfl rfl (fun _ => ?_) (fun _ => ?_)) | ((fail_if_success refine QW rfl rfl ?_); first | refine QT rfl rfl rfl (fun _ => ?_) (fun _ => ?_) | refine QU rfl rfl rfl (fun _ => ?_) (fun _ => ?_)))
      refine awp_ret ?_
      refine ⟨_, rfl, ?_, ?_⟩
      · simp [Rd.dies, h1, h2'] <;> rfl
      · simp [Rd.dies, Rd.burn, h1, h2'] <;> rfl
  · rename_i h1
    refine awp_ret ?_
    refine ⟨_, rfl, ?_, ?_⟩
    · simp [Rd.dies, h1] <;> rfl
    · simp [Rd.dies, Rd.burn, h1] <;> rfl
set_option maxHeartbeats 0 in
theorem rfuse_c (X : Nat → Prop) (r : Rd) (n : Int) : ACalls (E0 X) 27 [.ptr 0 0, .int .i64 n] (rdH r) (fun v H' => v = .tup [] ∧ H' = rdH (r.fuse n)) := by
  refine acalls_of Proofs.Try.func27 rfl Proofs.Try.ntmps27 (by kernel_rfl) rfl ?_
  intro hH hargs
  clear hH hargs
  repeat' (first | ((first | refine Qa rfl ?_ | refine Qc rfl rfl rfl ?_ | apply Qd rfl rfl rfl rfl | (apply Qe rfl rfl rfl rfl; intro H9)); (first | refine Q0 ?_ | refine Q1 ?_ | refine Q2 rfl ?_ | refine Q3 rfl rfl rfl ?_ | refine Q4 rfl rfl rfl rfl rfl ?_ | refine Q5 rfl ?_ | refine Q6 rfl ?_ | refine Q7 rfl rfl rfl ?_ | refine Q8 rfl rfl rfl ?_ | refine Q9 rfl rfl rfl rfl ?_ | refine QA rfl rfl (by decide) ?_ | refine QB rfl rfl (by decide) ?_ | refine QC rfl rfl ?_ | refine QD rfl ?_ | refine QE rfl rfl ?_ | refine QF rfl rfl ?_ | refine QG rfl rfl rfl rfl ?_ | refine QH rfl rfl rfl ?_ | refine QI rfl rfl rfl ?_ | refine QJ rfl rfl ?_ | refine QK rfl ?_ | refine QM rfl rfl rfl rfl rfl ?_ | refine QN ?_ | refine QO ?_ | refine QP rfl rfl rfl rfl rfl rfl ?_ | refine QQ rfl rfl rfl rfl rfl rfl rfl rfl rfl rfl rfl ?_ | refine QR rfl rfl rfl rfl rfl rfl rfl rfl rfl rfl rfl rfl ?_); (first | exact QX rfl rfl ⟨rfl, rfl⟩ | exact QY rfl ⟨rfl, rfl⟩ | exact QZ ⟨rfl, rfl⟩ | refine QX rfl rfl ?_ | refine QZ ?_)) | refine Qa rfl ?_ | (refine Qb rfl ?_; try (refine QS rfl rfl rfl rfl rfl rfl rfl ?_; (first | refine QX rfl rfl ?_ | refine QZ ?_))) | refine Qh ?_ | refine Qi rfl ?_ | refine Qj rfl ?_ | (refine Qf rfl rfl rfl ?_; refine QS rfl rfl rfl rfl rfl rfl rfl ?_; (first | refine QX rfl rfl ?_ | refine QZ ?_)) | apply Qg rfl rfl | refine Qk ?_ | refine Ql ?_ | refine Qm ?_ | refine Qn ?_ | refine Qo rfl ?_ | refine Qp rfl ?_ | refine Qq rfl ?_ | refine Qr ?_ | refine Qs ?_ | refine Qt ?_ | refine Qu ?_ | refine Qv ?_ | refine Qw (by kernel_rfl) ?_ | refine Qx rfl (by kernel_rfl) ?_ | ((fail_if_success refine QV rfl ?_); first | refine Qy rfl rfl (fun _ => ?_) (fun _ => ?_) | refine Qz rfl rfl (fun _ => ?_) (fun _ => ?_)) | ((fail_if_success refine QW rfl rfl ?_); first | refine QT rfl rfl rfl (fun _ => ?_) (fun _ => ?_) | refine QU rfl rfl rfl (fun _ => ?_) (fun _ => ?_)))
  exact ⟨_, rfl, rfl, rfl⟩
theorem wr64 {k : Nat} (h : k ≤ 16777216) : IntKind.i64.wrap ((k : Int) * 64) = ((k * 64 : Nat) : Int) := wrap_eq (by simp) (by omega) (by omega)
theorem wr64a {k : Nat} {j : Int} {m : Nat} (h : k ≤ 16777216) (h2 : (k * 64 : Nat) + j = (m : Int)) (h3 : m ≤ 1073741824) : IntKind.i64.wrap (IntKind.i64.wrap ((k : Int) * 64) + j) = (m : Int) := by
  rw [wr64 h]; exact wrap_eq h2 (by omega) (by omega)
def padB (b : List UInt8) : List UInt8 := b ++ List.replicate (64 - b.length) 0
def fillN (new b : List UInt8) (i k : Nat) : List UInt8 := new.take (i * 64) ++ (padB b).take k ++ new.drop (i * 64 + k)
def Rd.put (r : Rd) (i : Nat) (b : List UInt8) : Rd := { r with new := fillN r.new b i 64, dirt := r.dirt.set i true, wrote := IntKind.i64.wrap (r.wrote + 1) }
def Rd.check (r : Rd) (i : Int) : Int := if r.gone = true then 1 else if i < 0 ∨ (r.dirt.length : Int) ≤ i then 2 else 0
def Rd.write (r : Rd) (i : Int) (b : List UInt8) : Int × Rd :=
  if r.check i ≠ 0 then (r.check i, r) else if 64 < b.length then (3, r) else if r.dies = true then (1, r.burn) else (0, r.burn.put i.toNat b)
theorem pad_len {b : List UInt8} (h : b.length ≤ 64) : (padB b).length = 64 := by simp [padB]; omega
theorem fill_len {new b : List UInt8} {i k : Nat} (hb : b.length ≤ 64) (h : i * 64 + 64 ≤ new.length) (hk : k ≤ 64) : (fillN new b i k).length = new.length := by
  simp [fillN, pad_len hb]; omega
theorem fill_set {new b : List UInt8} {i k : Nat} {x : UInt8} (hb : b.length ≤ 64) (h : i * 64 + 64 ≤ new.length) (hk : k < 64) (hx : (padB b)[k]? = some x) : (fillN new b i k).set (i * 64 + k) x = fillN new b i (k + 1) := by
  have hl := pad_len hb
  have h1 : (new.take (i * 64) ++ (padB b).take k).length = i * 64 + k := by simp [hl]; omega
  have h2 : new.drop (i * 64 + k) = new[i * 64 + k]'(by omega) :: new.drop (i * 64 + k + 1) := List.drop_eq_getElem_cons (by omega)
  have h3 : (padB b).take (k + 1) = (padB b).take k ++ [x] := by
    rw [List.take_add_one, hx]; rfl
  unfold fillN
  rw [h2, List.set_append_right _ _ (by rw [h1]; exact Nat.le_refl _), h1, Nat.sub_self, List.set_cons_zero, h3]
  simp [Nat.add_assoc]
theorem pad_get {b : List UInt8} {k : Nat} (hk : k < 64) : (padB b)[k]? = some ((b[k]?).getD 0) := by
  unfold padB
  rcases Nat.lt_or_ge k b.length with h | h
  · rw [List.getElem?_append_left h, List.getElem?_eq_getElem h]; rfl
  · rw [List.getElem?_append_right h, List.getElem?_eq_none h, List.getElem?_replicate, if_pos (by omega)]; rfl
theorem rd_out {r : Rd} {i : Int} (h : r.check i = 0) : r.gone = false ∧ ∃ k : Nat, i = k ∧ k < r.dirt.length := by
  unfold Rd.check at h
  split at h
  · omega
  · rename_i h1
    split at h
    · omega
    · rename_i h2
      exact ⟨by simpa using h1, i.toNat, by omega, by omega⟩
theorem rdH_new {r : Rd} {l : List UInt8} (h : l.length = r.new.length) :
    rdH { r with new := l } = [some (.cells [.own 1 0 r.old.length, .own 2 0 r.new.length, .own 3 0 r.dirt.length, .bool r.has, .int .i64 r.left, .bool r.gone, .int .i64 r.wrote] 70),
   some (.arr (r.old.map u8A) 5), some (.arr (l.map u8A) 5), some (.arr (r.dirt.map boA) 4)] := by rw [← h]; rfl
set_option maxHeartbeats 0 in
theorem rwrite_c (X : Nat → Prop) (r : Rd) (i : Int) (b : List UInt8) (hb : b.length ≤ 1073741824) (hd : r.dirt.length * 64 = r.new.length) (hl : r.new.length ≤ 1073741824) :
    ACalls (E0 X) 24 [.ptr 0 0, .int .i64 i, .sl 1 (b.map u8A)] (rdH r) (fun v H' => v = .int .i64 (r.write i b).1 ∧ H' = rdH (r.write i b).2) := by
  refine acalls_of Proofs.Try.func24 rfl Proofs.Try.ntmps24 (by kernel_rfl) rfl ?_
  intro hH hargs
  clear hH hargs
  repeat' (first | ((first | refine Qa rfl ?_ | refine Qc rfl rfl rfl ?_ | apply Qd rfl rfl rfl rfl | (apply Qe rfl rfl rfl rfl; intro H9)); (first | refine Q0 ?_ | refine Q1 ?_ | refine Q2 rfl ?_ | refine Q3 rfl rfl rfl ?_ | refine Q4 rfl rfl rfl rfl rfl ?_ | refine Q5 rfl ?_ | refine Q6 rfl ?_ | refine Q7 rfl rfl rfl ?_ | refine Q8 rfl rfl rfl ?_ | refine Q9 rfl rfl rfl rfl ?_ | refine QA rfl rfl (by decide) ?_ | refine QB rfl rfl (by decide) ?_ | refine QC rfl rfl ?_ | refine QD rfl ?_ | refine QE rfl rfl ?_ | refine QF rfl rfl ?_ | refine QG rfl rfl rfl rfl ?_ | refine QH rfl rfl rfl ?_ | refine QI rfl rfl rfl ?_ | refine QJ rfl rfl ?_ | refine QK rfl ?_ | refine QM rfl rfl rfl rfl rfl ?_ | refine QN ?_ | refine QO ?_ | refine QP rfl rfl rfl rfl rfl rfl ?_ | refine QQ rfl rfl rfl rfl rfl rfl rfl rfl rfl rfl rfl ?_ | refine QR rfl rfl rfl rfl rfl rfl rfl rfl rfl rfl rfl rfl ?_); (first | exact QX rfl rfl ⟨rfl, rfl⟩ | exact QY rfl ⟨rfl, rfl⟩ | exact QZ ⟨rfl, rfl⟩ | refine QX rfl rfl ?_ | refine QZ ?_)) | refine Qa rfl ?_ | (refine Qb rfl ?_; try (refine QS rfl rfl rfl rfl rfl rfl rfl ?_; (first | refine QX rfl rfl ?_ | refine QZ ?_))) | refine Qh ?_ | refine Qi rfl ?_ | refine Qj rfl ?_ | (refine Qf rfl rfl rfl ?_; refine QS rfl rfl rfl rfl rfl rfl rfl ?_; (first | refine QX rfl rfl ?_ | refine QZ ?_)) | apply Qg rfl rfl | refine Qk ?_ | refine Ql ?_ | refine Qm ?_ | refine Qn ?_ | refine Qo rfl ?_ | refine Qp rfl ?_ | refine Qq rfl ?_ | refine Qr ?_ | refine Qs ?_ | refine Qt ?_ | refine Qu ?_ | refine Qv ?_ | refine Qw (by kernel_rfl) ?_ | refine Qx rfl (by kernel_rfl) ?_)
  refine awp_cond rfl (fun hg => ?_) (fun hg => ?_)
  · have e : r.write i b = (1, r) := by simp [Rd.write, Rd.check, hg]
    repeat' (first | ((first | refine Qa rfl ?_ | refine Qc rfl rfl rfl ?_ | apply Qd rfl rfl rfl rfl | (apply Qe rfl rfl rfl rfl; intro H9)); (first | refine Q0 ?_ | refine Q1 ?_ | refine Q2 rfl ?_ | refine Q3 rfl rfl rfl ?_ | refine Q4 rfl rfl rfl rfl rfl ?_ | refine Q5 rfl ?_ | refine Q6 rfl ?_ | refine Q7 rfl rfl rfl ?_ | refine Q8 rfl rfl rfl ?_ | refine Q9 rfl rfl rfl rfl ?_ | refine QA rfl rfl (by decide) ?_ | refine QB rfl rfl (by decide) ?_ | refine QC rfl rfl ?_ | refine QD rfl ?_ | refine QE rfl rfl ?_ | refine QF rfl rfl ?_ | refine QG rfl rfl rfl rfl ?_ | refine QH rfl rfl rfl ?_ | refine QI rfl rfl rfl ?_ | refine QJ rfl rfl ?_ | refine QK rfl ?_ | refine QM rfl rfl rfl rfl rfl ?_ | refine QN ?_ | refine QO ?_ | refine QP rfl rfl rfl rfl rfl rfl ?_ | refine QQ rfl rfl rfl rfl rfl rfl rfl rfl rfl rfl rfl ?_ | refine QR rfl rfl rfl rfl rfl rfl rfl rfl rfl rfl rfl rfl ?_); (first | exact QX rfl rfl ⟨rfl, rfl⟩ | exact QY rfl ⟨rfl, rfl⟩ | exact QZ ⟨rfl, rfl⟩ | refine QX rfl rfl ?_ | refine QZ ?_)) | refine Qa rfl ?_ | (refine Qb rfl ?_; try (refine QS rfl rfl rfl rfl rfl rfl rfl ?_; (first | refine QX rfl rfl ?_ | refine QZ ?_))) | refine Qh ?_ | refine Qi rfl ?_ | refine Qj rfl ?_ | (refine Qf rfl rfl rfl ?_; refine QS rfl rfl rfl rfl rfl rfl rfl ?_; (first | refine QX rfl rfl ?_ | refine QZ ?_)) | apply Qg rfl rfl | refine Qk ?_ | refine Ql ?_ | refine Qm ?_ | refine Qn ?_ | refine Qo rfl ?_ | refine Qp rfl ?_ | refine Qq rfl ?_ | refine Qr ?_ | refine Qs ?_ | refine Qt ?_ | refine Qu ?_ | refine Qv ?_ | refine Qw (by kernel_rfl) ?_ | refine Qx rfl (by kernel_rfl) ?_)
    refine awp_ret ?_
    refine ⟨_, rfl, ?_, ?_⟩
    · rw [e]; rfl
    · rw [e]; rfl
  refine awp_join (s1 := ⟨[(0, .ptr 0 0), (1, .int .i64 i), (2, .sl 1 (b.map u8A)), (14, .bool (decide (i < 0 ∨ (r.dirt.length : Int) ≤ i)))], rdH r⟩) ?_ ?_
  · skip
    repeat' (first | ((first | refine Qa rfl ?_ | refine Qc rfl rfl rfl ?_ | apply Qd rfl rfl rfl rfl | (apply Qe rfl rfl rfl rfl; intro H9)); (first | refine Q0 ?_ | refine Q1 ?_ | refine Q2 rfl ?_ | refine Q3 rfl rfl rfl ?_ | refine Q4 rfl rfl rfl rfl rfl ?_ | refine Q5 rfl ?_ | refine Q6 rfl ?_ | refine Q7 rfl rfl rfl ?_ | refine Q8 rfl rfl rfl ?_ | refine Q9 rfl rfl rfl rfl ?_ | refine QA rfl rfl (by decide) ?_ | refine QB rfl rfl (by decide) ?_ | refine QC rfl rfl ?_ | refine QD rfl ?_ | refine QE rfl rfl ?_ | refine QF rfl rfl ?_ | refine QG rfl rfl rfl rfl ?_ | refine QH rfl rfl rfl ?_ | refine QI rfl rfl rfl ?_ | refine QJ rfl rfl ?_ | refine QK rfl ?_ | refine QM rfl rfl rfl rfl rfl ?_ | refine QN ?_ | refine QO ?_ | refine QP rfl rfl rfl rfl rfl rfl ?_ | refine QQ rfl rfl rfl rfl rfl rfl rfl rfl rfl rfl rfl ?_ | refine QR rfl rfl rfl rfl rfl rfl rfl rfl rfl rfl rfl rfl ?_); (first | exact QX rfl rfl ⟨rfl, rfl⟩ | exact QY rfl ⟨rfl, rfl⟩ | exact QZ ⟨rfl, rfl⟩ | refine QX rfl rfl ?_ | refine QZ ?_)) | refine Qa rfl ?_ | (refine Qb rfl ?_; try (refine QS rfl rfl rfl rfl rfl rfl rfl ?_; (first | refine QX rfl rfl ?_ | refine QZ ?_))) | refine Qh ?_ | refine Qi rfl ?_ | refine Qj rfl ?_ | (refine Qf rfl rfl rfl ?_; refine QS rfl rfl rfl rfl rfl rfl rfl ?_; (first | refine QX rfl rfl ?_ | refine QZ ?_)) | apply Qg rfl rfl | refine Qk ?_ | refine Ql ?_ | refine Qm ?_ | refine Qn ?_ | refine Qo rfl ?_ | refine Qp rfl ?_ | refine Qq rfl ?_ | refine Qr ?_ | refine Qs ?_ | refine Qt ?_ | refine Qu ?_ | refine Qv ?_ | refine Qw (by kernel_rfl) ?_ | refine Qx rfl (by kernel_rfl) ?_ | ((fail_if_success refine QV rfl ?_); first | refine Qy rfl rfl (fun _ => ?_) (fun _ => ?_) | refine Qz rfl rfl (fun _ => ?_) (fun _ => ?_)) | ((fail_if_success refine QW rfl rfl ?_); first | refine QT rfl rfl rfl (fun _ => ?_) (fun _ => ?_) | refine QU rfl rfl rfl (fun _ => ?_) (fun _ => ?_)))
    · rename_i h1
      refine ⟨rfl, imp_cutk 4 (Nat.le_refl _) (hok_rd r) rfl (by simp) ?_⟩
      repeat' (first | exact fa_nil | refine fa_cons ⟨?_, ?_⟩ ?_)
      all_goals (try first | exact rfl | exact trivial | (simp [IdsLt, IdsLtL]; done) | (simp [get_cons]; done) | (simp [get_cons, *]; done) | (refine congrArg (AV.int .i64) (wrap_eq ?_ ?_ ?_) <;> (first | omega | (simp; omega))))
    · rename_i h1
      refine ⟨rfl, imp_cutk 4 (Nat.le_refl _) (hok_rd r) rfl (by simp) ?_⟩
      repeat' (first | exact fa_nil | refine fa_cons ⟨?_, ?_⟩ ?_)
      all_goals (try first | exact rfl | exact trivial | (simp [IdsLt, IdsLtL]; done) | (simp [get_cons]; done) | (simp [get_cons, *]; done) | (refine congrArg (AV.int .i64) (wrap_eq ?_ ?_ ?_) <;> (first | omega | (simp; omega))))
  refine awp_cond_dec rfl (fun h1 => ?_) (fun h1 => ?_)
  · have e : r.write i b = (2, r) := by simp [Rd.write, Rd.check, hg, h1]
    repeat' (first | ((first | refine Qa rfl ?_ | refine Qc rfl rfl rfl ?_ | apply Qd rfl rfl rfl rfl | (apply Qe rfl rfl rfl rfl; intro H9)); (first | refine Q0 ?_ | refine Q1 ?_ | refine Q2 rfl ?_ | refine Q3 rfl rfl rfl ?_ | refine Q4 rfl rfl rfl rfl rfl ?_ | refine Q5 rfl ?_ | refine Q6 rfl ?_ | refine Q7 rfl rfl rfl ?_ | refine Q8 rfl rfl rfl ?_ | refine Q9 rfl rfl rfl rfl ?_ | refine QA rfl rfl (by decide) ?_ | refine QB rfl rfl (by decide) ?_ | refine QC rfl rfl ?_ | refine QD rfl ?_ | refine QE rfl rfl ?_ | refine QF rfl rfl ?_ | refine QG rfl rfl rfl rfl ?_ | refine QH rfl rfl rfl ?_ | refine QI rfl rfl rfl ?_ | refine QJ rfl rfl ?_ | refine QK rfl ?_ | refine QM rfl rfl rfl rfl rfl ?_ | refine QN ?_ | refine QO ?_ | refine QP rfl rfl rfl rfl rfl rfl ?_ | refine QQ rfl rfl rfl rfl rfl rfl rfl rfl rfl rfl rfl ?_ | refine QR rfl rfl rfl rfl rfl rfl rfl rfl rfl rfl rfl rfl ?_); (first | exact QX rfl rfl ⟨rfl, rfl⟩ | exact QY rfl ⟨rfl, rfl⟩ | exact QZ ⟨rfl, rfl⟩ | refine QX rfl rfl ?_ | refine QZ ?_)) | refine Qa rfl ?_ | (refine Qb rfl ?_; try (refine QS rfl rfl rfl rfl rfl rfl rfl ?_; (first | refine QX rfl rfl ?_ | refine QZ ?_))) | refine Qh ?_ | refine Qi rfl ?_ | refine Qj rfl ?_ | (refine Qf rfl rfl rfl ?_; refine QS rfl rfl rfl rfl rfl rfl rfl ?_; (first | refine QX rfl rfl ?_ | refine QZ ?_)) | apply Qg rfl rfl | refine Qk ?_ | refine Ql ?_ | refine Qm ?_ | refine Qn ?_ | refine Qo rfl ?_ | refine Qp rfl ?_ | refine Qq rfl ?_ | refine Qr ?_ | refine Qs ?_ | refine Qt ?_ | refine Qu ?_ | refine Qv ?_ | refine Qw (by kernel_rfl) ?_ | refine Qx rfl (by kernel_rfl) ?_)
    refine awp_ret ?_
    refine ⟨_, rfl, ?_, ?_⟩
    · rw [e]; rfl
    · rw [e]; rfl
  have hc : r.check i = 0 := by simp only [Rd.check, hg]; simp [h1]
  obtain ⟨-, k, rfl, hk⟩ := rd_out hc
  repeat' (first | ((first | refine Qa rfl ?_ | refine Qc rfl rfl rfl ?_ | apply Qd rfl rfl rfl rfl | (apply Qe rfl rfl rfl rfl; intro H9)); (first | refine Q0 ?_ | refine Q1 ?_ | refine Q2 rfl ?_ | refine Q3 rfl rfl rfl ?_ | refine Q4 rfl rfl rfl rfl rfl ?_ | refine Q5 rfl ?_ | refine Q6 rfl ?_ | refine Q7 rfl rfl rfl ?_ | refine Q8 rfl rfl rfl ?_ | refine Q9 rfl rfl rfl rfl ?_ | refine QA rfl rfl (by decide) ?_ | refine QB rfl rfl (by decide) ?_ | refine QC rfl rfl ?_ | refine QD rfl ?_ | refine QE rfl rfl ?_ | refine QF rfl rfl ?_ | refine QG rfl rfl rfl rfl ?_ | refine QH rfl rfl rfl ?_ | refine QI rfl rfl rfl ?_ | refine QJ rfl rfl ?_ | refine QK rfl ?_ | refine QM rfl rfl rfl rfl rfl ?_ | refine QN ?_ | refine QO ?_ | refine QP rfl rfl rfl rfl rfl rfl ?_ | refine QQ rfl rfl rfl rfl rfl rfl rfl rfl rfl rfl rfl ?_ | refine QR rfl rfl rfl rfl rfl rfl rfl rfl rfl rfl rfl rfl ?_); (first | exact QX rfl rfl ⟨rfl, rfl⟩ | exact QY rfl ⟨rfl, rfl⟩ | exact QZ ⟨rfl, rfl⟩ | refine QX rfl rfl ?_ | refine QZ ?_)) | refine Qa rfl ?_ | (refine Qb rfl ?_; try (refine QS rfl rfl rfl rfl rfl rfl rfl ?_; (first | refine QX rfl rfl ?_ | refine QZ ?_))) | refine Qh ?_ | refine Qi rfl ?_ | refine Qj rfl ?_ | (refine Qf rfl rfl rfl ?_; refine QS rfl rfl rfl rfl rfl rfl rfl ?_; (first | refine QX rfl rfl ?_ | refine QZ ?_)) | apply Qg rfl rfl | refine Qk ?_ | refine Ql ?_ | refine Qm ?_ | refine Qn ?_ | refine Qo rfl ?_ | refine Qp rfl ?_ | refine Qq rfl ?_ | refine Qr ?_ | refine Qs ?_ | refine Qt ?_ | refine Qu ?_ | refine Qv ?_ | refine Qw (by kernel_rfl) ?_ | refine Qx rfl (by kernel_rfl) ?_)
  refine awp_cond_dec rfl (fun h2 => ?_) (fun h2 => ?_)
  · have h2' : 64 < b.length := by simpa using Int.ofNat_lt.1 h2
    have e : r.write k b = (3, r) := by simp [Rd.write, hc, h2']
    repeat' (first | ((first | refine Qa rfl ?_ | refine Qc rfl rfl rfl ?_ | apply Qd rfl rfl rfl rfl | (apply Qe rfl rfl rfl rfl; intro H9)); (first | refine Q0 ?_ | refine Q1 ?_ | refine Q2 rfl ?_ | refine Q3 rfl rfl rfl ?_ | refine Q4 rfl rfl rfl rfl rfl ?_ | refine Q5 rfl ?_ | refine Q6 rfl ?_ | refine Q7 rfl rfl rfl ?_ | refine Q8 rfl rfl rfl ?_ | refine Q9 rfl rfl rfl rfl ?_ | refine QA rfl rfl (by decide) ?_ | refine QB rfl rfl (by decide) ?_ | refine QC rfl rfl ?_ | refine QD rfl ?_ | refine QE rfl rfl ?_ | refine QF rfl rfl ?_ | refine QG rfl rfl rfl rfl ?_ | refine QH rfl rfl rfl ?_ | refine QI rfl rfl rfl ?_ | refine QJ rfl rfl ?_ | refine QK rfl ?_ | refine QM rfl rfl rfl rfl rfl ?_ | refine QN ?_ | refine QO ?_ | refine QP rfl rfl rfl rfl rfl rfl ?_ | refine QQ rfl rfl rfl rfl rfl rfl rfl rfl rfl rfl rfl ?_ | refine QR rfl rfl rfl rfl rfl rfl rfl rfl rfl rfl rfl rfl ?_); (first | exact QX rfl rfl ⟨rfl, rfl⟩ | exact QY rfl ⟨rfl, rfl⟩ | exact QZ ⟨rfl, rfl⟩ | refine QX rfl rfl ?_ | refine QZ ?_)) | refine Qa rfl ?_ | (refine Qb rfl ?_; try (refine QS rfl rfl rfl rfl rfl rfl rfl ?_; (first | refine QX rfl rfl ?_ | refine QZ ?_))) | refine Qh ?_ | refine Qi rfl ?_ | refine Qj rfl ?_ | (refine Qf rfl rfl rfl ?_; refine QS rfl rfl rfl rfl rfl rfl rfl ?_; (first | refine QX rfl rfl ?_ | refine QZ ?_)) | apply Qg rfl rfl | refine Qk ?_ | refine Ql ?_ | refine Qm ?_ | refine Qn ?_ | refine Qo rfl ?_ | refine Qp rfl ?_ | refine Qq rfl ?_ | refine Qr ?_ | refine Qs ?_ | refine Qt ?_ | refine Qu ?_ | refine Qv ?_ | refine Qw (by kernel_rfl) ?_ | refine Qx rfl (by kernel_rfl) ?_)
    refine awp_ret ?_
    refine ⟨_, rfl, ?_, ?_⟩
    · rw [e]; rfl
    · rw [e]; rfl
  have hb2 : b.length ≤ 64 := by simp at h2; omega
  repeat' (first | ((first | refine Qa rfl ?_ | refine Qc rfl rfl rfl ?_ | apply Qd rfl rfl rfl rfl | (apply Qe rfl rfl rfl rfl; intro H9)); (first | refine Q0 ?_ | refine Q1 ?_ | refine Q2 rfl ?_ | refine Q3 rfl rfl rfl ?_ | refine Q4 rfl rfl rfl rfl rfl ?_ | refine Q5 rfl ?_ | refine Q6 rfl ?_ | refine Q7 rfl rfl rfl ?_ | refine Q8 rfl rfl rfl ?_ | refine Q9 rfl rfl rfl rfl ?_ | refine QA rfl rfl (by decide) ?_ | refine QB rfl rfl (by decide) ?_ | refine QC rfl rfl ?_ | refine QD rfl ?_ | refine QE rfl rfl ?_ | refine QF rfl rfl ?_ | refine QG rfl rfl rfl rfl ?_ | refine QH rfl rfl rfl ?_ | refine QI rfl rfl rfl ?_ | refine QJ rfl rfl ?_ | refine QK rfl ?_ | refine QM rfl rfl rfl rfl rfl ?_ | refine QN ?_ | refine QO ?_ | refine QP rfl rfl rfl rfl rfl rfl ?_ | refine QQ rfl rfl rfl rfl rfl rfl rfl rfl rfl rfl rfl ?_ | refine QR rfl rfl rfl rfl rfl rfl rfl rfl rfl rfl rfl rfl ?_); (first | exact QX rfl rfl ⟨rfl, rfl⟩ | exact QY rfl ⟨rfl, rfl⟩ | exact QZ ⟨rfl, rfl⟩ | refine QX rfl rfl ?_ | refine QZ ?_)) | refine Qa rfl ?_ | (refine Qb rfl ?_; try (refine QS rfl rfl rfl rfl rfl rfl rfl ?_; (first | refine QX rfl rfl ?_ | refine QZ ?_))) | refine Qh ?_ | refine Qi rfl ?_ | refine Qj rfl ?_ | (refine Qf rfl rfl rfl ?_; refine QS rfl rfl rfl rfl rfl rfl rfl ?_; (first | refine QX rfl rfl ?_ | refine QZ ?_)) | apply Qg rfl rfl | refine Qk ?_ | refine Ql ?_ | refine Qm ?_ | refine Qn ?_ | refine Qo rfl ?_ | refine Qp rfl ?_ | refine Qq rfl ?_ | refine Qr ?_ | refine Qs ?_ | refine Qt ?_ | refine Qu ?_ | refine Qv ?_ | refine Qw (by kernel_rfl) ?_ | refine Qx rfl (by kernel_rfl) ?_)
  refine st_call (fun _ => rfl) rfl ?_
  refine ACalls.mono (rburn_c X r) ?_
  rintro r H' ⟨rfl, rfl⟩
  first | refine nx rfl rfl ?_ | refine nx0 ?_
  repeat' (first | ((first | refine Qa rfl ?_ | refine Qc rfl rfl rfl ?_ | apply Qd rfl rfl rfl rfl | (apply Qe rfl rfl rfl rfl; intro H9)); (first | refine Q0 ?_ | refine Q1 ?_ | refine Q2 rfl ?_ | refine Q3 rfl rfl rfl ?_ | refine Q4 rfl rfl rfl rfl rfl ?_ | refine Q5 rfl ?_ | refine Q6 rfl ?_ | refine Q7 rfl rfl rfl ?_ | refine Q8 rfl rfl rfl ?_ | refine Q9 rfl rfl rfl rfl ?_ | refine QA rfl rfl (by decide) ?_ | refine QB rfl rfl (by decide) ?_ | refine QC rfl rfl ?_ | refine QD rfl ?_ | refine QE rfl rfl ?_ | refine QF rfl rfl ?_ | refine QG rfl rfl rfl rfl ?_ | refine QH rfl rfl rfl ?_ | refine QI rfl rfl rfl ?_ | refine QJ rfl rfl ?_ | refine QK rfl ?_ | refine QM rfl rfl rfl rfl rfl ?_ | refine QN ?_ | refine QO ?_ | refine QP rfl rfl rfl rfl rfl rfl ?_ | refine QQ rfl rfl rfl rfl rfl rfl rfl rfl rfl rfl rfl ?_ | refine QR rfl rfl rfl rfl rfl rfl rfl rfl rfl rfl rfl rfl ?_); (first | exact QX rfl rfl ⟨rfl, rfl⟩ | exact QY rfl ⟨rfl, rfl⟩ | exact QZ ⟨rfl, rfl⟩ | refine QX rfl rfl ?_ | refine QZ ?_)) | refine Qa rfl ?_ | (refine Qb rfl ?_; try (refine QS rfl rfl rfl rfl rfl rfl rfl ?_; (first | refine QX rfl rfl ?_ | refine QZ ?_))) | refine Qh ?_ | refine Qi rfl ?_ | refine Qj rfl ?_ | (refine Qf rfl rfl rfl ?_; refine QS rfl rfl rfl rfl rfl rfl rfl ?_; (first | refine QX rfl rfl ?_ | refine QZ ?_)) | apply Qg rfl rfl | refine Qk ?_ | refine Ql ?_ | refine Qm ?_ | refine Qn ?_ | refine Qo rfl ?_ | refine Qp rfl ?_ | refine Qq rfl ?_ | refine Qr ?_ | refine Qs ?_ | refine Qt ?_ | refine Qu ?_ | refine Qv ?_ | refine Qw (by kernel_rfl) ?_ | refine Qx rfl (by kernel_rfl) ?_)
  cases hdie : r.dies with
  | true =>
    have e : r.write k b = (1, r.burn) := by simp [Rd.write, hc, hdie]; omega
    repeat' (first | ((first | refine Qa rfl ?_ | refine Qc rfl rfl rfl ?_ | apply Qd rfl rfl rfl rfl | (apply Qe rfl rfl rfl rfl; intro H9)); (first | refine Q0 ?_ | refine Q1 ?_ | refine Q2 rfl ?_ | refine Q3 rfl rfl rfl ?_ | refine Q4 rfl rfl rfl rfl rfl ?_ | refine Q5 rfl ?_ | refine Q6 rfl ?_ | refine Q7 rfl rfl rfl ?_ | refine Q8 rfl rfl rfl ?_ | refine Q9 rfl rfl rfl rfl ?_ | refine QA rfl rfl (by decide) ?_ | refine QB rfl rfl (by decide) ?_ | refine QC rfl rfl ?_ | refine QD rfl ?_ | refine QE rfl rfl ?_ | refine QF rfl rfl ?_ | refine QG rfl rfl rfl rfl ?_ | refine QH rfl rfl rfl ?_ | refine QI rfl rfl rfl ?_ | refine QJ rfl rfl ?_ | refine QK rfl ?_ | refine QM rfl rfl rfl rfl rfl ?_ | refine QN ?_ | refine QO ?_ | refine QP rfl rfl rfl rfl rfl rfl ?_ | refine QQ rfl rfl rfl rfl rfl rfl rfl rfl rfl rfl rfl ?_ | refine QR rfl rfl rfl rfl rfl rfl rfl rfl rfl rfl rfl rfl ?_); (first | exact QX rfl rfl ⟨rfl, rfl⟩ | exact QY rfl ⟨rfl, rfl⟩ | exact QZ ⟨rfl, rfl⟩ | refine QX rfl rfl ?_ | refine QZ ?_)) | refine Qa rfl ?_ | (refine Qb rfl ?_; try (refine QS rfl rfl rfl rfl rfl rfl rfl ?_; (first | refine QX rfl rfl ?_ | refine QZ ?_))) | refine Qh ?_ | refine Qi rfl ?_ | refine Qj rfl ?_ | (refine Qf rfl rfl rfl ?_; refine QS rfl rfl rfl rfl rfl rfl rfl ?_; (first | refine QX rfl rfl ?_ | refine QZ ?_)) | apply Qg rfl rfl | refine Qk ?_ | refine Ql ?_ | refine Qm ?_ | refine Qn ?_ | refine Qo rfl ?_ | refine Qp rfl ?_ | refine Qq rfl ?_ | refine Qr ?_ | refine Qs ?_ | refine Qt ?_ | refine Qu ?_ | refine Qv ?_ | refine Qw (by kernel_rfl) ?_ | refine Qx rfl (by kernel_rfl) ?_)
    refine awp_ret ?_
    refine ⟨_, rfl, ?_, ?_⟩
    · rw [e]; rfl
    · rw [e]; rfl
  | false =>
    have e : r.write k b = (0, r.burn.put k b) := by simp [Rd.write, hc, hdie]; omega
    rw [e]
    have hd1 : r.burn.dirt.length * 64 = r.burn.new.length := by unfold Rd.burn; rw [hdie]; exact hd
    have hl1 : r.burn.new.length ≤ 1073741824 := by unfold Rd.burn; rw [hdie]; exact hl
    have hk1 : k < r.burn.dirt.length := by unfold Rd.burn; rw [hdie]; exact hk
    generalize r.burn = r1 at *
    repeat' (first | ((first | refine Qa rfl ?_ | refine Qc rfl rfl rfl ?_ | apply Qd rfl rfl rfl rfl | (apply Qe rfl rfl rfl rfl; intro H9)); (first | refine Q0 ?_ | refine Q1 ?_ | refine Q2 rfl ?_ | refine Q3 rfl rfl rfl ?_ | refine Q4 rfl rfl rfl rfl rfl ?_ | refine Q5 rfl ?_ | refine Q6 rfl ?_ | refine Q7 rfl rfl rfl ?_ | refine Q8 rfl rfl rfl ?_ | refine Q9 rfl rfl rfl rfl ?_ | refine QA rfl rfl (by decide) ?_ | refine QB rfl rfl (by decide) ?_ | refine QC rfl rfl ?_ | refine QD rfl ?_ | refine QE rfl rfl ?_ | refine QF rfl rfl ?_ | refine QG rfl rfl rfl rfl ?_ | refine QH rfl rfl rfl ?_ | refine QI rfl rfl rfl ?_ | refine QJ rfl rfl ?_ | refine QK rfl ?_ | refine QM rfl rfl rfl rfl rfl ?_ | refine QN ?_ | refine QO ?_ | refine QP rfl rfl rfl rfl rfl rfl ?_ | refine QQ rfl rfl rfl rfl rfl rfl rfl rfl rfl rfl rfl ?_ | refine QR rfl rfl rfl rfl rfl rfl rfl rfl rfl rfl rfl rfl ?_); (first | exact QX rfl rfl ⟨rfl, rfl⟩ | exact QY rfl ⟨rfl, rfl⟩ | exact QZ ⟨rfl, rfl⟩ | refine QX rfl rfl ?_ | refine QZ ?_)) | refine Qa rfl ?_ | (refine Qb rfl ?_; try (refine QS rfl rfl rfl rfl rfl rfl rfl ?_; (first | refine QX rfl rfl ?_ | refine QZ ?_))) | refine Qh ?_ | refine Qi rfl ?_ | refine Qj rfl ?_ | (refine Qf rfl rfl rfl ?_; refine QS rfl rfl rfl rfl rfl rfl rfl ?_; (first | refine QX rfl rfl ?_ | refine QZ ?_)) | apply Qg rfl rfl | refine Qk ?_ | refine Ql ?_ | refine Qm ?_ | refine Qn ?_ | refine Qo rfl ?_ | refine Qp rfl ?_ | refine Qq rfl ?_ | refine Qr ?_ | refine Qs ?_ | refine Qt ?_ | refine Qu ?_ | refine Qv ?_ | refine Qw (by kernel_rfl) ?_ | refine Qx rfl (by kernel_rfl) ?_)
    refine awp_loop2 (fun j : Nat => ⟨[(0, .ptr 0 0), (1, .int .i64 (k : Int)), (2, .sl 1 (b.map u8A)), (7, .int .i64 j)], rdH { r1 with new := fillN r1.new b k j }⟩) (fun j => j ≤ 64) (fun j => 64 - j) 0 (Nat.zero_le _) ?_ ?_
    · have h0 : fillN r1.new b k 0 = r1.new := by simp [fillN]
      rw [h0]
      refine imp_cutk 4 (Nat.le_refl _) (hok_rd r1) rfl (by simp) ?_
      repeat' (first | exact fa_nil | refine fa_cons ⟨?_, ?_⟩ ?_)
      all_goals (try first | exact rfl | exact trivial | (simp [IdsLt, IdsLtL]; done) | (simp [get_cons]; done) | (simp [get_cons, *]; done) | (refine congrArg (AV.int .i64) (wrap_eq ?_ ?_ ?_) <;> (first | omega | (simp; omega))))
    · rintro j hj
      rw [rdH_new (fill_len hb2 (by omega) hj)]
      repeat' (first | ((first | refine Qa rfl ?_ | refine Qc rfl rfl rfl ?_ | apply Qd rfl rfl rfl rfl | (apply Qe rfl rfl rfl rfl; intro H9)); (first | refine Q0 ?_ | refine Q1 ?_ | refine Q2 rfl ?_ | refine Q3 rfl rfl rfl ?_ | refine Q4 rfl rfl rfl rfl rfl ?_ | refine Q5 rfl ?_ | refine Q6 rfl ?_ | refine Q7 rfl rfl rfl ?_ | refine Q8 rfl rfl rfl ?_ | refine Q9 rfl rfl rfl rfl ?_ | refine QA rfl rfl (by decide) ?_ | refine QB rfl rfl (by decide) ?_ | refine QC rfl rfl ?_ | refine QD rfl ?_ | refine QE rfl rfl ?_ | refine QF rfl rfl ?_ | refine QG rfl rfl rfl rfl ?_ | refine QH rfl rfl rfl ?_ | refine QI rfl rfl rfl ?_ | refine QJ rfl rfl ?_ | refine QK rfl ?_ | refine QM rfl rfl rfl rfl rfl ?_ | refine QN ?_ | refine QO ?_ | refine QP rfl rfl rfl rfl rfl rfl ?_ | refine QQ rfl rfl rfl rfl rfl rfl rfl rfl rfl rfl rfl ?_ | refine QR rfl rfl rfl rfl rfl rfl rfl rfl rfl rfl rfl rfl ?_); (first | exact QX rfl rfl ⟨rfl, rfl⟩ | exact QY rfl ⟨rfl, rfl⟩ | exact QZ ⟨rfl, rfl⟩ | refine QX rfl rfl ?_ | refine QZ ?_)) | refine Qa rfl ?_ | (refine Qb rfl ?_; try (refine QS rfl rfl rfl rfl rfl rfl rfl ?_; (first | refine QX rfl rfl ?_ | refine QZ ?_))) | refine Qh ?_ | refine Qi rfl ?_ | refine Qj rfl ?_ | (refine Qf rfl rfl rfl ?_; refine QS rfl rfl rfl rfl rfl rfl rfl ?_; (first | refine QX rfl rfl ?_ | refine QZ ?_)) | apply Qg rfl rfl | refine Qk ?_ | refine Ql ?_ | refine Qm ?_ | refine Qn ?_ | refine Qo rfl ?_ | refine Qp rfl ?_ | refine Qq rfl ?_ | refine Qr ?_ | refine Qs ?_ | refine Qt ?_ | refine Qu ?_ | refine Qv ?_ | refine Qw (by kernel_rfl) ?_ | refine Qx rfl (by kernel_rfl) ?_)
      refine awp_cond_dec rfl (fun h3 => ?_) (fun h3 => ?_)
      · have hj3 : j < 64 := by omega
        repeat' (first | ((first | refine Qa rfl ?_ | refine Qc rfl rfl rfl ?_ | apply Qd rfl rfl rfl rfl | (apply Qe rfl rfl rfl rfl; intro H9)); (first | refine Q0 ?_ | refine Q1 ?_ | refine Q2 rfl ?_ | refine Q3 rfl rfl rfl ?_ | refine Q4 rfl rfl rfl rfl rfl ?_ | refine Q5 rfl ?_ | refine Q6 rfl ?_ | refine Q7 rfl rfl rfl ?_ | refine Q8 rfl rfl rfl ?_ | refine Q9 rfl rfl rfl rfl ?_ | refine QA rfl rfl (by decide) ?_ | refine QB rfl rfl (by decide) ?_ | refine QC rfl rfl ?_ | refine QD rfl ?_ | refine QE rfl rfl ?_ | refine QF rfl rfl ?_ | refine QG rfl rfl rfl rfl ?_ | refine QH rfl rfl rfl ?_ | refine QI rfl rfl rfl ?_ | refine QJ rfl rfl ?_ | refine QK rfl ?_ | refine QM rfl rfl rfl rfl rfl ?_ | refine QN ?_ | refine QO ?_ | refine QP rfl rfl rfl rfl rfl rfl ?_ | refine QQ rfl rfl rfl rfl rfl rfl rfl rfl rfl rfl rfl ?_ | refine QR rfl rfl rfl rfl rfl rfl rfl rfl rfl rfl rfl rfl ?_); (first | exact QX rfl rfl ⟨rfl, rfl⟩ | exact QY rfl ⟨rfl, rfl⟩ | exact QZ ⟨rfl, rfl⟩ | refine QX rfl rfl ?_ | refine QZ ?_)) | refine Qa rfl ?_ | (refine Qb rfl ?_; try (refine QS rfl rfl rfl rfl rfl rfl rfl ?_; (first | refine QX rfl rfl ?_ | refine QZ ?_))) | refine Qh ?_ | refine Qi rfl ?_ | refine Qj rfl ?_ | (refine Qf rfl rfl rfl ?_; refine QS rfl rfl rfl rfl rfl rfl rfl ?_; (first | refine QX rfl rfl ?_ | refine QZ ?_)) | apply Qg rfl rfl | refine Qk ?_ | refine Ql ?_ | refine Qm ?_ | refine Qn ?_ | refine Qo rfl ?_ | refine Qp rfl ?_ | refine Qq rfl ?_ | refine Qr ?_ | refine Qs ?_ | refine Qt ?_ | refine Qu ?_ | refine Qv ?_ | refine Qw (by kernel_rfl) ?_ | refine Qx rfl (by kernel_rfl) ?_)
        refine awp_mid (s1 := ⟨[(0, .ptr 0 0), (1, .int .i64 (k : Int)), (2, .sl 1 (b.map u8A)), (7, .int .i64 j), (8, u8A ((b[j]?).getD 0))], rdH { r1 with new := fillN r1.new b k j }⟩) ?_ ?_
        · refine awp_cond_dec rfl (fun h4 => ?_) (fun h4 => ?_)
          · have h5 : j < b.length := by simpa using Int.ofNat_lt.1 h4
            obtain ⟨q, hq⟩ : ∃ q, b[j]? = some q := ⟨_, List.getElem?_eq_getElem h5⟩
            repeat' (first | ((first | refine Qa rfl ?_ | refine Qc rfl rfl rfl ?_ | apply Qd rfl rfl rfl rfl | (apply Qe rfl rfl rfl rfl; intro H9)); (first | refine Q0 ?_ | refine Q1 ?_ | refine Q2 rfl ?_ | refine Q3 rfl rfl rfl ?_ | refine Q4 rfl rfl rfl rfl rfl ?_ | refine Q5 rfl ?_ | refine Q6 rfl ?_ | refine Q7 rfl rfl rfl ?_ | refine Q8 rfl rfl rfl ?_ | refine Q9 rfl rfl rfl rfl ?_ | refine QA rfl rfl (by decide) ?_ | refine QB rfl rfl (by decide) ?_ | refine QC rfl rfl ?_ | refine QD rfl ?_ | refine QE rfl rfl ?_ | refine QF rfl rfl ?_ | refine QG rfl rfl rfl rfl ?_ | refine QH rfl rfl rfl ?_ | refine QI rfl rfl rfl ?_ | refine QJ rfl rfl ?_ | refine QK rfl ?_ | refine QM rfl rfl rfl rfl rfl ?_ | refine QN ?_ | refine QO ?_ | refine QP rfl rfl rfl rfl rfl rfl ?_ | refine QQ rfl rfl rfl rfl rfl rfl rfl rfl rfl rfl rfl ?_ | refine QR rfl rfl rfl rfl rfl rfl rfl rfl rfl rfl rfl rfl ?_); (first | exact QX rfl rfl ⟨rfl, rfl⟩ | exact QY rfl ⟨rfl, rfl⟩ | exact QZ ⟨rfl, rfl⟩ | refine QX rfl rfl ?_ | refine QZ ?_)) | refine Qa rfl ?_ | (refine Qb rfl ?_; try (refine QS rfl rfl rfl rfl rfl rfl rfl ?_; (first | refine QX rfl rfl ?_ | refine QZ ?_))) | refine Qh ?_ | refine Qi rfl ?_ | refine Qj rfl ?_ | (refine Qf rfl rfl rfl ?_; refine QS rfl rfl rfl rfl rfl rfl rfl ?_; (first | refine QX rfl rfl ?_ | refine QZ ?_)) | apply Qg rfl rfl | refine Qk ?_ | refine Ql ?_ | refine Qm ?_ | refine Qn ?_ | refine Qo rfl ?_ | refine Qp rfl ?_ | refine Qq rfl ?_ | refine Qr ?_ | refine Qs ?_ | refine Qt ?_ | refine Qu ?_ | refine Qv ?_ | refine Qw (by kernel_rfl) ?_ | refine Qx rfl (by kernel_rfl) ?_)
            refine st_ixm hq rfl rfl rfl rfl rfl rfl rfl (by first | rfl | omega) rfl ?_
            first | refine nx rfl rfl ?_ | refine nx0 ?_
            repeat' (first | ((first | refine Qa rfl ?_ | refine Qc rfl rfl rfl ?_ | apply Qd rfl rfl rfl rfl | (apply Qe rfl rfl rfl rfl; intro H9)); (first | refine Q0 ?_ | refine Q1 ?_ | refine Q2 rfl ?_ | refine Q3 rfl rfl rfl ?_ | refine Q4 rfl rfl rfl rfl rfl ?_ | refine Q5 rfl ?_ | refine Q6 rfl ?_ | refine Q7 rfl rfl rfl ?_ | refine Q8 rfl rfl rfl ?_ | refine Q9 rfl rfl rfl rfl ?_ | refine QA rfl rfl (by decide) ?_ | refine QB rfl rfl (by decide) ?_ | refine QC rfl rfl ?_ | refine QD rfl ?_ | refine QE rfl rfl ?_ | refine QF rfl rfl ?_ | refine QG rfl rfl rfl rfl ?_ | refine QH rfl rfl rfl ?_ | refine QI rfl rfl rfl ?_ | refine QJ rfl rfl ?_ | refine QK rfl ?_ | refine QM rfl rfl rfl rfl rfl ?_ | refine QN ?_ | refine QO ?_ | refine QP rfl rfl rfl rfl rfl rfl ?_ | refine QQ rfl rfl rfl rfl rfl rfl rfl rfl rfl rfl rfl ?_ | refine QR rfl rfl rfl rfl rfl rfl rfl rfl rfl rfl rfl rfl ?_); (first | exact QX rfl rfl ⟨rfl, rfl⟩ | exact QY rfl ⟨rfl, rfl⟩ | exact QZ ⟨rfl, rfl⟩ | refine QX rfl rfl ?_ | refine QZ ?_)) | refine Qa rfl ?_ | (refine Qb rfl ?_; try (refine QS rfl rfl rfl rfl rfl rfl rfl ?_; (first | refine QX rfl rfl ?_ | refine QZ ?_))) | refine Qh ?_ | refine Qi rfl ?_ | refine Qj rfl ?_ | (refine Qf rfl rfl rfl ?_; refine QS rfl rfl rfl rfl rfl rfl rfl ?_; (first | refine QX rfl rfl ?_ | refine QZ ?_)) | apply Qg rfl rfl | refine Qk ?_ | refine Ql ?_ | refine Qm ?_ | refine Qn ?_ | refine Qo rfl ?_ | refine Qp rfl ?_ | refine Qq rfl ?_ | refine Qr ?_ | refine Qs ?_ | refine Qt ?_ | refine Qu ?_ | refine Qv ?_ | refine Qw (by kernel_rfl) ?_ | refine Qx rfl (by kernel_rfl) ?_)
            rw [hq, rdH_new (fill_len hb2 (by omega) hj)]
            refine ⟨rfl, imp_cutk 4 (Nat.le_refl _) ?_ rfl (by simp) ?_⟩
            · rw [← rdH_new (fill_len hb2 (by omega) hj)]; exact hok_rd _
            repeat' (first | exact fa_nil | refine fa_cons ⟨?_, ?_⟩ ?_)
            all_goals (try first | exact rfl | exact trivial | (simp [IdsLt, IdsLtL]; done) | (simp [get_cons]; done) | (simp [get_cons, *]; done) | (refine congrArg (AV.int .i64) (wrap_eq ?_ ?_ ?_) <;> (first | omega | (simp; omega))))
          · have h5 : b[j]? = none := List.getElem?_eq_none (by simp at h4; omega)
            repeat' (first | ((first | refine Qa rfl ?_ | refine Qc rfl rfl rfl ?_ | apply Qd rfl rfl rfl rfl | (apply Qe rfl rfl rfl rfl; intro H9)); (first | refine Q0 ?_ | refine Q1 ?_ | refine Q2 rfl ?_ | refine Q3 rfl rfl rfl ?_ | refine Q4 rfl rfl rfl rfl rfl ?_ | refine Q5 rfl ?_ | refine Q6 rfl ?_ | refine Q7 rfl rfl rfl ?_ | refine Q8 rfl rfl rfl ?_ | refine Q9 rfl rfl rfl rfl ?_ | refine QA rfl rfl (by decide) ?_ | refine QB rfl rfl (by decide) ?_ | refine QC rfl rfl ?_ | refine QD rfl ?_ | refine QE rfl rfl ?_ | refine QF rfl rfl ?_ | refine QG rfl rfl rfl rfl ?_ | refine QH rfl rfl rfl ?_ | refine QI rfl rfl rfl ?_ | refine QJ rfl rfl ?_ | refine QK rfl ?_ | refine QM rfl rfl rfl rfl rfl ?_ | refine QN ?_ | refine QO ?_ | refine QP rfl rfl rfl rfl rfl rfl ?_ | refine QQ rfl rfl rfl rfl rfl rfl rfl rfl rfl rfl rfl ?_ | refine QR rfl rfl rfl rfl rfl rfl rfl rfl rfl rfl rfl rfl ?_); (first | exact QX rfl rfl ⟨rfl, rfl⟩ | exact QY rfl ⟨rfl, rfl⟩ | exact QZ ⟨rfl, rfl⟩ | refine QX rfl rfl ?_ | refine QZ ?_)) | refine Qa rfl ?_ | (refine Qb rfl ?_; try (refine QS rfl rfl rfl rfl rfl rfl rfl ?_; (first | refine QX rfl rfl ?_ | refine QZ ?_))) | refine Qh ?_ | refine Qi rfl ?_ | refine Qj rfl ?_ | (refine Qf rfl rfl rfl ?_; refine QS rfl rfl rfl rfl rfl rfl rfl ?_; (first | refine QX rfl rfl ?_ | refine QZ ?_)) | apply Qg rfl rfl | refine Qk ?_ | refine Ql ?_ | refine Qm ?_ | refine Qn ?_ | refine Qo rfl ?_ | refine Qp rfl ?_ | refine Qq rfl ?_ | refine Qr ?_ | refine Qs ?_ | refine Qt ?_ | refine Qu ?_ | refine Qv ?_ | refine Qw (by kernel_rfl) ?_ | refine Qx rfl (by kernel_rfl) ?_)
            rw [h5, rdH_new (fill_len hb2 (by omega) hj)]
            refine ⟨rfl, imp_cutk 4 (Nat.le_refl _) ?_ rfl (by simp) ?_⟩
            · rw [← rdH_new (fill_len hb2 (by omega) hj)]; exact hok_rd _
            repeat' (first | exact fa_nil | refine fa_cons ⟨?_, ?_⟩ ?_)
            all_goals (try first | exact rfl | exact trivial | (simp [IdsLt, IdsLtL]; done) | (simp [get_cons]; done) | (simp [get_cons, *]; done) | (refine congrArg (AV.int .i64) (wrap_eq ?_ ?_ ?_) <;> (first | omega | (simp; omega))))
        rw [rdH_new (fill_len hb2 (by omega) hj)]
        repeat' (first | ((first | refine Qa rfl ?_ | refine Qc rfl rfl rfl ?_ | apply Qd rfl rfl rfl rfl | (apply Qe rfl rfl rfl rfl; intro H9)); (first | refine Q0 ?_ | refine Q1 ?_ | refine Q2 rfl ?_ | refine Q3 rfl rfl rfl ?_ | refine Q4 rfl rfl rfl rfl rfl ?_ | refine Q5 rfl ?_ | refine Q6 rfl ?_ | refine Q7 rfl rfl rfl ?_ | refine Q8 rfl rfl rfl ?_ | refine Q9 rfl rfl rfl rfl ?_ | refine QA rfl rfl (by decide) ?_ | refine QB rfl rfl (by decide) ?_ | refine QC rfl rfl ?_ | refine QD rfl ?_ | refine QE rfl rfl ?_ | refine QF rfl rfl ?_ | refine QG rfl rfl rfl rfl ?_ | refine QH rfl rfl rfl ?_ | refine QI rfl rfl rfl ?_ | refine QJ rfl rfl ?_ | refine QK rfl ?_ | refine QM rfl rfl rfl rfl rfl ?_ | refine QN ?_ | refine QO ?_ | refine QP rfl rfl rfl rfl rfl rfl ?_ | refine QQ rfl rfl rfl rfl rfl rfl rfl rfl rfl rfl rfl ?_ | refine QR rfl rfl rfl rfl rfl rfl rfl rfl rfl rfl rfl rfl ?_); (first | exact QX rfl rfl ⟨rfl, rfl⟩ | exact QY rfl ⟨rfl, rfl⟩ | exact QZ ⟨rfl, rfl⟩ | refine QX rfl rfl ?_ | refine QZ ?_)) | refine Qa rfl ?_ | (refine Qb rfl ?_; try (refine QS rfl rfl rfl rfl rfl rfl rfl ?_; (first | refine QX rfl rfl ?_ | refine QZ ?_))) | refine Qh ?_ | refine Qi rfl ?_ | refine Qj rfl ?_ | (refine Qf rfl rfl rfl ?_; refine QS rfl rfl rfl rfl rfl rfl rfl ?_; (first | refine QX rfl rfl ?_ | refine QZ ?_)) | apply Qg rfl rfl | refine Qk ?_ | refine Ql ?_ | refine Qm ?_ | refine Qn ?_ | refine Qo rfl ?_ | refine Qp rfl ?_ | refine Qq rfl ?_ | refine Qr ?_ | refine Qs ?_ | refine Qt ?_ | refine Qu ?_ | refine Qv ?_ | refine Qw (by kernel_rfl) ?_ | refine Qx rfl (by kernel_rfl) ?_)
        refine st_index_own (j := k * 64 + j) rfl rfl rfl rfl rfl rfl rfl rfl (wr64a (by omega) (by simp) (by omega)) (by omega) ?_
        first | refine nx rfl rfl ?_ | refine nx0 ?_
        repeat' (first | ((first | refine Qa rfl ?_ | refine Qc rfl rfl rfl ?_ | apply Qd rfl rfl rfl rfl | (apply Qe rfl rfl rfl rfl; intro H9)); (first | refine Q0 ?_ | refine Q1 ?_ | refine Q2 rfl ?_ | refine Q3 rfl rfl rfl ?_ | refine Q4 rfl rfl rfl rfl rfl ?_ | refine Q5 rfl ?_ | refine Q6 rfl ?_ | refine Q7 rfl rfl rfl ?_ | refine Q8 rfl rfl rfl ?_ | refine Q9 rfl rfl rfl rfl ?_ | refine QA rfl rfl (by decide) ?_ | refine QB rfl rfl (by decide) ?_ | refine QC rfl rfl ?_ | refine QD rfl ?_ | refine QE rfl rfl ?_ | refine QF rfl rfl ?_ | refine QG rfl rfl rfl rfl ?_ | refine QH rfl rfl rfl ?_ | refine QI rfl rfl rfl ?_ | refine QJ rfl rfl ?_ | refine QK rfl ?_ | refine QM rfl rfl rfl rfl rfl ?_ | refine QN ?_ | refine QO ?_ | refine QP rfl rfl rfl rfl rfl rfl ?_ | refine QQ rfl rfl rfl rfl rfl rfl rfl rfl rfl rfl rfl ?_ | refine QR rfl rfl rfl rfl rfl rfl rfl rfl rfl rfl rfl rfl ?_); (first | exact QX rfl rfl ⟨rfl, rfl⟩ | exact QY rfl ⟨rfl, rfl⟩ | exact QZ ⟨rfl, rfl⟩ | refine QX rfl rfl ?_ | refine QZ ?_)) | refine Qa rfl ?_ | (refine Qb rfl ?_; try (refine QS rfl rfl rfl rfl rfl rfl rfl ?_; (first | refine QX rfl rfl ?_ | refine QZ ?_))) | refine Qh ?_ | refine Qi rfl ?_ | refine Qj rfl ?_ | (refine Qf rfl rfl rfl ?_; refine QS rfl rfl rfl rfl rfl rfl rfl ?_; (first | refine QX rfl rfl ?_ | refine QZ ?_)) | apply Qg rfl rfl | refine Qk ?_ | refine Ql ?_ | refine Qm ?_ | refine Qn ?_ | refine Qo rfl ?_ | refine Qp rfl ?_ | refine Qq rfl ?_ | refine Qr ?_ | refine Qs ?_ | refine Qt ?_ | refine Qu ?_ | refine Qv ?_ | refine Qw (by kernel_rfl) ?_ | refine Qx rfl (by kernel_rfl) ?_)
        have hlen := fill_len hb2 (show k * 64 + 64 ≤ r1.new.length by omega) hj
        obtain ⟨y, hy⟩ : ∃ y, (fillN r1.new b k j)[k * 64 + j]? = some y := ⟨_, List.getElem?_eq_getElem (by omega)⟩
        refine st_store_pe rfl rfl rfl rfl (y := u8A y) (by rw [Nat.zero_add]; simp [hy]) rfl rfl rfl rfl rfl ?_
        first | refine nx rfl rfl ?_ | refine nx0 ?_
        repeat' (first | ((first | refine Qa rfl ?_ | refine Qc rfl rfl rfl ?_ | apply Qd rfl rfl rfl rfl | (apply Qe rfl rfl rfl rfl; intro H9)); (first | refine Q0 ?_ | refine Q1 ?_ | refine Q2 rfl ?_ | refine Q3 rfl rfl rfl ?_ | refine Q4 rfl rfl rfl rfl rfl ?_ | refine Q5 rfl ?_ | refine Q6 rfl ?_ | refine Q7 rfl rfl rfl ?_ | refine Q8 rfl rfl rfl ?_ | refine Q9 rfl rfl rfl rfl ?_ | refine QA rfl rfl (by decide) ?_ | refine QB rfl rfl (by decide) ?_ | refine QC rfl rfl ?_ | refine QD rfl ?_ | refine QE rfl rfl ?_ | refine QF rfl rfl ?_ | refine QG rfl rfl rfl rfl ?_ | refine QH rfl rfl rfl ?_ | refine QI rfl rfl rfl ?_ | refine QJ rfl rfl ?_ | refine QK rfl ?_ | refine QM rfl rfl rfl rfl rfl ?_ | refine QN ?_ | refine QO ?_ | refine QP rfl rfl rfl rfl rfl rfl ?_ | refine QQ rfl rfl rfl rfl rfl rfl rfl rfl rfl rfl rfl ?_ | refine QR rfl rfl rfl rfl rfl rfl rfl rfl rfl rfl rfl rfl ?_); (first | exact QX rfl rfl ⟨rfl, rfl⟩ | exact QY rfl ⟨rfl, rfl⟩ | exact QZ ⟨rfl, rfl⟩ | refine QX rfl rfl ?_ | refine QZ ?_)) | refine Qa rfl ?_ | (refine Qb rfl ?_; try (refine QS rfl rfl rfl rfl rfl rfl rfl ?_; (first | refine QX rfl rfl ?_ | refine QZ ?_))) | refine Qh ?_ | refine Qi rfl ?_ | refine Qj rfl ?_ | (refine Qf rfl rfl rfl ?_; refine QS rfl rfl rfl rfl rfl rfl rfl ?_; (first | refine QX rfl rfl ?_ | refine QZ ?_)) | apply Qg rfl rfl | refine Qk ?_ | refine Ql ?_ | refine Qm ?_ | refine Qn ?_ | refine Qo rfl ?_ | refine Qp rfl ?_ | refine Qq rfl ?_ | refine Qr ?_ | refine Qs ?_ | refine Qt ?_ | refine Qu ?_ | refine Qv ?_ | refine Qw (by kernel_rfl) ?_ | refine Qx rfl (by kernel_rfl) ?_)
        refine ⟨j + 1, by omega, by omega, imp_cutk 4 (Nat.le_refl _) (hok_rd _) ?_ (by simp) ?_⟩
        · rw [rdH_new (fill_len hb2 (by omega) (by omega)), ← fill_set hb2 (by omega) hj3 (pad_get hj3), List.map_set]
          simp only [Nat.zero_add]
          rfl
        repeat' (first | exact fa_nil | refine fa_cons ⟨?_, ?_⟩ ?_)
        all_goals (try first | exact rfl | exact trivial | (simp [IdsLt, IdsLtL]; done) | (simp [get_cons]; done) | (simp [get_cons, *]; done) | (refine congrArg (AV.int .i64) (wrap_eq ?_ ?_ ?_) <;> (first | omega | (simp; omega))))
      · have hj3 : j = 64 := by omega
        subst hj3
        repeat' (first | ((first | refine Qa rfl ?_ | refine Qc rfl rfl rfl ?_ | apply Qd rfl rfl rfl rfl | (apply Qe rfl rfl rfl rfl; intro H9)); (first | refine Q0 ?_ | refine Q1 ?_ | refine Q2 rfl ?_ | refine Q3 rfl rfl rfl ?_ | refine Q4 rfl rfl rfl rfl rfl ?_ | refine Q5 rfl ?_ | refine Q6 rfl ?_ | refine Q7 rfl rfl rfl ?_ | refine Q8 rfl rfl rfl ?_ | refine Q9 rfl rfl rfl rfl ?_ | refine QA rfl rfl (by decide) ?_ | refine QB rfl rfl (by decide) ?_ | refine QC rfl rfl ?_ | refine QD rfl ?_ | refine QE rfl rfl ?_ | refine QF rfl rfl ?_ | refine QG rfl rfl rfl rfl ?_ | refine QH rfl rfl rfl ?_ | refine QI rfl rfl rfl ?_ | refine QJ rfl rfl ?_ | refine QK rfl ?_ | refine QM rfl rfl rfl rfl rfl ?_ | refine QN ?_ | refine QO ?_ | refine QP rfl rfl rfl rfl rfl rfl ?_ | refine QQ rfl rfl rfl rfl rfl rfl rfl rfl rfl rfl rfl ?_ | refine QR rfl rfl rfl rfl rfl rfl rfl rfl rfl rfl rfl rfl ?_); (first | exact QX rfl rfl ⟨rfl, rfl⟩ | exact QY rfl ⟨rfl, rfl⟩ | exact QZ ⟨rfl, rfl⟩ | refine QX rfl rfl ?_ | refine QZ ?_)) | refine Qa rfl ?_ | (refine Qb rfl ?_; try (refine QS rfl rfl rfl rfl rfl rfl rfl ?_; (first | refine QX rfl rfl ?_ | refine QZ ?_))) | refine Qh ?_ | refine Qi rfl ?_ | refine Qj rfl ?_ | (refine Qf rfl rfl rfl ?_; refine QS rfl rfl rfl rfl rfl rfl rfl ?_; (first | refine QX rfl rfl ?_ | refine QZ ?_)) | apply Qg rfl rfl | refine Qk ?_ | refine Ql ?_ | refine Qm ?_ | refine Qn ?_ | refine Qo rfl ?_ | refine Qp rfl ?_ | refine Qq rfl ?_ | refine Qr ?_ | refine Qs ?_ | refine Qt ?_ | refine Qu ?_ | refine Qv ?_ | refine Qw (by kernel_rfl) ?_ | refine Qx rfl (by kernel_rfl) ?_)
        refine st_index_own (j := k) rfl rfl rfl rfl rfl rfl rfl rfl rfl hk1 ?_
        first | refine nx rfl rfl ?_ | refine nx0 ?_
        repeat' (first | ((first | refine Qa rfl ?_ | refine Qc rfl rfl rfl ?_ | apply Qd rfl rfl rfl rfl | (apply Qe rfl rfl rfl rfl; intro H9)); (first | refine Q0 ?_ | refine Q1 ?_ | refine Q2 rfl ?_ | refine Q3 rfl rfl rfl ?_ | refine Q4 rfl rfl rfl rfl rfl ?_ | refine Q5 rfl ?_ | refine Q6 rfl ?_ | refine Q7 rfl rfl rfl ?_ | refine Q8 rfl rfl rfl ?_ | refine Q9 rfl rfl rfl rfl ?_ | refine QA rfl rfl (by decide) ?_ | refine QB rfl rfl (by decide) ?_ | refine QC rfl rfl ?_ | refine QD rfl ?_ | refine QE rfl rfl ?_ | refine QF rfl rfl ?_ | refine QG rfl rfl rfl rfl ?_ | refine QH rfl rfl rfl ?_ | refine QI rfl rfl rfl ?_ | refine QJ rfl rfl ?_ | refine QK rfl ?_ | refine QM rfl rfl rfl rfl rfl ?_ | refine QN ?_ | refine QO ?_ | refine QP rfl rfl rfl rfl rfl rfl ?_ | refine QQ rfl rfl rfl rfl rfl rfl rfl rfl rfl rfl rfl ?_ | refine QR rfl rfl rfl rfl rfl rfl rfl rfl rfl rfl rfl rfl ?_); (first | exact QX rfl rfl ⟨rfl, rfl⟩ | exact QY rfl ⟨rfl, rfl⟩ | exact QZ ⟨rfl, rfl⟩ | refine QX rfl rfl ?_ | refine QZ ?_)) | refine Qa rfl ?_ | (refine Qb rfl ?_; try (refine QS rfl rfl rfl rfl rfl rfl rfl ?_; (first | refine QX rfl rfl ?_ | refine QZ ?_))) | refine Qh ?_ | refine Qi rfl ?_ | refine Qj rfl ?_ | (refine Qf rfl rfl rfl ?_; refine QS rfl rfl rfl rfl rfl rfl rfl ?_; (first | refine QX rfl rfl ?_ | refine QZ ?_)) | apply Qg rfl rfl | refine Qk ?_ | refine Ql ?_ | refine Qm ?_ | refine Qn ?_ | refine Qo rfl ?_ | refine Qp rfl ?_ | refine Qq rfl ?_ | refine Qr ?_ | refine Qs ?_ | refine Qt ?_ | refine Qu ?_ | refine Qv ?_ | refine Qw (by kernel_rfl) ?_ | refine Qx rfl (by kernel_rfl) ?_)
        obtain ⟨y, hy⟩ : ∃ y, r1.dirt[k]? = some y := ⟨_, List.getElem?_eq_getElem hk1⟩
        refine st_store_pe rfl rfl rfl rfl (y := boA y) (by rw [Nat.zero_add]; simp [hy]) rfl rfl rfl rfl rfl ?_
        first | refine nx rfl rfl ?_ | refine nx0 ?_
        repeat' (first | ((first | refine Qa rfl ?_ | refine Qc rfl rfl rfl ?_ | apply Qd rfl rfl rfl rfl | (apply Qe rfl rfl rfl rfl; intro H9)); (first | refine Q0 ?_ | refine Q1 ?_ | refine Q2 rfl ?_ | refine Q3 rfl rfl rfl ?_ | refine Q4 rfl rfl rfl rfl rfl ?_ | refine Q5 rfl ?_ | refine Q6 rfl ?_ | refine Q7 rfl rfl rfl ?_ | refine Q8 rfl rfl rfl ?_ | refine Q9 rfl rfl rfl rfl ?_ | refine QA rfl rfl (by decide) ?_ | refine QB rfl rfl (by decide) ?_ | refine QC rfl rfl ?_ | refine QD rfl ?_ | refine QE rfl rfl ?_ | refine QF rfl rfl ?_ | refine QG rfl rfl rfl rfl ?_ | refine QH rfl rfl rfl ?_ | refine QI rfl rfl rfl ?_ | refine QJ rfl rfl ?_ | refine QK rfl ?_ | refine QM rfl rfl rfl rfl rfl ?_ | refine QN ?_ | refine QO ?_ | refine QP rfl rfl rfl rfl rfl rfl ?_ | refine QQ rfl rfl rfl rfl rfl rfl rfl rfl rfl rfl rfl ?_ | refine QR rfl rfl rfl rfl rfl rfl rfl rfl rfl rfl rfl rfl ?_); (first | exact QX rfl rfl ⟨rfl, rfl⟩ | exact QY rfl ⟨rfl, rfl⟩ | exact QZ ⟨rfl, rfl⟩ | refine QX rfl rfl ?_ | refine QZ ?_)) | refine Qa rfl ?_ | (refine Qb rfl ?_; try (refine QS rfl rfl rfl rfl rfl rfl rfl ?_; (first | refine QX rfl rfl ?_ | refine QZ ?_))) | refine Qh ?_ | refine Qi rfl ?_ | refine Qj rfl ?_ | (refine Qf rfl rfl rfl ?_; refine QS rfl rfl rfl rfl rfl rfl rfl ?_; (first | refine QX rfl rfl ?_ | refine QZ ?_)) | apply Qg rfl rfl | refine Qk ?_ | refine Ql ?_ | refine Qm ?_ | refine Qn ?_ | refine Qo rfl ?_ | refine Qp rfl ?_ | refine Qq rfl ?_ | refine Qr ?_ | refine Qs ?_ | refine Qt ?_ | refine Qu ?_ | refine Qv ?_ | refine Qw (by kernel_rfl) ?_ | refine Qx rfl (by kernel_rfl) ?_)
        refine awp_ret ?_
        refine ⟨_, rfl, ?_, ?_⟩
        · rfl
        · show _ = rdH (r1.put k b)
          have e1 : rdH (r1.put k b) = rdH { r1 with new := fillN r1.new b k 64, dirt := r1.dirt.set k true, wrote := IntKind.i64.wrap (r1.wrote + 1) } := rfl
          rw [e1]
          simp only [rdH, List.map_set, Nat.zero_add, List.length_set, fill_len hb2 (show k * 64 + 64 ≤ r1.new.length by omega) (Nat.le_refl 64)]
          rfl
end Go.Abs
namespace Go.Abs
@[simp] theorem rnA_bo {g : Nat → Nat} {b : Bool} : rnA g (boA b) = boA b := rfl
def cntB (l : List Bool) : Nat := (l.filter id).length
theorem cnt_next {l : List Bool} {k : Nat} {x : Bool} (h : l[k]? = some x) : cntB (l.take (k + 1)) = cntB (l.take k) + (if x = true then 1 else 0) := by
  rw [List.take_add_one, h]
  cases x <;> simp [cntB]
theorem cnt_le (l : List Bool) : cntB l ≤ l.length := List.length_filter_le _ _
attribute [local irreducible] AStep aops AWp Nx awM
set_option maxHeartbeats 0 in
theorem rdirty_c (X : Nat → Prop) (r : Rd) (hl : r.dirt.length ≤ 1073741824) : ACalls (E0 X) 40 [.ptr 0 0] (rdH r) (fun v H' => v = .int .i64 (cntB r.dirt) ∧ H' = rdH r) := by
  refine acalls_of Proofs.Try.func40 rfl Proofs.Try.ntmps40 (by kernel_rfl) rfl ?_
  intro hH hargs
  clear hH hargs
  repeat' (first | ((first | refine Qa rfl ?_ | refine Qc rfl rfl rfl ?_ | apply Qd rfl rfl rfl rfl | (apply Qe rfl rfl rfl rfl; intro H9)); (first | refine Q0 ?_ | refine Q1 ?_ | refine Q2 rfl ?_ | refine Q3 rfl rfl rfl ?_ | refine Q4 rfl rfl rfl rfl rfl ?_ | refine Q5 rfl ?_ | refine Q6 rfl ?_ | refine Q7 rfl rfl rfl ?_ | refine Q8 rfl rfl rfl ?_ | refine Q9 rfl rfl rfl rfl ?_ | refine QA rfl rfl (by decide) ?_ | refine QB rfl rfl (by decide) ?_ | refine QC rfl rfl ?_ | refine QD rfl ?_ | refine QE rfl rfl ?_ | refine QF rfl rfl ?_ | refine QG rfl rfl rfl rfl ?_ | refine QH rfl rfl rfl ?_ | refine QI rfl rfl rfl ?_ | refine QJ rfl rfl ?_ | refine QK rfl ?_ | refine QM rfl rfl rfl rfl rfl ?_ | refine QN ?_ | refine QO ?_ | refine QP rfl rfl rfl rfl rfl rfl ?_ | refine QQ rfl rfl rfl rfl rfl rfl rfl rfl rfl rfl rfl ?_ | refine QR rfl rfl rfl rfl rfl rfl rfl rfl rfl rfl rfl rfl ?_); (first | exact QX rfl rfl ⟨rfl, rfl⟩ | exact QY rfl ⟨rfl, rfl⟩ | exact QZ ⟨rfl, rfl⟩ | refine QX rfl rfl ?_ | refine QZ ?_)) | refine Qa rfl ?_ | (refine Qb rfl ?_; try (refine QS rfl rfl rfl rfl rfl rfl rfl ?_; (first | refine QX rfl rfl ?_ | refine QZ ?_))) | refine Qh ?_ | refine Qi rfl ?_ | refine Qj rfl ?_ | (refine Qf rfl rfl rfl ?_; refine QS rfl rfl rfl rfl rfl rfl rfl ?_; (first | refine QX rfl rfl ?_ | refine QZ ?_)) | apply Qg rfl rfl | refine Qk ?_ | refine Ql ?_ | refine Qm ?_ | refine Qn ?_ | refine Qo rfl ?_ | refine Qp rfl ?_ | refine Qq rfl ?_ | refine Qr ?_ | refine Qs ?_ | refine Qt ?_ | refine Qu ?_ | refine Qv ?_ | refine Qw (by kernel_rfl) ?_ | refine Qx rfl (by kernel_rfl) ?_)
  refine awp_loop2 (fun j : Nat => ⟨[(3, .int .i64 (cntB (r.dirt.take j))), (9, .own 3 0 r.dirt.length), (10, .int .i64 r.dirt.length), (11, .int .i64 j)], rdH r⟩) (fun j => j ≤ r.dirt.length) (fun j => r.dirt.length - j) 0 (Nat.zero_le _) ?_ ?_
  · refine imp_cutk 4 (Nat.le_refl _) (hok_rd r) rfl (by simp) ?_
    repeat' (first | exact fa_nil | refine fa_cons ⟨?_, ?_⟩ ?_)
    all_goals (try first | exact rfl | exact trivial | (simp [IdsLt, IdsLtL]; done) | (simp [get_cons]; done) | (simp [get_cons, *]; done) | (refine congrArg (AV.int .i64) (wrap_eq ?_ ?_ ?_) <;> (first | omega | (simp; omega))))
  · rintro j hj
    repeat' (first | ((first | refine Qa rfl ?_ | refine Qc rfl rfl rfl ?_ | apply Qd rfl rfl rfl rfl | (apply Qe rfl rfl rfl rfl; intro H9)); (first | refine Q0 ?_ | refine Q1 ?_ | refine Q2 rfl ?_ | refine Q3 rfl rfl rfl ?_ | refine Q4 rfl rfl rfl rfl rfl ?_ | refine Q5 rfl ?_ | refine Q6 rfl ?_ | refine Q7 rfl rfl rfl ?_ | refine Q8 rfl rfl rfl ?_ | refine Q9 rfl rfl rfl rfl ?_ | refine QA rfl rfl (by decide) ?_ | refine QB rfl rfl (by decide) ?_ | refine QC rfl rfl ?_ | refine QD rfl ?_ | refine QE rfl rfl ?_ | refine QF rfl rfl ?_ | refine QG rfl rfl rfl rfl ?_ | refine QH rfl rfl rfl ?_ | refine QI rfl rfl rfl ?_ | refine QJ rfl rfl ?_ | refine QK rfl ?_ | refine QM rfl rfl rfl rfl rfl ?_ | refine QN ?_ | refine QO ?_ | refine QP rfl rfl rfl rfl rfl rfl ?_ | refine QQ rfl rfl rfl rfl rfl rfl rfl rfl rfl rfl rfl ?_ | refine QR rfl rfl rfl rfl rfl rfl rfl rfl rfl rfl rfl rfl ?_); (first | exact QX rfl rfl ⟨rfl, rfl⟩ | exact QY rfl ⟨rfl, rfl⟩ | exact QZ ⟨rfl, rfl⟩ | refine QX rfl rfl ?_ | refine QZ ?_)) | refine Qa rfl ?_ | (refine Qb rfl ?_; try (refine QS rfl rfl rfl rfl rfl rfl rfl ?_; (first | refine QX rfl rfl ?_ | refine QZ ?_))) | refine Qh ?_ | refine Qi rfl ?_ | refine Qj rfl ?_ | (refine Qf rfl rfl rfl ?_; refine QS rfl rfl rfl rfl rfl rfl rfl ?_; (first | refine QX rfl rfl ?_ | refine QZ ?_)) | apply Qg rfl rfl | refine Qk ?_ | refine Ql ?_ | refine Qm ?_ | refine Qn ?_ | refine Qo rfl ?_ | refine Qp rfl ?_ | refine Qq rfl ?_ | refine Qr ?_ | refine Qs ?_ | refine Qt ?_ | refine Qu ?_ | refine Qv ?_ | refine Qw (by kernel_rfl) ?_ | refine Qx rfl (by kernel_rfl) ?_)
    refine awp_cond_dec rfl (fun h3 => ?_) (fun h3 => ?_)
    · have hj3 : j < r.dirt.length := by omega
      obtain ⟨y, hy⟩ : ∃ y, r.dirt[j]? = some y := ⟨_, List.getElem?_eq_getElem hj3⟩
      have hn := cnt_next hy
      have hle := cnt_le (r.dirt.take j)
      rw [List.length_take] at hle
      repeat' (first | ((first | refine Qa rfl ?_ | refine Qc rfl rfl rfl ?_ | apply Qd rfl rfl rfl rfl | (apply Qe rfl rfl rfl rfl; intro H9)); (first | refine Q0 ?_ | refine Q1 ?_ | refine Q2 rfl ?_ | refine Q3 rfl rfl rfl ?_ | refine Q4 rfl rfl rfl rfl rfl ?_ | refine Q5 rfl ?_ | refine Q6 rfl ?_ | refine Q7 rfl rfl rfl ?_ | refine Q8 rfl rfl rfl ?_ | refine Q9 rfl rfl rfl rfl ?_ | refine QA rfl rfl (by decide) ?_ | refine QB rfl rfl (by decide) ?_ | refine QC rfl rfl ?_ | refine QD rfl ?_ | refine QE rfl rfl ?_ | refine QF rfl rfl ?_ | refine QG rfl rfl rfl rfl ?_ | refine QH rfl rfl rfl ?_ | refine QI rfl rfl rfl ?_ | refine QJ rfl rfl ?_ | refine QK rfl ?_ | refine QM rfl rfl rfl rfl rfl ?_ | refine QN ?_ | refine QO ?_ | refine QP rfl rfl rfl rfl rfl rfl ?_ | refine QQ rfl rfl rfl rfl rfl rfl rfl rfl rfl rfl rfl ?_ | refine QR rfl rfl rfl rfl rfl rfl rfl rfl rfl rfl rfl rfl ?_); (first | exact QX rfl rfl ⟨rfl, rfl⟩ | exact QY rfl ⟨rfl, rfl⟩ | exact QZ ⟨rfl, rfl⟩ | refine QX rfl rfl ?_ | refine QZ ?_)) | refine Qa rfl ?_ | (refine Qb rfl ?_; try (refine QS rfl rfl rfl rfl rfl rfl rfl ?_; (first | refine QX rfl rfl ?_ | refine QZ ?_))) | refine Qh ?_ | refine Qi rfl ?_ | refine Qj rfl ?_ | (refine Qf rfl rfl rfl ?_; refine QS rfl rfl rfl rfl rfl rfl rfl ?_; (first | refine QX rfl rfl ?_ | refine QZ ?_)) | apply Qg rfl rfl | refine Qk ?_ | refine Ql ?_ | refine Qm ?_ | refine Qn ?_ | refine Qo rfl ?_ | refine Qp rfl ?_ | refine Qq rfl ?_ | refine Qr ?_ | refine Qs ?_ | refine Qt ?_ | refine Qu ?_ | refine Qv ?_ | refine Qw (by kernel_rfl) ?_ | refine Qx rfl (by kernel_rfl) ?_)
      refine st_index_own (j := j) rfl rfl rfl rfl rfl rfl rfl rfl rfl hj3 ?_
      first | refine nx rfl rfl ?_ | refine nx0 ?_
      repeat' (first | ((first | refine Qa rfl ?_ | refine Qc rfl rfl rfl ?_ | apply Qd rfl rfl rfl rfl | (apply Qe rfl rfl rfl rfl; intro H9)); (first | refine Q0 ?_ | refine Q1 ?_ | refine Q2 rfl ?_ | refine Q3 rfl rfl rfl ?_ | refine Q4 rfl rfl rfl rfl rfl ?_ | refine Q5 rfl ?_ | refine Q6 rfl ?_ | refine Q7 rfl rfl rfl ?_ | refine Q8 rfl rfl rfl ?_ | refine Q9 rfl rfl rfl rfl ?_ | refine QA rfl rfl (by decide) ?_ | refine QB rfl rfl (by decide) ?_ | refine QC rfl rfl ?_ | refine QD rfl ?_ | refine QE rfl rfl ?_ | refine QF rfl rfl ?_ | refine QG rfl rfl rfl rfl ?_ | refine QH rfl rfl rfl ?_ | refine QI rfl rfl rfl ?_ | refine QJ rfl rfl ?_ | refine QK rfl ?_ | refine QM rfl rfl rfl rfl rfl ?_ | refine QN ?_ | refine QO ?_ | refine QP rfl rfl rfl rfl rfl rfl ?_ | refine QQ rfl rfl rfl rfl rfl rfl rfl rfl rfl rfl rfl ?_ | refine QR rfl rfl rfl rfl rfl rfl rfl rfl rfl rfl rfl rfl ?_); (first | exact QX rfl rfl ⟨rfl, rfl⟩ | exact QY rfl ⟨rfl, rfl⟩ | exact QZ ⟨rfl, rfl⟩ | refine QX rfl rfl ?_ | refine QZ ?_)) | refine Qa rfl ?_ | (refine Qb rfl ?_; try (refine QS rfl rfl rfl rfl rfl rfl rfl ?_; (first | refine QX rfl rfl ?_ | refine QZ ?_))) | refine Qh ?_ | refine Qi rfl ?_ | refine Qj rfl ?_ | (refine Qf rfl rfl rfl ?_; refine QS rfl rfl rfl rfl rfl rfl rfl ?_; (first | refine QX rfl rfl ?_ | refine QZ ?_)) | apply Qg rfl rfl | refine Qk ?_ | refine Ql ?_ | refine Qm ?_ | refine Qn ?_ | refine Qo rfl ?_ | refine Qp rfl ?_ | refine Qq rfl ?_ | refine Qr ?_ | refine Qs ?_ | refine Qt ?_ | refine Qu ?_ | refine Qv ?_ | refine Qw (by kernel_rfl) ?_ | refine Qx rfl (by kernel_rfl) ?_)
      refine st_load_pe rfl rfl (y := boA y) (by rw [Nat.zero_add]; simp [hy]) rfl rfl rfl ?_
      first | refine nx rfl rfl ?_ | refine nx0 ?_
      repeat' (first | ((first | refine Qa rfl ?_ | refine Qc rfl rfl rfl ?_ | apply Qd rfl rfl rfl rfl | (apply Qe rfl rfl rfl rfl; intro H9)); (first | refine Q0 ?_ | refine Q1 ?_ | refine Q2 rfl ?_ | refine Q3 rfl rfl rfl ?_ | refine Q4 rfl rfl rfl rfl rfl ?_ | refine Q5 rfl ?_ | refine Q6 rfl ?_ | refine Q7 rfl rfl rfl ?_ | refine Q8 rfl rfl rfl ?_ | refine Q9 rfl rfl rfl rfl ?_ | refine QA rfl rfl (by decide) ?_ | refine QB rfl rfl (by decide) ?_ | refine QC rfl rfl ?_ | refine QD rfl ?_ | refine QE rfl rfl ?_ | refine QF rfl rfl ?_ | refine QG rfl rfl rfl rfl ?_ | refine QH rfl rfl rfl ?_ | refine QI rfl rfl rfl ?_ | refine QJ rfl rfl ?_ | refine QK rfl ?_ | refine QM rfl rfl rfl rfl rfl ?_ | refine QN ?_ | refine QO ?_ | refine QP rfl rfl rfl rfl rfl rfl ?_ | refine QQ rfl rfl rfl rfl rfl rfl rfl rfl rfl rfl rfl ?_ | refine QR rfl rfl rfl rfl rfl rfl rfl rfl rfl rfl rfl rfl ?_); (first | exact QX rfl rfl ⟨rfl, rfl⟩ | exact QY rfl ⟨rfl, rfl⟩ | exact QZ ⟨rfl, rfl⟩ | refine QX rfl rfl ?_ | refine QZ ?_)) | refine Qa rfl ?_ | (refine Qb rfl ?_; try (refine QS rfl rfl rfl rfl rfl rfl rfl ?_; (first | refine QX rfl rfl ?_ | refine QZ ?_))) | refine Qh ?_ | refine Qi rfl ?_ | refine Qj rfl ?_ | (refine Qf rfl rfl rfl ?_; refine QS rfl rfl rfl rfl rfl rfl rfl ?_; (first | refine QX rfl rfl ?_ | refine QZ ?_)) | apply Qg rfl rfl | refine Qk ?_ | refine Ql ?_ | refine Qm ?_ | refine Qn ?_ | refine Qo rfl ?_ | refine Qp rfl ?_ | refine Qq rfl ?_ | refine Qr ?_ | refine Qs ?_ | refine Qt ?_ | refine Qu ?_ | refine Qv ?_ | refine Qw (by kernel_rfl) ?_ | refine Qx rfl (by kernel_rfl) ?_)
      refine awp_cond rfl (fun hb => ?_) (fun hb => ?_)
      · simp only [hb, if_true] at hn
        repeat' (first | ((first | refine Qa rfl ?_ | refine Qc rfl rfl rfl ?_ | apply Qd rfl rfl rfl rfl | (apply Qe rfl rfl rfl rfl; intro H9)); (first | refine Q0 ?_ | refine Q1 ?_ | refine Q2 rfl ?_ | refine Q3 rfl rfl rfl ?_ | refine Q4 rfl rfl rfl rfl rfl ?_ | refine Q5 rfl ?_ | refine Q6 rfl ?_ | refine Q7 rfl rfl rfl ?_ | refine Q8 rfl rfl rfl ?_ | refine Q9 rfl rfl rfl rfl ?_ | refine QA rfl rfl (by decide) ?_ | refine QB rfl rfl (by decide) ?_ | refine QC rfl rfl ?_ | refine QD rfl ?_ | refine QE rfl rfl ?_ | refine QF rfl rfl ?_ | refine QG rfl rfl rfl rfl ?_ | refine QH rfl rfl rfl ?_ | refine QI rfl rfl rfl ?_ | refine QJ rfl rfl ?_ | refine QK rfl ?_ | refine QM rfl rfl rfl rfl rfl ?_ | refine QN ?_ | refine QO ?_ | refine QP rfl rfl rfl rfl rfl rfl ?_ | refine QQ rfl rfl rfl rfl rfl rfl rfl rfl rfl rfl rfl ?_ | refine QR rfl rfl rfl rfl rfl rfl rfl rfl rfl rfl rfl rfl ?_); (first | exact QX rfl rfl ⟨rfl, rfl⟩ | exact QY rfl ⟨rfl, rfl⟩ | exact QZ ⟨rfl, rfl⟩ | refine QX rfl rfl ?_ | refine QZ ?_)) | refine Qa rfl ?_ | (refine Qb rfl ?_; try (refine QS rfl rfl rfl rfl rfl rfl rfl ?_; (first | refine QX rfl rfl ?_ | refine QZ ?_))) | refine Qh ?_ | refine Qi rfl ?_ | refine Qj rfl ?_ | (refine Qf rfl rfl rfl ?_; refine QS rfl rfl rfl rfl rfl rfl rfl ?_; (first | refine QX rfl rfl ?_ | refine QZ ?_)) | apply Qg rfl rfl | refine Qk ?_ | refine Ql ?_ | refine Qm ?_ | refine Qn ?_ | refine Qo rfl ?_ | refine Qp rfl ?_ | refine Qq rfl ?_ | refine Qr ?_ | refine Qs ?_ | refine Qt ?_ | refine Qu ?_ | refine Qv ?_ | refine Qw (by kernel_rfl) ?_ | refine Qx rfl (by kernel_rfl) ?_)
        refine ⟨j + 1, by omega, by omega, imp_cutk 4 (Nat.le_refl _) (hok_rd r) rfl (by simp) ?_⟩
        repeat' (first | exact fa_nil | refine fa_cons ⟨?_, ?_⟩ ?_)
        all_goals (try first | exact rfl | exact trivial | (simp [IdsLt, IdsLtL]; done) | (simp [get_cons]; done) | (simp [get_cons, *]; done) | (refine congrArg (AV.int .i64) (wrap_eq ?_ ?_ ?_) <;> (first | omega | (simp; omega))))
      · simp [hb] at hn
        repeat' (first | ((first | refine Qa rfl ?_ | refine Qc rfl rfl rfl ?_ | apply Qd rfl rfl rfl rfl | (apply Qe rfl rfl rfl rfl; intro H9)); (first | refine Q0 ?_ | refine Q1 ?_ | refine Q2 rfl ?_ | refine Q3 rfl rfl rfl ?_ | refine Q4 rfl rfl rfl rfl rfl ?_ | refine Q5 rfl ?_ | refine Q6 rfl ?_ | refine Q7 rfl rfl rfl ?_ | refine Q8 rfl rfl rfl ?_ | refine Q9 rfl rfl rfl rfl ?_ | refine QA rfl rfl (by decide) ?_ | refine QB rfl rfl (by decide) ?_ | refine QC rfl rfl ?_ | refine QD rfl ?_ | refine QE rfl rfl ?_ | refine QF rfl rfl ?_ | refine QG rfl rfl rfl rfl ?_ | refine QH rfl rfl rfl ?_ | refine QI rfl rfl rfl ?_ | refine QJ rfl rfl ?_ | refine QK rfl ?_ | refine QM rfl rfl rfl rfl rfl ?_ | refine QN ?_ | refine QO ?_ | refine QP rfl rfl rfl rfl rfl rfl ?_ | refine QQ rfl rfl rfl rfl rfl rfl rfl rfl rfl rfl rfl ?_ | refine QR rfl rfl rfl rfl rfl rfl rfl rfl rfl rfl rfl rfl ?_); (first | exact QX rfl rfl ⟨rfl, rfl⟩ | exact QY rfl ⟨rfl, rfl⟩ | exact QZ ⟨rfl, rfl⟩ | refine QX rfl rfl ?_ | refine QZ ?_)) | refine Qa rfl ?_ | (refine Qb rfl ?_; try (refine QS rfl rfl rfl rfl rfl rfl rfl ?_; (first | refine QX rfl rfl ?_ | refine QZ ?_))) | refine Qh ?_ | refine Qi rfl ?_ | refine Qj rfl ?_ | (refine Qf rfl rfl rfl ?_; refine QS rfl rfl rfl rfl rfl rfl rfl ?_; (first | refine QX rfl rfl ?_ | refine QZ ?_)) | apply Qg rfl rfl | refine Qk ?_ | refine Ql ?_ | refine Qm ?_ | refine Qn ?_ | refine Qo rfl ?_ | refine Qp rfl ?_ | refine Qq rfl ?_ | refine Qr ?_ | refine Qs ?_ | refine Qt ?_ | refine Qu ?_ | refine Qv ?_ | refine Qw (by kernel_rfl) ?_ | refine Qx rfl (by kernel_rfl) ?_)
        refine ⟨j + 1, by omega, by omega, imp_cutk 4 (Nat.le_refl _) (hok_rd r) rfl (by simp) ?_⟩
        repeat' (first | exact fa_nil | refine fa_cons ⟨?_, ?_⟩ ?_)
        all_goals (try first | exact rfl | exact trivial | (simp [IdsLt, IdsLtL]; done) | (simp [get_cons]; done) | (simp [get_cons, *]; done) | (refine congrArg (AV.int .i64) (wrap_eq ?_ ?_ ?_) <;> (first | omega | (simp; omega))))
    · have hj3 : j = r.dirt.length := by omega
      subst hj3
      repeat' (first | ((first | refine Qa rfl ?_ | refine Qc rfl rfl rfl ?_ | apply Qd rfl rfl rfl rfl | (apply Qe rfl rfl rfl rfl; intro H9)); (first | refine Q0 ?_ | refine Q1 ?_ | refine Q2 rfl ?_ | refine Q3 rfl rfl rfl ?_ | refine Q4 rfl rfl rfl rfl rfl ?_ | refine Q5 rfl ?_ | refine Q6 rfl ?_ | refine Q7 rfl rfl rfl ?_ | refine Q8 rfl rfl rfl ?_ | refine Q9 rfl rfl rfl rfl ?_ | refine QA rfl rfl (by decide) ?_ | refine QB rfl rfl (by decide) ?_ | refine QC rfl rfl ?_ | refine QD rfl ?_ | refine QE rfl rfl ?_ | refine QF rfl rfl ?_ | refine QG rfl rfl rfl rfl ?_ | refine QH rfl rfl rfl ?_ | refine QI rfl rfl rfl ?_ | refine QJ rfl rfl ?_ | refine QK rfl ?_ | refine QM rfl rfl rfl rfl rfl ?_ | refine QN ?_ | refine QO ?_ | refine QP rfl rfl rfl rfl rfl rfl ?_ | refine QQ rfl rfl rfl rfl rfl rfl rfl rfl rfl rfl rfl ?_ | refine QR rfl rfl rfl rfl rfl rfl rfl rfl rfl rfl rfl rfl ?_); (first | exact QX rfl rfl ⟨rfl, rfl⟩ | exact QY rfl ⟨rfl, rfl⟩ | exact QZ ⟨rfl, rfl⟩ | refine QX rfl rfl ?_ | refine QZ ?_)) | refine Qa rfl ?_ | (refine Qb rfl ?_; try (refine QS rfl rfl rfl rfl rfl rfl rfl ?_; (first | refine QX rfl rfl ?_ | refine QZ ?_))) | refine Qh ?_ | refine Qi rfl ?_ | refine Qj rfl ?_ | (refine Qf rfl rfl rfl ?_; refine QS rfl rfl rfl rfl rfl rfl rfl ?_; (first | refine QX rfl rfl ?_ | refine QZ ?_)) | apply Qg rfl rfl | refine Qk ?_ | refine Ql ?_ | refine Qm ?_ | refine Qn ?_ | refine Qo rfl ?_ | refine Qp rfl ?_ | refine Qq rfl ?_ | refine Qr ?_ | refine Qs ?_ | refine Qt ?_ | refine Qu ?_ | refine Qv ?_ | refine Qw (by kernel_rfl) ?_ | refine Qx rfl (by kernel_rfl) ?_)
      refine awp_ret ?_
      refine ⟨_, rfl, ?_, ?_⟩
      · rw [List.take_length]; rfl
      · rfl
def Rd.barrier (r : Rd) : Int × Rd :=
  if r.gone = true then (1, r) else if r.dies = true then (1, r.burn) else (0, { r.burn with old := r.burn.new, dirt := List.replicate r.burn.dirt.length false })
theorem clr_set {d : List Bool} {k : Nat} (hk : k < d.length) : (List.replicate k false ++ d.drop k).set k false = List.replicate (k + 1) false ++ d.drop (k + 1) := by
  rw [List.set_append_right _ _ (by simp), List.length_replicate, Nat.sub_self, List.drop_eq_getElem_cons hk, List.set_cons_zero, List.replicate_succ']
  simp
theorem spl_all {es src : List AV} (h : es.length = src.length) : spl es 0 (src.take (min es.length src.length)) = src := by
  rw [h, Nat.min_self, List.take_length]
  simp [spl, ← h]
set_option maxHeartbeats 0 in
theorem rbarrier_c (X : Nat → Prop) (r : Rd) (hl : r.dirt.length ≤ 1073741824) (ho : r.old.length = r.new.length) : ACalls (E0 X) 26 [.ptr 0 0] (rdH r) (fun v H' => v = .int .i64 r.barrier.1 ∧ H' = rdH r.barrier.2) := by
  refine acalls_of Proofs.Try.func26 rfl Proofs.Try.ntmps26 (by kernel_rfl) rfl ?_
  intro hH hargs
  clear hH hargs
  repeat' (first | ((first | refine Qa rfl ?_ | refine Qc rfl rfl rfl ?_ | apply Qd rfl rfl rfl rfl | (apply Qe rfl rfl rfl rfl; intro H9)); (first | refine Q0 ?_ | refine Q1 ?_ | refine Q2 rfl ?_ | refine Q3 rfl rfl rfl ?_ | refine Q4 rfl rfl rfl rfl rfl ?_ | refine Q5 rfl ?_ | refine Q6 rfl ?_ | refine Q7 rfl rfl rfl ?_ | refine Q8 rfl rfl rfl ?_ | refine Q9 rfl rfl rfl rfl ?_ | refine QA rfl rfl (by decide) ?_ | refine QB rfl rfl (by decide) ?_ | refine QC rfl rfl ?_ | refine QD rfl ?_ | refine QE rfl rfl ?_ | refine QF rfl rfl ?_ | refine QG rfl rfl rfl rfl ?_ | refine QH rfl rfl rfl ?_ | refine QI rfl rfl rfl ?_ | refine QJ rfl rfl ?_ | refine QK rfl ?_ | refine QM rfl rfl rfl rfl rfl ?_ | refine QN ?_ | refine QO ?_ | refine QP rfl rfl rfl rfl rfl rfl ?_ | refine QQ rfl rfl rfl rfl rfl rfl rfl rfl rfl rfl rfl ?_ | refine QR rfl rfl rfl rfl rfl rfl rfl rfl rfl rfl rfl rfl ?_); (first | exact QX rfl rfl ⟨rfl, rfl⟩ | exact QY rfl ⟨rfl, rfl⟩ | exact QZ ⟨rfl, rfl⟩ | refine QX rfl rfl ?_ | refine QZ ?_)) | refine Qa rfl ?_ | (refine Qb rfl ?_; try (refine QS rfl rfl rfl rfl rfl rfl rfl ?_; (first | refine QX rfl rfl ?_ | refine QZ ?_))) | refine Qh ?_ | refine Qi rfl ?_ | refine Qj rfl ?_ | (refine Qf rfl rfl rfl ?_; refine QS rfl rfl rfl rfl rfl rfl rfl ?_; (first | refine QX rfl rfl ?_ | refine QZ ?_)) | apply Qg rfl rfl | refine Qk ?_ | refine Ql ?_ | refine Qm ?_ | refine Qn ?_ | refine Qo rfl ?_ | refine Qp rfl ?_ | refine Qq rfl ?_ | refine Qr ?_ | refine Qs ?_ | refine Qt ?_ | refine Qu ?_ | refine Qv ?_ | refine Qw (by kernel_rfl) ?_ | refine Qx rfl (by kernel_rfl) ?_)
  refine awp_cond rfl (fun hg => ?_) (fun hg => ?_)
  · have e : r.barrier = (1, r) := by simp [Rd.barrier, hg]
    rw [e]
    repeat' (first | ((first | refine Qa rfl ?_ | refine Qc rfl rfl rfl ?_ | apply Qd rfl rfl rfl rfl | (apply Qe rfl rfl rfl rfl; intro H9)); (first | refine Q0 ?_ | refine Q1 ?_ | refine Q2 rfl ?_ | refine Q3 rfl rfl rfl ?_ | refine Q4 rfl rfl rfl rfl rfl ?_ | refine Q5 rfl ?_ | refine Q6 rfl ?_ | refine Q7 rfl rfl rfl ?_ | refine Q8 rfl rfl rfl ?_ | refine Q9 rfl rfl rfl rfl ?_ | refine QA rfl rfl (by decide) ?_ | refine QB rfl rfl (by decide) ?_ | refine QC rfl rfl ?_ | refine QD rfl ?_ | refine QE rfl rfl ?_ | refine QF rfl rfl ?_ | refine QG rfl rfl rfl rfl ?_ | refine QH rfl rfl rfl ?_ | refine QI rfl rfl rfl ?_ | refine QJ rfl rfl ?_ | refine QK rfl ?_ | refine QM rfl rfl rfl rfl rfl ?_ | refine QN ?_ | refine QO ?_ | refine QP rfl rfl rfl rfl rfl rfl ?_ | refine QQ rfl rfl rfl rfl rfl rfl rfl rfl rfl rfl rfl ?_ | refine QR rfl rfl rfl rfl rfl rfl rfl rfl rfl rfl rfl rfl ?_); (first | exact QX rfl rfl ⟨rfl, rfl⟩ | exact QY rfl ⟨rfl, rfl⟩ | exact QZ ⟨rfl, rfl⟩ | refine QX rfl rfl ?_ | refine QZ ?_)) | refine Qa rfl ?_ | (refine Qb rfl ?_; try (refine QS rfl rfl rfl rfl rfl rfl rfl ?_; (first | refine QX rfl rfl ?_ | refine QZ ?_))) | refine Qh ?_ | refine Qi rfl ?_ | refine Qj rfl ?_ | (refine Qf rfl rfl rfl ?_; refine QS rfl rfl rfl rfl rfl rfl rfl ?_; (first | refine QX rfl rfl ?_ | refine QZ ?_)) | apply Qg rfl rfl | refine Qk ?_ | refine Ql ?_ | refine Qm ?_ | refine Qn ?_ | refine Qo rfl ?_ | refine Qp rfl ?_ | refine Qq rfl ?_ | refine Qr ?_ | refine Qs ?_ | refine Qt ?_ | refine Qu ?_ | refine Qv ?_ | refine Qw (by kernel_rfl) ?_ | refine Qx rfl (by kernel_rfl) ?_)
    refine awp_ret ?_
    refine ⟨_, rfl, ?_, ?_⟩
    · rfl
    · rfl
  repeat' (first | ((first | refine Qa rfl ?_ | refine Qc rfl rfl rfl ?_ | apply Qd rfl rfl rfl rfl | (apply Qe rfl rfl rfl rfl; intro H9)); (first | refine Q0 ?_ | refine Q1 ?_ | refine Q2 rfl ?_ | refine Q3 rfl rfl rfl ?_ | refine Q4 rfl rfl rfl rfl rfl ?_ | refine Q5 rfl ?_ | refine Q6 rfl ?_ | refine Q7 rfl rfl rfl ?_ | refine Q8 rfl rfl rfl ?_ | refine Q9 rfl rfl rfl rfl ?_ | refine QA rfl rfl (by decide) ?_ | refine QB rfl rfl (by decide) ?_ | refine QC rfl rfl ?_ | refine QD rfl ?_ | refine QE rfl rfl ?_ | refine QF rfl rfl ?_ | refine QG rfl rfl rfl rfl ?_ | refine QH rfl rfl rfl ?_ | refine QI rfl rfl rfl ?_ | refine QJ rfl rfl ?_ | refine QK rfl ?_ | refine QM rfl rfl rfl rfl rfl ?_ | refine QN ?_ | refine QO ?_ | refine QP rfl rfl rfl rfl rfl rfl ?_ | refine QQ rfl rfl rfl rfl rfl rfl rfl rfl rfl rfl rfl ?_ | refine QR rfl rfl rfl rfl rfl rfl rfl rfl rfl rfl rfl rfl ?_); (first | exact QX rfl rfl ⟨rfl, rfl⟩ | exact QY rfl ⟨rfl, rfl⟩ | exact QZ ⟨rfl, rfl⟩ | refine QX rfl rfl ?_ | refine QZ ?_)) | refine Qa rfl ?_ | (refine Qb rfl ?_; try (refine QS rfl rfl rfl rfl rfl rfl rfl ?_; (first | refine QX rfl rfl ?_ | refine QZ ?_))) | refine Qh ?_ | refine Qi rfl ?_ | refine Qj rfl ?_ | (refine Qf rfl rfl rfl ?_; refine QS rfl rfl rfl rfl rfl rfl rfl ?_; (first | refine QX rfl rfl ?_ | refine QZ ?_)) | apply Qg rfl rfl | refine Qk ?_ | refine Ql ?_ | refine Qm ?_ | refine Qn ?_ | refine Qo rfl ?_ | refine Qp rfl ?_ | refine Qq rfl ?_ | refine Qr ?_ | refine Qs ?_ | refine Qt ?_ | refine Qu ?_ | refine Qv ?_ | refine Qw (by kernel_rfl) ?_ | refine Qx rfl (by kernel_rfl) ?_)
  refine st_call (fun _ => rfl) rfl ?_
  refine ACalls.mono (rburn_c X r) ?_
  rintro r H' ⟨rfl, rfl⟩
  first | refine nx rfl rfl ?_ | refine nx0 ?_
  repeat' (first | ((first | refine Qa rfl ?_ | refine Qc rfl rfl rfl ?_ | apply Qd rfl rfl rfl rfl | (apply Qe rfl rfl rfl rfl; intro H9)); (first | refine Q0 ?_ | refine Q1 ?_ | refine Q2 rfl ?_ | refine Q3 rfl rfl rfl ?_ | refine Q4 rfl rfl rfl rfl rfl ?_ | refine Q5 rfl ?_ | refine Q6 rfl ?_ | refine Q7 rfl rfl rfl ?_ | refine Q8 rfl rfl rfl ?_ | refine Q9 rfl rfl rfl rfl ?_ | refine QA rfl rfl (by decide) ?_ | refine QB rfl rfl (by decide) ?_ | refine QC rfl rfl ?_ | refine QD rfl ?_ | refine QE rfl rfl ?_ | refine QF rfl rfl ?_ | refine QG rfl rfl rfl rfl ?_ | refine QH rfl rfl rfl ?_ | refine QI rfl rfl rfl ?_ | refine QJ rfl rfl ?_ | refine QK rfl ?_ | refine QM rfl rfl rfl rfl rfl ?_ | refine QN ?_ | refine QO ?_ | refine QP rfl rfl rfl rfl rfl rfl ?_ | refine QQ rfl rfl rfl rfl rfl rfl rfl rfl rfl rfl rfl ?_ | refine QR rfl rfl rfl rfl rfl rfl rfl rfl rfl rfl rfl rfl ?_); (first | exact QX rfl rfl ⟨rfl, rfl⟩ | exact QY rfl ⟨rfl, rfl⟩ | exact QZ ⟨rfl, rfl⟩ | refine QX rfl rfl ?_ | refine QZ ?_)) | refine Qa rfl ?_ | (refine Qb rfl ?_; try (refine QS rfl rfl rfl rfl rfl rfl rfl ?_; (first | refine QX rfl rfl ?_ | refine QZ ?_))) | refine Qh ?_ | refine Qi rfl ?_ | refine Qj rfl ?_ | (refine Qf rfl rfl rfl ?_; refine QS rfl rfl rfl rfl rfl rfl rfl ?_; (first | refine QX rfl rfl ?_ | refine QZ ?_)) | apply Qg rfl rfl | refine Qk ?_ | refine Ql ?_ | refine Qm ?_ | refine Qn ?_ | refine Qo rfl ?_ | refine Qp rfl ?_ | refine Qq rfl ?_ | refine Qr ?_ | refine Qs ?_ | refine Qt ?_ | refine Qu ?_ | refine Qv ?_ | refine Qw (by kernel_rfl) ?_ | refine Qx rfl (by kernel_rfl) ?_)
  cases hdie : r.dies with
  | true =>
    have e : r.barrier = (1, r.burn) := by simp [Rd.barrier, hg, hdie]
    rw [e]
    repeat' (first | ((first | refine Qa rfl ?_ | refine Qc rfl rfl rfl ?_ | apply Qd rfl rfl rfl rfl | (apply Qe rfl rfl rfl rfl; intro H9)); (first | refine Q0 ?_ | refine Q1 ?_ | refine Q2 rfl ?_ | refine Q3 rfl rfl rfl ?_ | refine Q4 rfl rfl rfl rfl rfl ?_ | refine Q5 rfl ?_ | refine Q6 rfl ?_ | refine Q7 rfl rfl rfl ?_ | refine Q8 rfl rfl rfl ?_ | refine Q9 rfl rfl rfl rfl ?_ | refine QA rfl rfl (by decide) ?_ | refine QB rfl rfl (by decide) ?_ | refine QC rfl rfl ?_ | refine QD rfl ?_ | refine QE rfl rfl ?_ | refine QF rfl rfl ?_ | refine QG rfl rfl rfl rfl ?_ | refine QH rfl rfl rfl ?_ | refine QI rfl rfl rfl ?_ | refine QJ rfl rfl ?_ | refine QK rfl ?_ | refine QM rfl rfl rfl rfl rfl ?_ | refine QN ?_ | refine QO ?_ | refine QP rfl rfl rfl rfl rfl rfl ?_ | refine QQ rfl rfl rfl rfl rfl rfl rfl rfl rfl rfl rfl ?_ | refine QR rfl rfl rfl rfl rfl rfl rfl rfl rfl rfl rfl rfl ?_); (first | exact QX rfl rfl ⟨rfl, rfl⟩ | exact QY rfl ⟨rfl, rfl⟩ | exact QZ ⟨rfl, rfl⟩ | refine QX rfl rfl ?_ | refine QZ ?_)) | refine Qa rfl ?_ | (refine Qb rfl ?_; try (refine QS rfl rfl rfl rfl rfl rfl rfl ?_; (first | refine QX rfl rfl ?_ | refine QZ ?_))) | refine Qh ?_ | refine Qi rfl ?_ | refine Qj rfl ?_ | (refine Qf rfl rfl rfl ?_; refine QS rfl rfl rfl rfl rfl rfl rfl ?_; (first | refine QX rfl rfl ?_ | refine QZ ?_)) | apply Qg rfl rfl | refine Qk ?_ | refine Ql ?_ | refine Qm ?_ | refine Qn ?_ | refine Qo rfl ?_ | refine Qp rfl ?_ | refine Qq rfl ?_ | refine Qr ?_ | refine Qs ?_ | refine Qt ?_ | refine Qu ?_ | refine Qv ?_ | refine Qw (by kernel_rfl) ?_ | refine Qx rfl (by kernel_rfl) ?_)
    refine awp_ret ?_
    refine ⟨_, rfl, ?_, ?_⟩
    · rfl
    · rfl
  | false =>
    have e : r.barrier = (0, { r.burn with old := r.burn.new, dirt := List.replicate r.burn.dirt.length false }) := by simp [Rd.barrier, hg, hdie]
    rw [e]
    have ho1 : r.burn.old.length = r.burn.new.length := by unfold Rd.burn; rw [hdie]; exact ho
    have hl1 : r.burn.dirt.length ≤ 1073741824 := by unfold Rd.burn; rw [hdie]; exact hl
    generalize r.burn = r1 at *
    repeat' (first | ((first | refine Qa rfl ?_ | refine Qc rfl rfl rfl ?_ | apply Qd rfl rfl rfl rfl | (apply Qe rfl rfl rfl rfl; intro H9)); (first | refine Q0 ?_ | refine Q1 ?_ | refine Q2 rfl ?_ | refine Q3 rfl rfl rfl ?_ | refine Q4 rfl rfl rfl rfl rfl ?_ | refine Q5 rfl ?_ | refine Q6 rfl ?_ | refine Q7 rfl rfl rfl ?_ | refine Q8 rfl rfl rfl ?_ | refine Q9 rfl rfl rfl rfl ?_ | refine QA rfl rfl (by decide) ?_ | refine QB rfl rfl (by decide) ?_ | refine QC rfl rfl ?_ | refine QD rfl ?_ | refine QE rfl rfl ?_ | refine QF rfl rfl ?_ | refine QG rfl rfl rfl rfl ?_ | refine QH rfl rfl rfl ?_ | refine QI rfl rfl rfl ?_ | refine QJ rfl rfl ?_ | refine QK rfl ?_ | refine QM rfl rfl rfl rfl rfl ?_ | refine QN ?_ | refine QO ?_ | refine QP rfl rfl rfl rfl rfl rfl ?_ | refine QQ rfl rfl rfl rfl rfl rfl rfl rfl rfl rfl rfl ?_ | refine QR rfl rfl rfl rfl rfl rfl rfl rfl rfl rfl rfl rfl ?_); (first | exact QX rfl rfl ⟨rfl, rfl⟩ | exact QY rfl ⟨rfl, rfl⟩ | exact QZ ⟨rfl, rfl⟩ | refine QX rfl rfl ?_ | refine QZ ?_)) | refine Qa rfl ?_ | (refine Qb rfl ?_; try (refine QS rfl rfl rfl rfl rfl rfl rfl ?_; (first | refine QX rfl rfl ?_ | refine QZ ?_))) | refine Qh ?_ | refine Qi rfl ?_ | refine Qj rfl ?_ | (refine Qf rfl rfl rfl ?_; refine QS rfl rfl rfl rfl rfl rfl rfl ?_; (first | refine QX rfl rfl ?_ | refine QZ ?_)) | apply Qg rfl rfl | refine Qk ?_ | refine Ql ?_ | refine Qm ?_ | refine Qn ?_ | refine Qo rfl ?_ | refine Qp rfl ?_ | refine Qq rfl ?_ | refine Qr ?_ | refine Qs ?_ | refine Qt ?_ | refine Qu ?_ | refine Qv ?_ | refine Qw (by kernel_rfl) ?_ | refine Qx rfl (by kernel_rfl) ?_)
    refine ds_ef rfl rfl rfl ?_
    refine st_copy rfl rfl rfl rfl rfl rfl rfl rfl (by simp) (src_ownm rfl rfl rfl (by simp)) ?_ ?_
    · simp only [List.drop_zero, List.take_length]; exact oneEs_u8 _
    simp only [List.drop_zero, List.take_length]
    have e3 : spl (r1.old.map u8A) 0 ((r1.new.map u8A).take (min r1.old.length (r1.new.map u8A).length)) = r1.new.map u8A := by
      have := spl_all (es := r1.old.map u8A) (src := r1.new.map u8A) (by simpa using ho1)
      simpa using this
    rw [e3]
    first | refine nx rfl rfl ?_ | refine nx0 ?_
    repeat' (first | ((first | refine Qa rfl ?_ | refine Qc rfl rfl rfl ?_ | apply Qd rfl rfl rfl rfl | (apply Qe rfl rfl rfl rfl; intro H9)); (first | refine Q0 ?_ | refine Q1 ?_ | refine Q2 rfl ?_ | refine Q3 rfl rfl rfl ?_ | refine Q4 rfl rfl rfl rfl rfl ?_ | refine Q5 rfl ?_ | refine Q6 rfl ?_ | refine Q7 rfl rfl rfl ?_ | refine Q8 rfl rfl rfl ?_ | refine Q9 rfl rfl rfl rfl ?_ | refine QA rfl rfl (by decide) ?_ | refine QB rfl rfl (by decide) ?_ | refine QC rfl rfl ?_ | refine QD rfl ?_ | refine QE rfl rfl ?_ | refine QF rfl rfl ?_ | refine QG rfl rfl rfl rfl ?_ | refine QH rfl rfl rfl ?_ | refine QI rfl rfl rfl ?_ | refine QJ rfl rfl ?_ | refine QK rfl ?_ | refine QM rfl rfl rfl rfl rfl ?_ | refine QN ?_ | refine QO ?_ | refine QP rfl rfl rfl rfl rfl rfl ?_ | refine QQ rfl rfl rfl rfl rfl rfl rfl rfl rfl rfl rfl ?_ | refine QR rfl rfl rfl rfl rfl rfl rfl rfl rfl rfl rfl rfl ?_); (first | exact QX rfl rfl ⟨rfl, rfl⟩ | exact QY rfl ⟨rfl, rfl⟩ | exact QZ ⟨rfl, rfl⟩ | refine QX rfl rfl ?_ | refine QZ ?_)) | refine Qa rfl ?_ | (refine Qb rfl ?_; try (refine QS rfl rfl rfl rfl rfl rfl rfl ?_; (first | refine QX rfl rfl ?_ | refine QZ ?_))) | refine Qh ?_ | refine Qi rfl ?_ | refine Qj rfl ?_ | (refine Qf rfl rfl rfl ?_; refine QS rfl rfl rfl rfl rfl rfl rfl ?_; (first | refine QX rfl rfl ?_ | refine QZ ?_)) | apply Qg rfl rfl | refine Qk ?_ | refine Ql ?_ | refine Qm ?_ | refine Qn ?_ | refine Qo rfl ?_ | refine Qp rfl ?_ | refine Qq rfl ?_ | refine Qr ?_ | refine Qs ?_ | refine Qt ?_ | refine Qu ?_ | refine Qv ?_ | refine Qw (by kernel_rfl) ?_ | refine Qx rfl (by kernel_rfl) ?_)
    refine awp_loop2 (fun j : Nat => ⟨[(0, .ptr 0 0), (24, .int .i64 r1.dirt.length), (25, .int .i64 j)], rdH { r1 with old := r1.new, dirt := List.replicate j false ++ r1.dirt.drop j }⟩) (fun j => j ≤ r1.dirt.length) (fun j => r1.dirt.length - j) 0 (Nat.zero_le _) ?_ ?_
    · refine imp_cutk 4 (Nat.le_refl _) (hok_rd _) ?_ (by simp) ?_
      · simp only [rdH, ho1]; rfl
      repeat' (first | exact fa_nil | refine fa_cons ⟨?_, ?_⟩ ?_)
      all_goals (try first | exact rfl | exact trivial | (simp [IdsLt, IdsLtL]; done) | (simp [get_cons]; done) | (simp [get_cons, *]; done) | (refine congrArg (AV.int .i64) (wrap_eq ?_ ?_ ?_) <;> (first | omega | (simp; omega))))
    · rintro j hj
      have hlen : (List.replicate j false ++ r1.dirt.drop j).length = r1.dirt.length := by simp; omega
      repeat' (first | ((first | refine Qa rfl ?_ | refine Qc rfl rfl rfl ?_ | apply Qd rfl rfl rfl rfl | (apply Qe rfl rfl rfl rfl; intro H9)); (first | refine Q0 ?_ | refine Q1 ?_ | refine Q2 rfl ?_ | refine Q3 rfl rfl rfl ?_ | refine Q4 rfl rfl rfl rfl rfl ?_ | refine Q5 rfl ?_ | refine Q6 rfl ?_ | refine Q7 rfl rfl rfl ?_ | refine Q8 rfl rfl rfl ?_ | refine Q9 rfl rfl rfl rfl ?_ | refine QA rfl rfl (by decide) ?_ | refine QB rfl rfl (by decide) ?_ | refine QC rfl rfl ?_ | refine QD rfl ?_ | refine QE rfl rfl ?_ | refine QF rfl rfl ?_ | refine QG rfl rfl rfl rfl ?_ | refine QH rfl rfl rfl ?_ | refine QI rfl rfl rfl ?_ | refine QJ rfl rfl ?_ | refine QK rfl ?_ | refine QM rfl rfl rfl rfl rfl ?_ | refine QN ?_ | refine QO ?_ | refine QP rfl rfl rfl rfl rfl rfl ?_ | refine QQ rfl rfl rfl rfl rfl rfl rfl rfl rfl rfl rfl ?_ | refine QR rfl rfl rfl rfl rfl rfl rfl rfl rfl rfl rfl rfl ?_); (first | exact QX rfl rfl ⟨rfl, rfl⟩ | exact QY rfl ⟨rfl, rfl⟩ | exact QZ ⟨rfl, rfl⟩ | refine QX rfl rfl ?_ | refine QZ ?_)) | refine Qa rfl ?_ | (refine Qb rfl ?_; try (refine QS rfl rfl rfl rfl rfl rfl rfl ?_; (first | refine QX rfl rfl ?_ | refine QZ ?_))) | refine Qh ?_ | refine Qi rfl ?_ | refine Qj rfl ?_ | (refine Qf rfl rfl rfl ?_; refine QS rfl rfl rfl rfl rfl rfl rfl ?_; (first | refine QX rfl rfl ?_ | refine QZ ?_)) | apply Qg rfl rfl | refine Qk ?_ | refine Ql ?_ | refine Qm ?_ | refine Qn ?_ | refine Qo rfl ?_ | refine Qp rfl ?_ | refine Qq rfl ?_ | refine Qr ?_ | refine Qs ?_ | refine Qt ?_ | refine Qu ?_ | refine Qv ?_ | refine Qw (by kernel_rfl) ?_ | refine Qx rfl (by kernel_rfl) ?_)
      refine awp_cond_dec rfl (fun h3 => ?_) (fun h3 => ?_)
      · have hj3 : j < r1.dirt.length := by omega
        repeat' (first | ((first | refine Qa rfl ?_ | refine Qc rfl rfl rfl ?_ | apply Qd rfl rfl rfl rfl | (apply Qe rfl rfl rfl rfl; intro H9)); (first | refine Q0 ?_ | refine Q1 ?_ | refine Q2 rfl ?_ | refine Q3 rfl rfl rfl ?_ | refine Q4 rfl rfl rfl rfl rfl ?_ | refine Q5 rfl ?_ | refine Q6 rfl ?_ | refine Q7 rfl rfl rfl ?_ | refine Q8 rfl rfl rfl ?_ | refine Q9 rfl rfl rfl rfl ?_ | refine QA rfl rfl (by decide) ?_ | refine QB rfl rfl (by decide) ?_ | refine QC rfl rfl ?_ | refine QD rfl ?_ | refine QE rfl rfl ?_ | refine QF rfl rfl ?_ | refine QG rfl rfl rfl rfl ?_ | refine QH rfl rfl rfl ?_ | refine QI rfl rfl rfl ?_ | refine QJ rfl rfl ?_ | refine QK rfl ?_ | refine QM rfl rfl rfl rfl rfl ?_ | refine QN ?_ | refine QO ?_ | refine QP rfl rfl rfl rfl rfl rfl ?_ | refine QQ rfl rfl rfl rfl rfl rfl rfl rfl rfl rfl rfl ?_ | refine QR rfl rfl rfl rfl rfl rfl rfl rfl rfl rfl rfl rfl ?_); (first | exact QX rfl rfl ⟨rfl, rfl⟩ | exact QY rfl ⟨rfl, rfl⟩ | exact QZ ⟨rfl, rfl⟩ | refine QX rfl rfl ?_ | refine QZ ?_)) | refine Qa rfl ?_ | (refine Qb rfl ?_; try (refine QS rfl rfl rfl rfl rfl rfl rfl ?_; (first | refine QX rfl rfl ?_ | refine QZ ?_))) | refine Qh ?_ | refine Qi rfl ?_ | refine Qj rfl ?_ | (refine Qf rfl rfl rfl ?_; refine QS rfl rfl rfl rfl rfl rfl rfl ?_; (first | refine QX rfl rfl ?_ | refine QZ ?_)) | apply Qg rfl rfl | refine Qk ?_ | refine Ql ?_ | refine Qm ?_ | refine Qn ?_ | refine Qo rfl ?_ | refine Qp rfl ?_ | refine Qq rfl ?_ | refine Qr ?_ | refine Qs ?_ | refine Qt ?_ | refine Qu ?_ | refine Qv ?_ | refine Qw (by kernel_rfl) ?_ | refine Qx rfl (by kernel_rfl) ?_)
        refine st_index_own (j := j) rfl rfl rfl rfl rfl rfl rfl rfl rfl (by show j < _; rw [hlen]; exact hj3) ?_
        first | refine nx rfl rfl ?_ | refine nx0 ?_
        repeat' (first | ((first | refine Qa rfl ?_ | refine Qc rfl rfl rfl ?_ | apply Qd rfl rfl rfl rfl | (apply Qe rfl rfl rfl rfl; intro H9)); (first | refine Q0 ?_ | refine Q1 ?_ | refine Q2 rfl ?_ | refine Q3 rfl rfl rfl ?_ | refine Q4 rfl rfl rfl rfl rfl ?_ | refine Q5 rfl ?_ | refine Q6 rfl ?_ | refine Q7 rfl rfl rfl ?_ | refine Q8 rfl rfl rfl ?_ | refine Q9 rfl rfl rfl rfl ?_ | refine QA rfl rfl (by decide) ?_ | refine QB rfl rfl (by decide) ?_ | refine QC rfl rfl ?_ | refine QD rfl ?_ | refine QE rfl rfl ?_ | refine QF rfl rfl ?_ | refine QG rfl rfl rfl rfl ?_ | refine QH rfl rfl rfl ?_ | refine QI rfl rfl rfl ?_ | refine QJ rfl rfl ?_ | refine QK rfl ?_ | refine QM rfl rfl rfl rfl rfl ?_ | refine QN ?_ | refine QO ?_ | refine QP rfl rfl rfl rfl rfl rfl ?_ | refine QQ rfl rfl rfl rfl rfl rfl rfl rfl rfl rfl rfl ?_ | refine QR rfl rfl rfl rfl rfl rfl rfl rfl rfl rfl rfl rfl ?_); (first | exact QX rfl rfl ⟨rfl, rfl⟩ | exact QY rfl ⟨rfl, rfl⟩ | exact QZ ⟨rfl, rfl⟩ | refine QX rfl rfl ?_ | refine QZ ?_)) | refine Qa rfl ?_ | (refine Qb rfl ?_; try (refine QS rfl rfl rfl rfl rfl rfl rfl ?_; (first | refine QX rfl rfl ?_ | refine QZ ?_))) | refine Qh ?_ | refine Qi rfl ?_ | refine Qj rfl ?_ | (refine Qf rfl rfl rfl ?_; refine QS rfl rfl rfl rfl rfl rfl rfl ?_; (first | refine QX rfl rfl ?_ | refine QZ ?_)) | apply Qg rfl rfl | refine Qk ?_ | refine Ql ?_ | refine Qm ?_ | refine Qn ?_ | refine Qo rfl ?_ | refine Qp rfl ?_ | refine Qq rfl ?_ | refine Qr ?_ | refine Qs ?_ | refine Qt ?_ | refine Qu ?_ | refine Qv ?_ | refine Qw (by kernel_rfl) ?_ | refine Qx rfl (by kernel_rfl) ?_)
        obtain ⟨y, hy⟩ : ∃ y, (List.replicate j false ++ r1.dirt.drop j)[j]? = some y := ⟨_, List.getElem?_eq_getElem (by omega)⟩
        refine st_store_pe rfl rfl rfl rfl (y := boA y) (by rw [Nat.zero_add]; simp only [List.getElem?_map, hy]; rfl) rfl rfl rfl rfl rfl ?_
        first | refine nx rfl rfl ?_ | refine nx0 ?_
        repeat' (first | ((first | refine Qa rfl ?_ | refine Qc rfl rfl rfl ?_ | apply Qd rfl rfl rfl rfl | (apply Qe rfl rfl rfl rfl; intro H9)); (first | refine Q0 ?_ | refine Q1 ?_ | refine Q2 rfl ?_ | refine Q3 rfl rfl rfl ?_ | refine Q4 rfl rfl rfl rfl rfl ?_ | refine Q5 rfl ?_ | refine Q6 rfl ?_ | refine Q7 rfl rfl rfl ?_ | refine Q8 rfl rfl rfl ?_ | refine Q9 rfl rfl rfl rfl ?_ | refine QA rfl rfl (by decide) ?_ | refine QB rfl rfl (by decide) ?_ | refine QC rfl rfl ?_ | refine QD rfl ?_ | refine QE rfl rfl ?_ | refine QF rfl rfl ?_ | refine QG rfl rfl rfl rfl ?_ | refine QH rfl rfl rfl ?_ | refine QI rfl rfl rfl ?_ | refine QJ rfl rfl ?_ | refine QK rfl ?_ | refine QM rfl rfl rfl rfl rfl ?_ | refine QN ?_ | refine QO ?_ | refine QP rfl rfl rfl rfl rfl rfl ?_ | refine QQ rfl rfl rfl rfl rfl rfl rfl rfl rfl rfl rfl ?_ | refine QR rfl rfl rfl rfl rfl rfl rfl rfl rfl rfl rfl rfl ?_); (first | exact QX rfl rfl ⟨rfl, rfl⟩ | exact QY rfl ⟨rfl, rfl⟩ | exact QZ ⟨rfl, rfl⟩ | refine QX rfl rfl ?_ | refine QZ ?_)) | refine Qa rfl ?_ | (refine Qb rfl ?_; try (refine QS rfl rfl rfl rfl rfl rfl rfl ?_; (first | refine QX rfl rfl ?_ | refine QZ ?_))) | refine Qh ?_ | refine Qi rfl ?_ | refine Qj rfl ?_ | (refine Qf rfl rfl rfl ?_; refine QS rfl rfl rfl rfl rfl rfl rfl ?_; (first | refine QX rfl rfl ?_ | refine QZ ?_)) | apply Qg rfl rfl | refine Qk ?_ | refine Ql ?_ | refine Qm ?_ | refine Qn ?_ | refine Qo rfl ?_ | refine Qp rfl ?_ | refine Qq rfl ?_ | refine Qr ?_ | refine Qs ?_ | refine Qt ?_ | refine Qu ?_ | refine Qv ?_ | refine Qw (by kernel_rfl) ?_ | refine Qx rfl (by kernel_rfl) ?_)
        refine ⟨j + 1, by omega, by omega, imp_cutk 4 (Nat.le_refl _) (hok_rd _) ?_ (by simp) ?_⟩
        · have e4 : List.map boA (List.replicate (j + 1) false ++ List.drop (j + 1) r1.dirt) = (List.map boA (List.replicate j false ++ List.drop j r1.dirt)).set j (boA false) := by
            rw [← clr_set hj3, List.map_set]
          have e5 : (List.replicate (j + 1) false ++ List.drop (j + 1) r1.dirt).length = (List.replicate j false ++ r1.dirt.drop j).length := by simp; omega
          simp only [rdH, e4, e5, Nat.zero_add]
          rfl
        repeat' (first | exact fa_nil | refine fa_cons ⟨?_, ?_⟩ ?_)
        all_goals (try first | exact rfl | exact trivial | (simp [IdsLt, IdsLtL]; done) | (simp [get_cons]; done) | (simp [get_cons, *]; done) | (refine congrArg (AV.int .i64) (wrap_eq ?_ ?_ ?_) <;> (first | omega | (simp; omega))))
      · have hj3 : j = r1.dirt.length := by omega
        subst hj3
        repeat' (first | ((first | refine Qa rfl ?_ | refine Qc rfl rfl rfl ?_ | apply Qd rfl rfl rfl rfl | (apply Qe rfl rfl rfl rfl; intro H9)); (first | refine Q0 ?_ | refine Q1 ?_ | refine Q2 rfl ?_ | refine Q3 rfl rfl rfl ?_ | refine Q4 rfl rfl rfl rfl rfl ?_ | refine Q5 rfl ?_ | refine Q6 rfl ?_ | refine Q7 rfl rfl rfl ?_ | refine Q8 rfl rfl rfl ?_ | refine Q9 rfl rfl rfl rfl ?_ | refine QA rfl rfl (by decide) ?_ | refine QB rfl rfl (by decide) ?_ | refine QC rfl rfl ?_ | refine QD rfl ?_ | refine QE rfl rfl ?_ | refine QF rfl rfl ?_ | refine QG rfl rfl rfl rfl ?_ | refine QH rfl rfl rfl ?_ | refine QI rfl rfl rfl ?_ | refine QJ rfl rfl ?_ | refine QK rfl ?_ | refine QM rfl rfl rfl rfl rfl ?_ | refine QN ?_ | refine QO ?_ | refine QP rfl rfl rfl rfl rfl rfl ?_ | refine QQ rfl rfl rfl rfl rfl rfl rfl rfl rfl rfl rfl ?_ | refine QR rfl rfl rfl rfl rfl rfl rfl rfl rfl rfl rfl rfl ?_); (first | exact QX rfl rfl ⟨rfl, rfl⟩ | exact QY rfl ⟨rfl, rfl⟩ | exact QZ ⟨rfl, rfl⟩ | refine QX rfl rfl ?_ | refine QZ ?_)) | refine Qa rfl ?_ | (refine Qb rfl ?_; try (refine QS rfl rfl rfl rfl rfl rfl rfl ?_; (first | refine QX rfl rfl ?_ | refine QZ ?_))) | refine Qh ?_ | refine Qi rfl ?_ | refine Qj rfl ?_ | (refine Qf rfl rfl rfl ?_; refine QS rfl rfl rfl rfl rfl rfl rfl ?_; (first | refine QX rfl rfl ?_ | refine QZ ?_)) | apply Qg rfl rfl | refine Qk ?_ | refine Ql ?_ | refine Qm ?_ | refine Qn ?_ | refine Qo rfl ?_ | refine Qp rfl ?_ | refine Qq rfl ?_ | refine Qr ?_ | refine Qs ?_ | refine Qt ?_ | refine Qu ?_ | refine Qv ?_ | refine Qw (by kernel_rfl) ?_ | refine Qx rfl (by kernel_rfl) ?_)
        refine awp_ret ?_
        refine ⟨_, rfl, ?_, ?_⟩
        · rfl
        · simp only [List.drop_length, List.append_nil]; rfl
set_option maxHeartbeats 0 in
theorem rread_c (X : Nat → Prop) (r : Rd) (i : Int) (hd : r.dirt.length * 64 = r.new.length) (hl : r.new.length ≤ 1073741824) :
    ACalls (E0 X) 25 [.ptr 0 0, .int .i64 i] (rdH r) (fun v H' => (r.check i ≠ 0 ∧ v = .tup [.nils, .int .i64 (r.check i)] ∧ H' = rdH r) ∨
      (r.check i = 0 ∧ v = .tup [.own 4 0 64, .int .i64 0] ∧ H' = rdH r ++ [some (.arr (((r.new.drop (i.toNat * 64)).take 64).map u8A) 5)])) := by
  refine acalls_of Proofs.Try.func25 rfl Proofs.Try.ntmps25 (by kernel_rfl) rfl ?_
  intro hH hargs
  clear hH hargs
  repeat' (first | ((first | refine Qa rfl ?_ | refine Qc rfl rfl rfl ?_ | apply Qd rfl rfl rfl rfl | (apply Qe rfl rfl rfl rfl; intro H9)); (first | refine Q0 ?_ | refine Q1 ?_ | refine Q2 rfl ?_ | refine Q3 rfl rfl rfl ?_ | refine Q4 rfl rfl rfl rfl rfl ?_ | refine Q5 rfl ?_ | refine Q6 rfl ?_ | refine Q7 rfl rfl rfl ?_ | refine Q8 rfl rfl rfl ?_ | refine Q9 rfl rfl rfl rfl ?_ | refine QA rfl rfl (by decide) ?_ | refine QB rfl rfl (by decide) ?_ | refine QC rfl rfl ?_ | refine QD rfl ?_ | refine QE rfl rfl ?_ | refine QF rfl rfl ?_ | refine QG rfl rfl rfl rfl ?_ | refine QH rfl rfl rfl ?_ | refine QI rfl rfl rfl ?_ | refine QJ rfl rfl ?_ | refine QK rfl ?_ | refine QM rfl rfl rfl rfl rfl ?_ | refine QN ?_ | refine QO ?_ | refine QP rfl rfl rfl rfl rfl rfl ?_ | refine QQ rfl rfl rfl rfl rfl rfl rfl rfl rfl rfl rfl ?_ | refine QR rfl rfl rfl rfl rfl rfl rfl rfl rfl rfl rfl rfl ?_); (first | exact QX rfl rfl ⟨rfl, rfl⟩ | exact QY rfl ⟨rfl, rfl⟩ | exact QZ ⟨rfl, rfl⟩ | refine QX rfl rfl ?_ | refine QZ ?_)) | refine Qa rfl ?_ | (refine Qb rfl ?_; try (refine QS rfl rfl rfl rfl rfl rfl rfl ?_; (first | refine QX rfl rfl ?_ | refine QZ ?_))) | refine Qh ?_ | refine Qi rfl ?_ | refine Qj rfl ?_ | (refine Qf rfl rfl rfl ?_; refine QS rfl rfl rfl rfl rfl rfl rfl ?_; (first | refine QX rfl rfl ?_ | refine QZ ?_)) | apply Qg rfl rfl | refine Qk ?_ | refine Ql ?_ | refine Qm ?_ | refine Qn ?_ | refine Qo rfl ?_ | refine Qp rfl ?_ | refine Qq rfl ?_ | refine Qr ?_ | refine Qs ?_ | refine Qt ?_ | refine Qu ?_ | refine Qv ?_ | refine Qw (by kernel_rfl) ?_ | refine Qx rfl (by kernel_rfl) ?_)
  refine awp_cond rfl (fun hg => ?_) (fun hg => ?_)
  · have e : r.check i = 1 := by simp [Rd.check, hg]
    rw [e]
    repeat' (first | ((first | refine Qa rfl ?_ | refine Qc rfl rfl rfl ?_ | apply Qd rfl rfl rfl rfl | (apply Qe rfl rfl rfl rfl; intro H9)); (first | refine Q0 ?_ | refine Q1 ?_ | refine Q2 rfl ?_ | refine Q3 rfl rfl rfl ?_ | refine Q4 rfl rfl rfl rfl rfl ?_ | refine Q5 rfl ?_ | refine Q6 rfl ?_ | refine Q7 rfl rfl rfl ?_ | refine Q8 rfl rfl rfl ?_ | refine Q9 rfl rfl rfl rfl ?_ | refine QA rfl rfl (by decide) ?_ | refine QB rfl rfl (by decide) ?_ | refine QC rfl rfl ?_ | refine QD rfl ?_ | refine QE rfl rfl ?_ | refine QF rfl rfl ?_ | refine QG rfl rfl rfl rfl ?_ | refine QH rfl rfl rfl ?_ | refine QI rfl rfl rfl ?_ | refine QJ rfl rfl ?_ | refine QK rfl ?_ | refine QM rfl rfl rfl rfl rfl ?_ | refine QN ?_ | refine QO ?_ | refine QP rfl rfl rfl rfl rfl rfl ?_ | refine QQ rfl rfl rfl rfl rfl rfl rfl rfl rfl rfl rfl ?_ | refine QR rfl rfl rfl rfl rfl rfl rfl rfl rfl rfl rfl rfl ?_); (first | exact QX rfl rfl ⟨rfl, rfl⟩ | exact QY rfl ⟨rfl, rfl⟩ | exact QZ ⟨rfl, rfl⟩ | refine QX rfl rfl ?_ | refine QZ ?_)) | refine Qa rfl ?_ | (refine Qb rfl ?_; try (refine QS rfl rfl rfl rfl rfl rfl rfl ?_; (first | refine QX rfl rfl ?_ | refine QZ ?_))) | refine Qh ?_ | refine Qi rfl ?_ | refine Qj rfl ?_ | (refine Qf rfl rfl rfl ?_; refine QS rfl rfl rfl rfl rfl rfl rfl ?_; (first | refine QX rfl rfl ?_ | refine QZ ?_)) | apply Qg rfl rfl | refine Qk ?_ | refine Ql ?_ | refine Qm ?_ | refine Qn ?_ | refine Qo rfl ?_ | refine Qp rfl ?_ | refine Qq rfl ?_ | refine Qr ?_ | refine Qs ?_ | refine Qt ?_ | refine Qu ?_ | refine Qv ?_ | refine Qw (by kernel_rfl) ?_ | refine Qx rfl (by kernel_rfl) ?_)
    refine awp_ret ?_
    exact ⟨_, rfl, .inl ⟨by omega, rfl, rfl⟩⟩
  refine awp_join (s1 := ⟨[(0, .ptr 0 0), (1, .int .i64 i), (11, .bool (decide (i < 0 ∨ (r.dirt.length : Int) ≤ i)))], rdH r⟩) ?_ ?_
  · skip
    repeat' (first | ((first | refine Qa rfl ?_ | refine Qc rfl rfl rfl ?_ | apply Qd rfl rfl rfl rfl | (apply Qe rfl rfl rfl rfl; intro H9)); (first | refine Q0 ?_ | refine Q1 ?_ | refine Q2 rfl ?_ | refine Q3 rfl rfl rfl ?_ | refine Q4 rfl rfl rfl rfl rfl ?_ | refine Q5 rfl ?_ | refine Q6 rfl ?_ | refine Q7 rfl rfl rfl ?_ | refine Q8 rfl rfl rfl ?_ | refine Q9 rfl rfl rfl rfl ?_ | refine QA rfl rfl (by decide) ?_ | refine QB rfl rfl (by decide) ?_ | refine QC rfl rfl ?_ | refine QD rfl ?_ | refine QE rfl rfl ?_ | refine QF rfl rfl ?_ | refine QG rfl rfl rfl rfl ?_ | refine QH rfl rfl rfl ?_ | refine QI rfl rfl rfl ?_ | refine QJ rfl rfl ?_ | refine QK rfl ?_ | refine QM rfl rfl rfl rfl rfl ?_ | refine QN ?_ | refine QO ?_ | refine QP rfl rfl rfl rfl rfl rfl ?_ | refine QQ rfl rfl rfl rfl rfl rfl rfl rfl rfl rfl rfl ?_ | refine QR rfl rfl rfl rfl rfl rfl rfl rfl rfl rfl rfl rfl ?_); (first | exact QX rfl rfl ⟨rfl, rfl⟩ | exact QY rfl ⟨rfl, rfl⟩ | exact QZ ⟨rfl, rfl⟩ | refine QX rfl rfl ?_ | refine QZ ?_)) | refine Qa rfl ?_ | (refine Qb rfl ?_; try (refine QS rfl rfl rfl rfl rfl rfl rfl ?_; (first | refine QX rfl rfl ?_ | refine QZ ?_))) | refine Qh ?_ | refine Qi rfl ?_ | refine Qj rfl ?_ | (refine Qf rfl rfl rfl ?_; refine QS rfl rfl rfl rfl rfl rfl rfl ?_; (first | refine QX rfl rfl ?_ | refine QZ ?_)) | apply Qg rfl rfl | refine Qk ?_ | refine Ql ?_ | refine Qm ?_ | refine Qn ?_ | refine Qo rfl ?_ | refine Qp rfl ?_ | refine Qq rfl ?_ | refine Qr ?_ | refine Qs ?_ | refine Qt ?_ | refine Qu ?_ | refine Qv ?_ | refine Qw (by kernel_rfl) ?_ | refine Qx rfl (by kernel_rfl) ?_ | ((fail_if_success refine QV rfl ?_); first | refine Qy rfl rfl (fun _ => ?_) (fun _ => ?_) | refine Qz rfl rfl (fun _ => ?_) (fun _ => ?_)) | ((fail_if_success refine QW rfl rfl ?_); first | refine QT rfl rfl rfl (fun _ => ?_) (fun _ => ?_) | refine QU rfl rfl rfl (fun _ => ?_) (fun _ => ?_)))
    · rename_i h1
      refine ⟨rfl, imp_cutk 4 (Nat.le_refl _) (hok_rd r) rfl (by simp) ?_⟩
      repeat' (first | exact fa_nil | refine fa_cons ⟨?_, ?_⟩ ?_)
      all_goals (try first | exact rfl | exact trivial | (simp [IdsLt, IdsLtL]; done) | (simp [get_cons]; done) | (simp [get_cons, *]; done) | (refine congrArg (AV.int .i64) (wrap_eq ?_ ?_ ?_) <;> (first | omega | (simp; omega))))
    · rename_i h1
      refine ⟨rfl, imp_cutk 4 (Nat.le_refl _) (hok_rd r) rfl (by simp) ?_⟩
      repeat' (first | exact fa_nil | refine fa_cons ⟨?_, ?_⟩ ?_)
      all_goals (try first | exact rfl | exact trivial | (simp [IdsLt, IdsLtL]; done) | (simp [get_cons]; done) | (simp [get_cons, *]; done) | (refine congrArg (AV.int .i64) (wrap_eq ?_ ?_ ?_) <;> (first | omega | (simp; omega))))
  refine awp_cond_dec rfl (fun h1 => ?_) (fun h1 => ?_)
  · have e : r.check i = 2 := by simp [Rd.check, hg, h1]
    rw [e]
    repeat' (first | ((first | refine Qa rfl ?_ | refine Qc rfl rfl rfl ?_ | apply Qd rfl rfl rfl rfl | (apply Qe rfl rfl rfl rfl; intro H9)); (first | refine Q0 ?_ | refine Q1 ?_ | refine Q2 rfl ?_ | refine Q3 rfl rfl rfl ?_ | refine Q4 rfl rfl rfl rfl rfl ?_ | refine Q5 rfl ?_ | refine Q6 rfl ?_ | refine Q7 rfl rfl rfl ?_ | refine Q8 rfl rfl rfl ?_ | refine Q9 rfl rfl rfl rfl ?_ | refine QA rfl rfl (by decide) ?_ | refine QB rfl rfl (by decide) ?_ | refine QC rfl rfl ?_ | refine QD rfl ?_ | refine QE rfl rfl ?_ | refine QF rfl rfl ?_ | refine QG rfl rfl rfl rfl ?_ | refine QH rfl rfl rfl ?_ | refine QI rfl rfl rfl ?_ | refine QJ rfl rfl ?_ | refine QK rfl ?_ | refine QM rfl rfl rfl rfl rfl ?_ | refine QN ?_ | refine QO ?_ | refine QP rfl rfl rfl rfl rfl rfl ?_ | refine QQ rfl rfl rfl rfl rfl rfl rfl rfl rfl rfl rfl ?_ | refine QR rfl rfl rfl rfl rfl rfl rfl rfl rfl rfl rfl rfl ?_); (first | exact QX rfl rfl ⟨rfl, rfl⟩ | exact QY rfl ⟨rfl, rfl⟩ | exact QZ ⟨rfl, rfl⟩ | refine QX rfl rfl ?_ | refine QZ ?_)) | refine Qa rfl ?_ | (refine Qb rfl ?_; try (refine QS rfl rfl rfl rfl rfl rfl rfl ?_; (first | refine QX rfl rfl ?_ | refine QZ ?_))) | refine Qh ?_ | refine Qi rfl ?_ | refine Qj rfl ?_ | (refine Qf rfl rfl rfl ?_; refine QS rfl rfl rfl rfl rfl rfl rfl ?_; (first | refine QX rfl rfl ?_ | refine QZ ?_)) | apply Qg rfl rfl | refine Qk ?_ | refine Ql ?_ | refine Qm ?_ | refine Qn ?_ | refine Qo rfl ?_ | refine Qp rfl ?_ | refine Qq rfl ?_ | refine Qr ?_ | refine Qs ?_ | refine Qt ?_ | refine Qu ?_ | refine Qv ?_ | refine Qw (by kernel_rfl) ?_ | refine Qx rfl (by kernel_rfl) ?_)
    refine awp_ret ?_
    exact ⟨_, rfl, .inl ⟨by omega, rfl, rfl⟩⟩
  have hc : r.check i = 0 := by simp only [Rd.check, hg]; simp [h1]
  obtain ⟨-, k, rfl, hk⟩ := rd_out hc
  repeat' (first | ((first | refine Qa rfl ?_ | refine Qc rfl rfl rfl ?_ | apply Qd rfl rfl rfl rfl | (apply Qe rfl rfl rfl rfl; intro H9)); (first | refine Q0 ?_ | refine Q1 ?_ | refine Q2 rfl ?_ | refine Q3 rfl rfl rfl ?_ | refine Q4 rfl rfl rfl rfl rfl ?_ | refine Q5 rfl ?_ | refine Q6 rfl ?_ | refine Q7 rfl rfl rfl ?_ | refine Q8 rfl rfl rfl ?_ | refine Q9 rfl rfl rfl rfl ?_ | refine QA rfl rfl (by decide) ?_ | refine QB rfl rfl (by decide) ?_ | refine QC rfl rfl ?_ | refine QD rfl ?_ | refine QE rfl rfl ?_ | refine QF rfl rfl ?_ | refine QG rfl rfl rfl rfl ?_ | refine QH rfl rfl rfl ?_ | refine QI rfl rfl rfl ?_ | refine QJ rfl rfl ?_ | refine QK rfl ?_ | refine QM rfl rfl rfl rfl rfl ?_ | refine QN ?_ | refine QO ?_ | refine QP rfl rfl rfl rfl rfl rfl ?_ | refine QQ rfl rfl rfl rfl rfl rfl rfl rfl rfl rfl rfl ?_ | refine QR rfl rfl rfl rfl rfl rfl rfl rfl rfl rfl rfl rfl ?_); (first | exact QX rfl rfl ⟨rfl, rfl⟩ | exact QY rfl ⟨rfl, rfl⟩ | exact QZ ⟨rfl, rfl⟩ | refine QX rfl rfl ?_ | refine QZ ?_)) | refine Qa rfl ?_ | (refine Qb rfl ?_; try (refine QS rfl rfl rfl rfl rfl rfl rfl ?_; (first | refine QX rfl rfl ?_ | refine QZ ?_))) | refine Qh ?_ | refine Qi rfl ?_ | refine Qj rfl ?_ | (refine Qf rfl rfl rfl ?_; refine QS rfl rfl rfl rfl rfl rfl rfl ?_; (first | refine QX rfl rfl ?_ | refine QZ ?_)) | apply Qg rfl rfl | refine Qk ?_ | refine Ql ?_ | refine Qm ?_ | refine Qn ?_ | refine Qo rfl ?_ | refine Qp rfl ?_ | refine Qq rfl ?_ | refine Qr ?_ | refine Qs ?_ | refine Qt ?_ | refine Qu ?_ | refine Qv ?_ | refine Qw (by kernel_rfl) ?_ | refine Qx rfl (by kernel_rfl) ?_)
  refine st_slice_own rfl rfl rfl rfl rfl rfl rfl (bnd_some (j := k * 64) rfl (wr64 (by omega))) (bnd_some (j := k * 64 + 64) rfl (wr64a (by omega) (by simp) (by omega))) (by omega) (by omega) ?_
  first | refine nx rfl rfl ?_ | refine nx0 ?_
  repeat' (first | ((first | refine Qa rfl ?_ | refine Qc rfl rfl rfl ?_ | apply Qd rfl rfl rfl rfl | (apply Qe rfl rfl rfl rfl; intro H9)); (first | refine Q0 ?_ | refine Q1 ?_ | refine Q2 rfl ?_ | refine Q3 rfl rfl rfl ?_ | refine Q4 rfl rfl rfl rfl rfl ?_ | refine Q5 rfl ?_ | refine Q6 rfl ?_ | refine Q7 rfl rfl rfl ?_ | refine Q8 rfl rfl rfl ?_ | refine Q9 rfl rfl rfl rfl ?_ | refine QA rfl rfl (by decide) ?_ | refine QB rfl rfl (by decide) ?_ | refine QC rfl rfl ?_ | refine QD rfl ?_ | refine QE rfl rfl ?_ | refine QF rfl rfl ?_ | refine QG rfl rfl rfl rfl ?_ | refine QH rfl rfl rfl ?_ | refine QI rfl rfl rfl ?_ | refine QJ rfl rfl ?_ | refine QK rfl ?_ | refine QM rfl rfl rfl rfl rfl ?_ | refine QN ?_ | refine QO ?_ | refine QP rfl rfl rfl rfl rfl rfl ?_ | refine QQ rfl rfl rfl rfl rfl rfl rfl rfl rfl rfl rfl ?_ | refine QR rfl rfl rfl rfl rfl rfl rfl rfl rfl rfl rfl rfl ?_); (first | exact QX rfl rfl ⟨rfl, rfl⟩ | exact QY rfl ⟨rfl, rfl⟩ | exact QZ ⟨rfl, rfl⟩ | refine QX rfl rfl ?_ | refine QZ ?_)) | refine Qa rfl ?_ | (refine Qb rfl ?_; try (refine QS rfl rfl rfl rfl rfl rfl rfl ?_; (first | refine QX rfl rfl ?_ | refine QZ ?_))) | refine Qh ?_ | refine Qi rfl ?_ | refine Qj rfl ?_ | (refine Qf rfl rfl rfl ?_; refine QS rfl rfl rfl rfl rfl rfl rfl ?_; (first | refine QX rfl rfl ?_ | refine QZ ?_)) | apply Qg rfl rfl | refine Qk ?_ | refine Ql ?_ | refine Qm ?_ | refine Qn ?_ | refine Qo rfl ?_ | refine Qp rfl ?_ | refine Qq rfl ?_ | refine Qr ?_ | refine Qs ?_ | refine Qt ?_ | refine Qu ?_ | refine Qv ?_ | refine Qw (by kernel_rfl) ?_ | refine Qx rfl (by kernel_rfl) ?_)
  refine st_append (oid := none) (es := []) (new := ((r.new.drop (k * 64)).take 64).map u8A) rfl rfl rfl rfl rfl rfl rfl rfl (rfl) (src_ownm' rfl rfl rfl (by omega) (by simp)) (oneEs_u8 _) ?_ ?_ ?_
  · first
    | (simp [maxLen]; done)
    | (simp [maxLen]; omega)
  · show _ * 1 ≤ _
    first
    | (simp; done)
    | (simp; omega)
  first | refine nx rfl rfl ?_ | refine nx0 ?_
  repeat' (first | ((first | refine Qa rfl ?_ | refine Qc rfl rfl rfl ?_ | apply Qd rfl rfl rfl rfl | (apply Qe rfl rfl rfl rfl; intro H9)); (first | refine Q0 ?_ | refine Q1 ?_ | refine Q2 rfl ?_ | refine Q3 rfl rfl rfl ?_ | refine Q4 rfl rfl rfl rfl rfl ?_ | refine Q5 rfl ?_ | refine Q6 rfl ?_ | refine Q7 rfl rfl rfl ?_ | refine Q8 rfl rfl rfl ?_ | refine Q9 rfl rfl rfl rfl ?_ | refine QA rfl rfl (by decide) ?_ | refine QB rfl rfl (by decide) ?_ | refine QC rfl rfl ?_ | refine QD rfl ?_ | refine QE rfl rfl ?_ | refine QF rfl rfl ?_ | refine QG rfl rfl rfl rfl ?_ | refine QH rfl rfl rfl ?_ | refine QI rfl rfl rfl ?_ | refine QJ rfl rfl ?_ | refine QK rfl ?_ | refine QM rfl rfl rfl rfl rfl ?_ | refine QN ?_ | refine QO ?_ | refine QP rfl rfl rfl rfl rfl rfl ?_ | refine QQ rfl rfl rfl rfl rfl rfl rfl rfl rfl rfl rfl ?_ | refine QR rfl rfl rfl rfl rfl rfl rfl rfl rfl rfl rfl rfl ?_); (first | exact QX rfl rfl ⟨rfl, rfl⟩ | exact QY rfl ⟨rfl, rfl⟩ | exact QZ ⟨rfl, rfl⟩ | refine QX rfl rfl ?_ | refine QZ ?_)) | refine Qa rfl ?_ | (refine Qb rfl ?_; try (refine QS rfl rfl rfl rfl rfl rfl rfl ?_; (first | refine QX rfl rfl ?_ | refine QZ ?_))) | refine Qh ?_ | refine Qi rfl ?_ | refine Qj rfl ?_ | (refine Qf rfl rfl rfl ?_; refine QS rfl rfl rfl rfl rfl rfl rfl ?_; (first | refine QX rfl rfl ?_ | refine QZ ?_)) | apply Qg rfl rfl | refine Qk ?_ | refine Ql ?_ | refine Qm ?_ | refine Qn ?_ | refine Qo rfl ?_ | refine Qp rfl ?_ | refine Qq rfl ?_ | refine Qr ?_ | refine Qs ?_ | refine Qt ?_ | refine Qu ?_ | refine Qv ?_ | refine Qw (by kernel_rfl) ?_ | refine Qx rfl (by kernel_rfl) ?_)
  · have hlen : ([] : List AV).length + (((r.new.drop (k * 64)).take 64).map u8A).length = 64 := by simp; omega
    rw [hlen]
    refine awp_ret ?_
    refine ⟨_, rfl, .inr ⟨hc, ?_, ?_⟩⟩
    · rfl
    · simp [dropId] <;> rfl
end Go.Abs
