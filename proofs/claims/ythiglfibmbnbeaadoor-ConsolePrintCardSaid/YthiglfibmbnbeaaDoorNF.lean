/- Slices compared: bytes.Equal, slices.Equal, flashcacheref02.Eq. Printed by gen_eq.py. Joined texts, each with what its own name promises; no condition beyond those stated. -/
import Derived.Test.YthiglfibmbnbeaaDoorNE
namespace Go.Abs
noncomputable instance decTr : DecidableEq Tr := fun _ _ => Classical.propDecidable _
theorem ext_lists {α : Type} {a b : List α} (hl : a.length = b.length) (h : ∀ j, j < a.length → a[j]? = b[j]?) : a = b := by
  refine List.ext_getElem? fun j => ?_
  rcases Nat.lt_or_ge j a.length with h1 | h1
  · exact h j h1
  · rw [List.getElem?_eq_none h1, List.getElem?_eq_none (by omega)]
attribute [local irreducible] AStep aops AWp Nx awM APanic
set_option maxHeartbeats 0 in
theorem beq_c (X : Nat → Prop) (a b : List UInt8) : ACalls (E0 X) 47 [.sl 1 (a.map u8A), .sl 1 (b.map u8A)] [] (fun r H' => r = .bool (decide (a = b)) ∧ H' = []) := by
  refine acalls_of Proofs.Tryd.func47 rfl Proofs.Tryd.ntmps47 (by kernel_rfl) rfl ?_
  intro hH hargs
  clear hH hargs
  repeat' (first | ((refine Qa rfl ?_); (first | refine Q0 ?_ | refine Q1 ?_); (refine QX rfl rfl ?_)) | refine Qa rfl ?_ | refine Qh ?_ | refine Ql ?_ | refine Qo rfl ?_)
  refine st_bstr (l := a) rfl rfl rfl rfl rfl rfl rfl ?_
  first | refine nx rfl rfl ?_ | refine nx0 ?_
  repeat' (first | ((refine Qa rfl ?_); (refine Q0 ?_); (refine QX rfl rfl ?_)) | refine Qa rfl ?_)
  refine st_bstr (l := b) rfl rfl rfl rfl rfl rfl rfl ?_
  first | refine nx rfl rfl ?_ | refine nx0 ?_
  repeat' (first | ((refine Qa rfl ?_); (first | refine Q1 ?_ | refine Q2 rfl ?_); (refine QX rfl rfl ?_)) | refine Qh ?_ | refine Qs ?_)
  refine awp_ret ?_
  refine ⟨_, rfl, ?_, ?_⟩
  · rfl
  · rfl
set_option maxHeartbeats 0 in
theorem eqb_c (X : Nat → Prop) (a b : List UInt8) (ha : a.length ≤ 1000000) : ACalls (E0 X) 22 [.sl 1 (a.map u8A), .sl 1 (b.map u8A)] [] (fun r H' => r = .bool (decide (a = b)) ∧ H' = []) := by
  refine ACalls.cut0 ?_ trivial
  refine acalls_of Proofs.Tryd.func22 rfl Proofs.Tryd.ntmps22 (by kernel_rfl) rfl ?_
  intro hH hargs
  clear hH hargs
  repeat' (first | ((refine Qa rfl ?_); (first | refine Q0 ?_ | refine Q1 ?_ | refine Q2 rfl ?_ | refine Q7 rfl rfl rfl ?_); (refine QX rfl rfl ?_)) | refine Qh ?_ | refine Ql ?_ | refine Qo rfl ?_ | refine Qs ?_)
  refine awp_cond rfl (fun h1 => ?_) (fun h1 => ?_)
  · have hne : a ≠ b := fun e => by subst e; simp at h1
    repeat' (first | ((refine Qa rfl ?_); (refine Q1 ?_); (refine QX rfl rfl ?_)) | refine Qh ?_ | refine Ql ?_ | refine Qo rfl ?_ | refine Qs ?_)
    refine awp_ret ?_
    exact ⟨_, rfl, by simp [hne]; rfl⟩
  have hlen : a.length = b.length := by simp at h1; omega
  repeat' (first | ((refine Qa rfl ?_); (first | refine Q0 ?_ | refine Q7 rfl rfl rfl ?_); (refine QX rfl rfl ?_)) | refine Qh ?_ | refine Ql ?_ | refine Qm ?_ | refine Qn ?_ | refine Qo rfl ?_)
  refine awp_loop2 (fun k : Nat => ⟨[(0, .sl 1 (a.map u8A)), (1, .sl 1 (b.map u8A)), (12, .int .i64 (a.length : Int)), (13, .int .i64 (k : Int))], []⟩) (fun k => k ≤ a.length ∧ ∀ j, j < k → a[j]? = b[j]?) (fun k => a.length - k) 0 ⟨Nat.zero_le _, fun j h => absurd h (Nat.not_lt_zero j)⟩ ?_ ?_
  · refine imp_tidy0 (fa_cons (ren_val rfl (u8_ids' a)) (fa_cons (ren_val rfl (u8_ids' b)) (fa_cons (ren_val ?_ trivial) (fa_cons (ren_val rfl trivial) fa_nil))))
    exact congrArg (fun n : Nat => AV.int .i64 (n : Int)) (List.length_map _)
  rintro k ⟨hk, h⟩
  repeat' (first | ((refine Qa rfl ?_); (refine Q2 rfl ?_); (refine QX rfl rfl ?_)) | refine Qh ?_ | refine Ql ?_ | refine Qo rfl ?_)
  refine awp_cond_dec rfl (fun h2 => ?_) (fun h2 => ?_)
  · obtain ⟨p, hp⟩ : ∃ p, a[k]? = some p := ⟨_, List.getElem?_eq_getElem (by omega)⟩
    obtain ⟨q, hq⟩ : ∃ q, b[k]? = some q := ⟨_, List.getElem?_eq_getElem (by omega)⟩
    repeat' (first | ((refine Qa rfl ?_); (first | refine Q0 ?_ | refine Q1 ?_); (refine QX rfl rfl ?_)) | refine Qh ?_ | refine Ql ?_ | refine Qm ?_ | refine Qn ?_ | refine Qo rfl ?_)
    refine awp_region_auto2 [] [] (by exact rfl) (by kernel_rfl) ?_
    repeat' ((apply Qd rfl rfl rfl rfl); (refine Q0 ?_); (exact QX rfl rfl ⟨rfl, rfl⟩))
    apply ds rfl rfl rfl rfl
    · refine st_ixm hp rfl rfl rfl rfl rfl rfl rfl (by first | rfl | omega) rfl ?_
      first | exact nx rfl rfl ⟨rfl, rfl⟩ | exact nx0 ⟨rfl, rfl⟩
    repeat' ((apply Qd rfl rfl rfl rfl); (first | refine Q0 ?_ | refine Q3 rfl rfl rfl ?_); (exact QX rfl rfl ⟨rfl, rfl⟩))
    apply ds rfl rfl rfl rfl
    · refine st_ixm hq rfl rfl rfl rfl rfl rfl rfl (by first | rfl | omega) rfl ?_
      first | exact nx rfl rfl ⟨rfl, rfl⟩ | exact nx0 ⟨rfl, rfl⟩
    repeat' (first | ((apply Qd rfl rfl rfl rfl); (first | refine Q2 rfl ?_ | refine Q3 rfl rfl rfl ?_); (exact QX rfl rfl ⟨rfl, rfl⟩)) | refine Qk ?_ | refine Qs ?_)

    refine awp_cond rfl (fun h3 => ?_) (fun h3 => ?_)
    · have hne : a ≠ b := fun e => by
        subst e
        rw [hp] at hq
        cases hq
        simp at h3
      repeat' (first | ((refine Qa rfl ?_); (refine Q1 ?_); (refine QX rfl rfl ?_)) | refine Qh ?_ | refine Ql ?_ | refine Qo rfl ?_ | refine Qs ?_)
      refine awp_ret ?_
      exact ⟨_, rfl, by simp [hne]; rfl⟩
    · have hpq : p = q := by simp at h3; exact UInt8.toNat_inj.1 (by omega)
      repeat' (first | ((refine Qa rfl ?_); (first | refine Q0 ?_ | refine Q2 rfl ?_); (refine QX rfl rfl ?_)) | refine Qh ?_ | refine Qm ?_ | refine Qo rfl ?_ | refine Qs ?_)
      refine ⟨k + 1, ⟨by show k + 1 ≤ a.length; omega, fun j hj => ?_⟩, by show a.length - (k + 1) < a.length - k; omega, imp_tidy0 ?_⟩
      · rcases Nat.lt_succ_iff_lt_or_eq.1 hj with h4 | rfl
        · exact h j h4
        · rw [hp, hq, hpq]
      · refine fa_cons (ren_val rfl (u8_ids' a)) (fa_cons (ren_val rfl (u8_ids' b)) (fa_cons (ren_val rfl trivial) (fa_cons (ren_val ?_ trivial) fa_nil)))
        exact congrArg (AV.int .i64) (by rw [wrap_in (by omega) (by omega)]; simp)
  · have hka : k = a.length := by omega
    subst hka
    have hab := ext_lists hlen h
    repeat' (first | ((refine Qa rfl ?_); (refine Q1 ?_); (refine QX rfl rfl ?_)) | refine Qh ?_ | refine Ql ?_ | refine Qo rfl ?_ | refine Qr ?_ | refine Qs ?_)
    refine awp_ret ?_
    exact ⟨_, rfl, by simp [hab]; rfl⟩
set_option maxHeartbeats 0 in
theorem eqo_c (X : Nat → Prop) (a b : List Bool) (ha : a.length ≤ 1000000) : ACalls (E0 X) 48 [.sl 1 (a.map boA), .sl 1 (b.map boA)] [] (fun r H' => r = .bool (decide (a = b)) ∧ H' = []) := by
  refine ACalls.cut0 ?_ trivial
  refine acalls_of Proofs.Tryd.func48 rfl Proofs.Tryd.ntmps48 (by kernel_rfl) rfl ?_
  intro hH hargs
  clear hH hargs
  repeat' (first | ((refine Qa rfl ?_); (first | refine Q0 ?_ | refine Q1 ?_ | refine Q2 rfl ?_ | refine Q7 rfl rfl rfl ?_); (refine QX rfl rfl ?_)) | refine Qh ?_ | refine Ql ?_ | refine Qo rfl ?_ | refine Qs ?_)
  refine awp_cond rfl (fun h1 => ?_) (fun h1 => ?_)
  · have hne : a ≠ b := fun e => by subst e; simp at h1
    repeat' (first | ((refine Qa rfl ?_); (refine Q1 ?_); (refine QX rfl rfl ?_)) | refine Qh ?_ | refine Ql ?_ | refine Qo rfl ?_ | refine Qs ?_)
    refine awp_ret ?_
    exact ⟨_, rfl, by simp [hne]; rfl⟩
  have hlen : a.length = b.length := by simp at h1; omega
  repeat' (first | ((refine Qa rfl ?_); (first | refine Q0 ?_ | refine Q7 rfl rfl rfl ?_); (refine QX rfl rfl ?_)) | refine Qh ?_ | refine Ql ?_ | refine Qm ?_ | refine Qn ?_ | refine Qo rfl ?_)
  refine awp_loop2 (fun k : Nat => ⟨[(0, .sl 1 (a.map boA)), (1, .sl 1 (b.map boA)), (12, .int .i64 (a.length : Int)), (13, .int .i64 (k : Int))], []⟩) (fun k => k ≤ a.length ∧ ∀ j, j < k → a[j]? = b[j]?) (fun k => a.length - k) 0 ⟨Nat.zero_le _, fun j h => absurd h (Nat.not_lt_zero j)⟩ ?_ ?_
  · refine imp_tidy0 (fa_cons (ren_val rfl (bo_ids' a)) (fa_cons (ren_val rfl (bo_ids' b)) (fa_cons (ren_val ?_ trivial) (fa_cons (ren_val rfl trivial) fa_nil))))
    exact congrArg (fun n : Nat => AV.int .i64 (n : Int)) (List.length_map _)
  rintro k ⟨hk, h⟩
  repeat' (first | ((refine Qa rfl ?_); (refine Q2 rfl ?_); (refine QX rfl rfl ?_)) | refine Qh ?_ | refine Ql ?_ | refine Qo rfl ?_)
  refine awp_cond_dec rfl (fun h2 => ?_) (fun h2 => ?_)
  · obtain ⟨p, hp⟩ : ∃ p, a[k]? = some p := ⟨_, List.getElem?_eq_getElem (by omega)⟩
    obtain ⟨q, hq⟩ : ∃ q, b[k]? = some q := ⟨_, List.getElem?_eq_getElem (by omega)⟩
    repeat' (first | ((refine Qa rfl ?_); (first | refine Q0 ?_ | refine Q1 ?_); (refine QX rfl rfl ?_)) | refine Qh ?_ | refine Ql ?_ | refine Qm ?_ | refine Qn ?_ | refine Qo rfl ?_)
    refine awp_region_auto2 [] [] (by exact rfl) (by kernel_rfl) ?_
    repeat' ((apply Qd rfl rfl rfl rfl); (refine Q0 ?_); (exact QX rfl rfl ⟨rfl, rfl⟩))
    apply ds rfl rfl rfl rfl
    · refine st_ixm hp rfl rfl rfl rfl rfl rfl rfl (by first | rfl | omega) rfl ?_
      first | exact nx rfl rfl ⟨rfl, rfl⟩ | exact nx0 ⟨rfl, rfl⟩
    repeat' ((apply Qd rfl rfl rfl rfl); (first | refine Q0 ?_ | refine Q3 rfl rfl rfl ?_); (exact QX rfl rfl ⟨rfl, rfl⟩))
    apply ds rfl rfl rfl rfl
    · refine st_ixm hq rfl rfl rfl rfl rfl rfl rfl (by first | rfl | omega) rfl ?_
      first | exact nx rfl rfl ⟨rfl, rfl⟩ | exact nx0 ⟨rfl, rfl⟩
    repeat' (first | ((apply Qd rfl rfl rfl rfl); (first | refine Q3 rfl rfl rfl ?_ | refine QI rfl rfl rfl ?_); (exact QX rfl rfl ⟨rfl, rfl⟩)) | refine Qk ?_ | refine Qs ?_)

    refine awp_cond rfl (fun h3 => ?_) (fun h3 => ?_)
    · have hne : a ≠ b := fun e => by
        subst e
        rw [hp] at hq
        cases hq
        simp at h3
      repeat' (first | ((refine Qa rfl ?_); (refine Q1 ?_); (refine QX rfl rfl ?_)) | refine Qh ?_ | refine Ql ?_ | refine Qo rfl ?_ | refine Qs ?_)
      refine awp_ret ?_
      exact ⟨_, rfl, by simp [hne]; rfl⟩
    · have hpq : p = q := by cases p <;> cases q <;> simp at h3 <;> rfl
      repeat' (first | ((refine Qa rfl ?_); (first | refine Q0 ?_ | refine Q2 rfl ?_); (refine QX rfl rfl ?_)) | refine Qh ?_ | refine Qm ?_ | refine Qo rfl ?_ | refine Qs ?_)
      refine ⟨k + 1, ⟨by show k + 1 ≤ a.length; omega, fun j hj => ?_⟩, by show a.length - (k + 1) < a.length - k; omega, imp_tidy0 ?_⟩
      · rcases Nat.lt_succ_iff_lt_or_eq.1 hj with h4 | rfl
        · exact h j h4
        · rw [hp, hq, hpq]
      · refine fa_cons (ren_val rfl (bo_ids' a)) (fa_cons (ren_val rfl (bo_ids' b)) (fa_cons (ren_val rfl trivial) (fa_cons (ren_val ?_ trivial) fa_nil)))
        exact congrArg (AV.int .i64) (by rw [wrap_in (by omega) (by omega)]; simp)
  · have hka : k = a.length := by omega
    subst hka
    have hab := ext_lists hlen h
    repeat' (first | ((refine Qa rfl ?_); (refine Q1 ?_); (refine QX rfl rfl ?_)) | refine Qh ?_ | refine Ql ?_ | refine Qo rfl ?_ | refine Qr ?_ | refine Qs ?_)
    refine awp_ret ?_
    exact ⟨_, rfl, by simp [hab]; rfl⟩
set_option maxHeartbeats 0 in
theorem eqt_c (X : Nat → Prop) (a b : List Tr) (ha : a.length ≤ 1000000) : ACalls (E0 X) 49 [.sl 2 (a.map trA), .sl 2 (b.map trA)] [] (fun r H' => r = .bool (decide (a = b)) ∧ H' = []) := by
  refine ACalls.cut0 ?_ trivial
  refine acalls_of Proofs.Tryd.func49 rfl Proofs.Tryd.ntmps49 (by kernel_rfl) rfl ?_
  intro hH hargs
  clear hH hargs
  repeat' (first | ((refine Qa rfl ?_); (first | refine Q0 ?_ | refine Q1 ?_ | refine Q2 rfl ?_ | refine Q7 rfl rfl rfl ?_); (refine QX rfl rfl ?_)) | refine Qh ?_ | refine Ql ?_ | refine Qo rfl ?_ | refine Qs ?_)
  refine awp_cond rfl (fun h1 => ?_) (fun h1 => ?_)
  · have hne : a ≠ b := fun e => by subst e; simp at h1
    repeat' (first | ((refine Qa rfl ?_); (refine Q1 ?_); (refine QX rfl rfl ?_)) | refine Qh ?_ | refine Ql ?_ | refine Qo rfl ?_ | refine Qs ?_)
    refine awp_ret ?_
    exact ⟨_, rfl, by simp [hne]; rfl⟩
  have hlen : a.length = b.length := by simp at h1; omega
  repeat' (first | ((refine Qa rfl ?_); (first | refine Q0 ?_ | refine Q7 rfl rfl rfl ?_); (refine QX rfl rfl ?_)) | refine Qh ?_ | refine Ql ?_ | refine Qm ?_ | refine Qn ?_ | refine Qo rfl ?_)
  refine awp_loop2 (fun k : Nat => ⟨[(0, .sl 2 (a.map trA)), (1, .sl 2 (b.map trA)), (12, .int .i64 (a.length : Int)), (13, .int .i64 (k : Int))], []⟩) (fun k => k ≤ a.length ∧ ∀ j, j < k → a[j]? = b[j]?) (fun k => a.length - k) 0 ⟨Nat.zero_le _, fun j h => absurd h (Nat.not_lt_zero j)⟩ ?_ ?_
  · refine imp_tidy0 (fa_cons (ren_val rfl (tr_ids a)) (fa_cons (ren_val rfl (tr_ids b)) (fa_cons (ren_val ?_ trivial) (fa_cons (ren_val rfl trivial) fa_nil))))
    exact congrArg (fun n : Nat => AV.int .i64 (n : Int)) (List.length_map _)
  rintro k ⟨hk, h⟩
  repeat' (first | ((refine Qa rfl ?_); (refine Q2 rfl ?_); (refine QX rfl rfl ?_)) | refine Qh ?_ | refine Ql ?_ | refine Qo rfl ?_)
  refine awp_cond_dec rfl (fun h2 => ?_) (fun h2 => ?_)
  · obtain ⟨p, hp⟩ : ∃ p, a[k]? = some p := ⟨_, List.getElem?_eq_getElem (by omega)⟩
    obtain ⟨q, hq⟩ : ∃ q, b[k]? = some q := ⟨_, List.getElem?_eq_getElem (by omega)⟩
    repeat' (first | ((refine Qa rfl ?_); (first | refine Q0 ?_ | refine Q1 ?_); (refine QX rfl rfl ?_)) | refine Qh ?_ | refine Ql ?_ | refine Qm ?_ | refine Qn ?_ | refine Qo rfl ?_)
    refine awp_region_auto2 [] [] (by exact rfl) (by kernel_rfl) ?_
    repeat' ((apply Qd rfl rfl rfl rfl); (refine Q0 ?_); (exact QX rfl rfl ⟨rfl, rfl⟩))
    apply ds rfl rfl rfl rfl
    · refine st_ixm hp rfl rfl rfl rfl rfl rfl rfl (by first | rfl | omega) rfl ?_
      first | exact nx rfl rfl ⟨rfl, rfl⟩ | exact nx0 ⟨rfl, rfl⟩
    repeat' ((apply Qd rfl rfl rfl rfl); (first | refine Q0 ?_ | refine Q3 rfl rfl rfl ?_); (exact QX rfl rfl ⟨rfl, rfl⟩))
    apply ds rfl rfl rfl rfl
    · refine st_ixm hq rfl rfl rfl rfl rfl rfl rfl (by first | rfl | omega) rfl ?_
      first | exact nx rfl rfl ⟨rfl, rfl⟩ | exact nx0 ⟨rfl, rfl⟩
    repeat' (first | ((apply Qd rfl rfl rfl rfl); (first | refine Q3 rfl rfl rfl ?_ | refine QI rfl rfl rfl ?_); (exact QX rfl rfl ⟨rfl, rfl⟩)) | refine Qk ?_ | refine Qs ?_)

    refine awp_cond rfl (fun h3 => ?_) (fun h3 => ?_)
    · have hne : a ≠ b := fun e => by
        subst e
        rw [hp] at hq
        cases hq
        simp at h3
      repeat' (first | ((refine Qa rfl ?_); (refine Q1 ?_); (refine QX rfl rfl ?_)) | refine Qh ?_ | refine Ql ?_ | refine Qo rfl ?_ | refine Qs ?_)
      refine awp_ret ?_
      exact ⟨_, rfl, by simp [hne]; rfl⟩
    · have hpq : p = q := by obtain ⟨pk, pn⟩ := p; obtain ⟨qk, qn⟩ := q; simp at h3; rw [h3.1, h3.2]
      repeat' (first | ((refine Qa rfl ?_); (first | refine Q0 ?_ | refine Q2 rfl ?_); (refine QX rfl rfl ?_)) | refine Qh ?_ | refine Qm ?_ | refine Qo rfl ?_ | refine Qs ?_)
      refine ⟨k + 1, ⟨by show k + 1 ≤ a.length; omega, fun j hj => ?_⟩, by show a.length - (k + 1) < a.length - k; omega, imp_tidy0 ?_⟩
      · rcases Nat.lt_succ_iff_lt_or_eq.1 hj with h4 | rfl
        · exact h j h4
        · rw [hp, hq, hpq]
      · refine fa_cons (ren_val rfl (tr_ids a)) (fa_cons (ren_val rfl (tr_ids b)) (fa_cons (ren_val rfl trivial) (fa_cons (ren_val ?_ trivial) fa_nil)))
        exact congrArg (AV.int .i64) (by rw [wrap_in (by omega) (by omega)]; simp)
  · have hka : k = a.length := by omega
    subst hka
    have hab := ext_lists hlen h
    repeat' (first | ((refine Qa rfl ?_); (refine Q1 ?_); (refine QX rfl rfl ?_)) | refine Qh ?_ | refine Ql ?_ | refine Qo rfl ?_ | refine Qr ?_ | refine Qs ?_)
    refine awp_ret ?_
    exact ⟨_, rfl, by simp [hab]; rfl⟩
end Go.Abs
namespace Go.Abs
noncomputable instance decOp : DecidableEq Opv := fun _ _ => Classical.propDecidable _
theorem op_ext {a b : Opv} (h1 : a.kind = b.kind) (h2 : a.key = b.key) (h3 : a.val = b.val) (h4 : a.n = b.n) (h5 : a.a = b.a) (h6 : a.b = b.b) (h7 : a.keep = b.keep) : a.tears = b.tears ↔ a = b := by
  cases a; cases b
  simp at *
  simp [*]
theorem dec_iff {p q : Prop} {_ : Decidable p} {_ : Decidable q} (h : p ↔ q) : AV.bool (decide p) = .bool (decide q) := congrArg AV.bool (decide_eq_decide.2 h)
theorem dec_no {q : Prop} {_ : Decidable q} (h : ¬ q) : AV.bool false = .bool (decide q) := by simp [h]
attribute [local irreducible] AStep aops AWp Nx awM APanic
set_option maxHeartbeats 0 in
theorem same_c (X : Nat → Prop) (a b : Opv) (ha : a.keep.length ≤ 1000000) (ha2 : a.tears.length ≤ 1000000) : ACalls (E0 X) 25 [opS a, opS b] [] (fun r H' => r = .bool (decide (a = b)) ∧ H' = []) := by
  refine ACalls.cut0 ?_ trivial
  refine acalls_of Proofs.Tryd.func25 rfl Proofs.Tryd.ntmps25 (by kernel_rfl) rfl ?_
  intro hH hargs
  clear hH hargs
  repeat' (first | ((refine Qa rfl ?_); (first | refine Q0 ?_ | refine Q1 ?_ | refine Q2 rfl ?_ | refine Q3 rfl rfl rfl ?_ | refine Q4 rfl rfl rfl rfl rfl ?_ | refine QK rfl ?_); (refine QX rfl rfl ?_)) | refine Qh ?_ | refine Ql ?_ | refine Qo rfl ?_)
  refine Qy rfl rfl (fun h_kind => ?_) (fun h_kind => ?_)
  rotate_left
  · repeat' (first | ((refine Qa rfl ?_); (first | refine Q0 ?_ | refine Q1 ?_ | refine Q5 rfl ?_); (refine QX rfl rfl ?_)) | refine Qh ?_ | refine Qi rfl ?_ | refine Qs ?_)
    refine awp_ret ?_
    exact ⟨_, rfl, dec_no fun e => h_kind (by rw [e])⟩
  repeat' (first | ((refine Qa rfl ?_); (first | refine Q3 rfl rfl rfl ?_ | refine Q4 rfl rfl rfl rfl rfl ?_); (refine QX rfl rfl ?_)) | refine Qa rfl ?_)
  refine st_call (fun _ => rfl) rfl ?_
  refine ACalls.mono (acalls_pure (E := E0 X) (fun X => beq_c X a.key b.key) ⟨u8_ids' _, u8_ids' _, trivial⟩ _) ?_
  rintro r H' ⟨rfl, rfl⟩
  first | refine nx rfl rfl ?_ | refine nx0 ?_
  repeat' ((refine Qa rfl ?_); (first | refine Q0 ?_ | refine Q5 rfl ?_); (refine QX rfl rfl ?_))
  refine Qy rfl rfl (fun h_key => ?_) (fun h_key => ?_)
  rotate_left
  · repeat' (first | ((refine Qa rfl ?_); (first | refine Q0 ?_ | refine Q1 ?_ | refine Q5 rfl ?_); (refine QX rfl rfl ?_)) | refine Qh ?_ | refine Qi rfl ?_ | refine Qs ?_)
    refine awp_ret ?_
    exact ⟨_, rfl, dec_no fun e => h_key (by rw [e])⟩
  repeat' (first | ((refine Qa rfl ?_); (first | refine Q3 rfl rfl rfl ?_ | refine Q4 rfl rfl rfl rfl rfl ?_); (refine QX rfl rfl ?_)) | refine Qa rfl ?_)
  refine st_call (fun _ => rfl) rfl ?_
  refine ACalls.mono (acalls_pure (E := E0 X) (fun X => beq_c X a.val b.val) ⟨u8_ids' _, u8_ids' _, trivial⟩ _) ?_
  rintro r H' ⟨rfl, rfl⟩
  first | refine nx rfl rfl ?_ | refine nx0 ?_
  repeat' ((refine Qa rfl ?_); (first | refine Q0 ?_ | refine Q5 rfl ?_); (refine QX rfl rfl ?_))
  refine Qy rfl rfl (fun h_val => ?_) (fun h_val => ?_)
  rotate_left
  · repeat' (first | ((refine Qa rfl ?_); (first | refine Q0 ?_ | refine Q1 ?_ | refine Q5 rfl ?_); (refine QX rfl rfl ?_)) | refine Qh ?_ | refine Qi rfl ?_ | refine Qs ?_)
    refine awp_ret ?_
    exact ⟨_, rfl, dec_no fun e => h_val (by rw [e])⟩
  repeat' ((refine Qa rfl ?_); (first | refine Q0 ?_ | refine Q2 rfl ?_ | refine Q3 rfl rfl rfl ?_ | refine Q4 rfl rfl rfl rfl rfl ?_ | refine Q5 rfl ?_); (refine QX rfl rfl ?_))
  refine Qy rfl rfl (fun h_n => ?_) (fun h_n => ?_)
  rotate_left
  · repeat' (first | ((refine Qa rfl ?_); (first | refine Q0 ?_ | refine Q1 ?_ | refine Q5 rfl ?_); (refine QX rfl rfl ?_)) | refine Qh ?_ | refine Qi rfl ?_ | refine Qs ?_)
    refine awp_ret ?_
    exact ⟨_, rfl, dec_no fun e => h_n (by rw [e])⟩
  repeat' ((refine Qa rfl ?_); (first | refine Q0 ?_ | refine Q2 rfl ?_ | refine Q3 rfl rfl rfl ?_ | refine Q4 rfl rfl rfl rfl rfl ?_ | refine Q5 rfl ?_); (refine QX rfl rfl ?_))
  refine Qy rfl rfl (fun h_a => ?_) (fun h_a => ?_)
  rotate_left
  · repeat' (first | ((refine Qa rfl ?_); (first | refine Q0 ?_ | refine Q1 ?_ | refine Q5 rfl ?_); (refine QX rfl rfl ?_)) | refine Qh ?_ | refine Qi rfl ?_ | refine Qs ?_)
    refine awp_ret ?_
    exact ⟨_, rfl, dec_no fun e => h_a (by rw [e])⟩
  repeat' ((refine Qa rfl ?_); (first | refine Q0 ?_ | refine Q2 rfl ?_ | refine Q3 rfl rfl rfl ?_ | refine Q4 rfl rfl rfl rfl rfl ?_ | refine Q5 rfl ?_); (refine QX rfl rfl ?_))
  refine Qy rfl rfl (fun h_b => ?_) (fun h_b => ?_)
  rotate_left
  · repeat' (first | ((refine Qa rfl ?_); (first | refine Q0 ?_ | refine Q1 ?_ | refine Q5 rfl ?_); (refine QX rfl rfl ?_)) | refine Qh ?_ | refine Qi rfl ?_ | refine Qs ?_)
    refine awp_ret ?_
    exact ⟨_, rfl, dec_no fun e => h_b (by rw [e])⟩
  repeat' (first | ((refine Qa rfl ?_); (first | refine Q3 rfl rfl rfl ?_ | refine Q4 rfl rfl rfl rfl rfl ?_); (refine QX rfl rfl ?_)) | refine Qa rfl ?_)
  refine st_call (fun _ => rfl) rfl ?_
  refine ACalls.mono (acalls_pure (E := E0 X) (fun X => eqo_c X a.keep b.keep ha) ⟨bo_ids' _, bo_ids' _, trivial⟩ _) ?_
  rintro r H' ⟨rfl, rfl⟩
  first | refine nx rfl rfl ?_ | refine nx0 ?_
  repeat' ((refine Qa rfl ?_); (first | refine Q0 ?_ | refine Q5 rfl ?_); (refine QX rfl rfl ?_))
  refine Qy rfl rfl (fun h_keep => ?_) (fun h_keep => ?_)
  rotate_left
  · repeat' (first | ((refine Qa rfl ?_); (first | refine Q1 ?_ | refine Q5 rfl ?_); (refine QX rfl rfl ?_)) | refine Qh ?_ | refine Qi rfl ?_ | refine Qs ?_)
    refine awp_ret ?_
    exact ⟨_, rfl, dec_no fun e => h_keep (by rw [e])⟩
  repeat' (first | ((refine Qa rfl ?_); (first | refine Q3 rfl rfl rfl ?_ | refine Q4 rfl rfl rfl rfl rfl ?_); (refine QX rfl rfl ?_)) | refine Qa rfl ?_)
  refine st_call (fun _ => rfl) rfl ?_
  refine ACalls.mono (acalls_pure (E := E0 X) (fun X => eqt_c X a.tears b.tears ha2) ⟨tr_ids _, tr_ids _, trivial⟩ _) ?_
  rintro r H' ⟨rfl, rfl⟩
  first | refine nx rfl rfl ?_ | refine nx0 ?_
  repeat' (first | ((refine Qa rfl ?_); (first | refine Q1 ?_ | refine Q5 rfl ?_); (refine QX rfl rfl ?_)) | refine Qh ?_ | refine Qs ?_)
  refine awp_ret ?_
  exact ⟨_, rfl, dec_iff (op_ext h_kind h_key h_val h_n h_a h_b h_keep)⟩
end Go.Abs
namespace Go.Abs
theorem join_le (K : Nat) (l : List (List UInt8)) (c : UInt8) (h : ∀ w ∈ l, w.length ≤ K) : (Lib.join l [c]).length ≤ l.length * (K + 1) := by
  cases l with
  | nil => simp [Lib.join_nil]
  | cons x l =>
    rw [Lib.join_cons, List.length_append, Lib.joinTail_length, show [c].length = 1 from rfl, Nat.one_mul]
    have hx := h x (by simp)
    have hs : ∀ l : List (List UInt8), (∀ w ∈ l, w.length ≤ K) → Lib.lens l ≤ l.length * K := by
      intro l
      induction l with
      | nil => intro _; simp [Lib.lens]
      | cons y r ih =>
        intro h
        have h1 := h y (by simp)
        have h2 := ih (fun w hw => h w (List.mem_cons_of_mem _ hw))
        unfold Lib.lens at h2 ⊢
        rw [List.map_cons, List.sum_cons, List.length_cons, Nat.succ_mul]
        omega
    have h3 := hs l (fun w hw => h w (List.mem_cons_of_mem _ hw))
    have e : (x :: l).length * (K + 1) = l.length * K + K + (l.length + 1) := by
      rw [List.length_cons, Nat.mul_succ, Nat.succ_mul]
    omega
theorem txtW_len (b : List UInt8) : (txtW b).length ≤ 2 * b.length + 1 := by
  unfold txtW
  split
  · simp
  · rw [hexW_len]; omega
theorem chW_len (b : List Bool) : (chW b).length ≤ b.length + 1 := by
  unfold chW
  split
  · simp
  · simp
theorem tearW_len {t : Tr} (h : i64B t.k ∧ i64B t.n) : (tearW t).length ≤ 41 := by
  have h1 := itoa_len t.k h.1
  have h2 := itoa_len t.n h.2
  unfold tearW
  simp; omega
theorem wordsO_len {o : Opv} (ho : OpB o) : (wordsO o).length ≤ 1002 := by
  have := ho.tears
  unfold wordsO
  repeat' split
  all_goals simp
  all_goals omega
theorem wordsO_le {o : Opv} (ho : OpB o) : ∀ w ∈ wordsO o, w.length ≤ 2001 := by
  have h1 := ho.key
  have h2 := ho.val
  have h3 := ho.keep
  have h4 := txtW_len o.key
  have h5 := txtW_len o.val
  have h6 := chW_len o.keep
  have h7 := itoa_len o.n ho.n
  have h8 := itoa_len o.a ho.a
  have h9 := itoa_len o.b ho.b
  have hp : ∀ k : Nat, (plainL.getD k []).length ≤ 2001 := fun k => by
    have : ∀ w ∈ plainL, w.length ≤ 2001 := by decide
    rcases Nat.lt_or_ge k plainL.length with h | h
    · rw [List.getD_eq_getElem?_getD, List.getElem?_eq_getElem h]
      exact this _ (List.getElem_mem h)
    · rw [List.getD_eq_getElem?_getD, List.getElem?_eq_none h]; simp
  intro w hw
  unfold wordsO at hw
  repeat' split at hw
  all_goals simp only [List.mem_cons, List.mem_map, List.not_mem_nil, or_false] at hw
  · rcases hw with rfl | rfl <;> first | omega | (simp; done)
  · rcases hw with rfl | rfl <;> first | omega | (simp; done)
  · rcases hw with rfl | rfl | rfl | rfl <;> first | omega | (simp; done)
  · rcases hw with rfl | rfl <;> first | omega | (simp; done)
  · rcases hw with rfl | rfl <;> first | omega | (simp; done)
  · rcases hw with rfl | rfl | rfl <;> first | omega | (simp; done)
  · rcases hw with rfl | rfl | ⟨t, ht, rfl⟩
    · simp
    · omega
    · have := tearW_len (ho.tr t ht); omega
  · subst hw; exact hp _
theorem lineO_len {o : Opv} (ho : OpB o) : (lineO o).length ≤ 3000000 := by
  have h1 := join_le 2001 (wordsO o) 32 (wordsO_le ho)
  have h2 := wordsO_len ho
  have h3 := Nat.mul_le_mul_right 2002 h2
  unfold lineO
  omega
noncomputable def printP (o : Opv) : Option (List UInt8) := if parseP (lineO o) = some o then some (lineO o) else none
def resS : Option (List UInt8) → AV
  | some s => .tup [.str s, .bool true]
  | none => .tup [.str [], .bool false]
theorem resS_ids (x : Option (List UInt8)) : IdsLt 0 (resS x) := by
  cases x <;> exact ⟨trivial, trivial, trivial⟩
theorem bitsP_len {s : List UInt8} {l : List Bool} (h : bitsP s = some l) : l.length ≤ s.length := by
  unfold bitsP at h
  split at h
  · cases h; simp
  · split at h
    · cases h
    · cases h; simp
theorem cmdP_small {w : List UInt8} {l : List (List UInt8)} {o : Opv} (K : Nat) (h : cmdP w l = some o) (hl : l.length ≤ K) (hs : ∀ s ∈ l, s.length ≤ K) : o.keep.length ≤ K ∧ o.tears.length ≤ K := by
  unfold cmdP at h
  repeat' split at h
  all_goals first
    | cases h; done
    | (cases h; exact ⟨Nat.zero_le _, Nat.zero_le _⟩)
    | (simp only [Option.map_eq_some_iff] at h; obtain ⟨k, _, rfl⟩ := h; exact ⟨Nat.zero_le _, Nat.zero_le _⟩)
    | skip
  rename_i h1 _ _ k t e1 e2
  cases h
  obtain ⟨x, l', rfl⟩ : ∃ x l', l = x :: l' := List.exists_cons_of_length_pos h1.2
  have h3 := bitsP_len e1
  have h4 := tearsP_len _ _ e2
  have h5 := hs x (by simp)
  simp at h3 h4 hl
  exact ⟨by show k.length ≤ K; omega, by show t.length ≤ K; omega⟩
theorem parseP_small {s : List UInt8} {o : Opv} (h : parseP s = some o) : o.keep.length ≤ 1000 ∧ o.tears.length ≤ 1000 := by
  unfold parseP at h
  split at h
  · cases h
  · rename_i h1
    have hb := words_bytes 32 s
    have hwl := words_len 32 s
    split at h
    · rename_i w l hw
      rw [hw] at hb hwl
      refine cmdP_small 1000 h (by simp at hwl; omega) fun x hx => ?_
      have := hb x (List.mem_cons_of_mem _ hx)
      omega
    · cases h
attribute [local irreducible] AStep aops AWp Nx awM APanic
set_option maxHeartbeats 0 in
theorem print_c (X : Nat → Prop) (o : Opv) (ho : OpB o) : ACalls (E0 X) 12 [opS o] [] (fun r H' => r = resS (printP o) ∧ H' = []) := by
  refine ACalls.cut0 ?_ (resS_ids _)
  have hll := lineO_len ho
  have hwl := wordsO_len ho
  refine acalls_of Proofs.Tryd.func12 rfl Proofs.Tryd.ntmps12 (by kernel_rfl) rfl ?_
  intro hH hargs
  clear hH hargs
  repeat' (first | ((refine Qa rfl ?_); (first | refine Q0 ?_ | refine Q1 ?_ | refine Q2 rfl ?_ | refine Q3 rfl rfl rfl ?_ | refine Q4 rfl rfl rfl rfl rfl ?_ | refine Q7 rfl rfl rfl ?_ | refine QK rfl ?_); (refine QX rfl rfl ?_)) | refine Qh ?_ | refine Ql ?_ | refine Qo rfl ?_)
  refine Qy rfl rfl (fun h => absurd h (by have := ho.key; simp; omega)) (fun _ => ?_)
  repeat' ((refine Qa rfl ?_); (first | refine Q0 ?_ | refine Q2 rfl ?_ | refine Q3 rfl rfl rfl ?_ | refine Q4 rfl rfl rfl rfl rfl ?_ | refine Q5 rfl ?_ | refine Q7 rfl rfl rfl ?_); (refine QX rfl rfl ?_))
  refine Qy rfl rfl (fun h => absurd h (by have := ho.val; simp; omega)) (fun _ => ?_)
  repeat' ((refine Qa rfl ?_); (first | refine Q0 ?_ | refine Q2 rfl ?_ | refine Q3 rfl rfl rfl ?_ | refine Q4 rfl rfl rfl rfl rfl ?_ | refine Q5 rfl ?_ | refine Q7 rfl rfl rfl ?_); (refine QX rfl rfl ?_))
  refine Qy rfl rfl (fun h => absurd h (by have := ho.keep; simp; omega)) (fun _ => ?_)
  repeat' (first | ((refine Qa rfl ?_); (first | refine Q2 rfl ?_ | refine Q3 rfl rfl rfl ?_ | refine Q4 rfl rfl rfl rfl rfl ?_ | refine Q5 rfl ?_ | refine Q7 rfl rfl rfl ?_); (refine QX rfl rfl ?_)) | refine Qh ?_ | refine Qs ?_)
  refine awp_cond_dec rfl (fun h1 => ?_) (fun h1 => ?_)
  · exact absurd h1 (by have := ho.tears; simp; omega)
  repeat' (first | ((refine Qa rfl ?_); (refine Q3 rfl rfl rfl ?_); (refine QX rfl rfl ?_)) | refine Qa rfl ?_ | refine Ql ?_ | refine Qm ?_ | refine Qo rfl ?_)
  refine st_call (fun _ => rfl) rfl ?_
  refine ACalls.mono (acalls_pure (E := E0 X) (fun X => words_c X o ho) ⟨opC_ids o, trivial⟩ _) ?_
  rintro r H' ⟨rfl, rfl⟩
  first | refine nx rfl rfl ?_ | refine nx0 ?_
  repeat' (refine Qa rfl ?_)
  refine st_call (fun _ => rfl) rfl ?_
  refine ACalls.mono (acalls_pure (E := E0 X) (fun X => join_c X (wordsO o) [32] (by omega) (by have : Lib.join (wordsO o) [32] = lineO o := rfl; rw [this]; omega)) ⟨ids_str _, trivial, trivial⟩ _) ?_
  rintro r H' ⟨rfl, rfl⟩
  first | refine nx rfl rfl ?_ | refine nx0 ?_
  repeat' (first | ((refine Qa rfl ?_); (first | refine Q0 ?_ | refine Q1 ?_); (refine QX rfl rfl ?_)) | refine Qa rfl ?_ | refine Qh ?_ | refine Ql ?_ | refine Qo rfl ?_)
  cases hp : parseP (lineO o) with
  | none =>
    have hP : printP o = none := by rw [printP, hp, if_neg (by simp)]
    rw [hP]
    refine st_call (fun _ => rfl) rfl ?_
    refine ACalls.mono (acalls_pure (E := E0 X) (fun X => parse_c X (lineO o) (by omega)) (by simp [IdsLtL, IdsLt]) _) ?_
    rintro r H' ⟨rfl, rfl⟩
    first | refine nx rfl rfl ?_ | refine nx0 ?_
    rw [hp]
    repeat' (first | ((refine Qa rfl ?_); (first | refine Q0 ?_ | refine Q1 ?_ | refine Q5 rfl ?_ | refine QC rfl rfl ?_ | refine QD rfl ?_ | refine QJ rfl rfl ?_); (refine QX rfl rfl ?_)) | (refine Qb rfl ?_; try (refine QS rfl rfl rfl rfl rfl rfl rfl ?_; (refine QX rfl rfl ?_))) | refine Qh ?_ | refine Qi rfl ?_ | refine Ql ?_ | refine Qo rfl ?_ | refine Qp rfl ?_ | refine Qs ?_)
    refine awp_ret ?_
    exact ⟨_, rfl, rfl⟩
  | some x =>
    have hsm := parseP_small hp
    refine st_call (fun _ => rfl) rfl ?_
    refine ACalls.mono (acalls_pure (E := E0 X) (fun X => parse_c X (lineO o) (by omega)) (by simp [IdsLtL, IdsLt]) _) ?_
    rintro r H' ⟨rfl, rfl⟩
    first | refine nx rfl rfl ?_ | refine nx0 ?_
    rw [hp]
    repeat' (first | ((refine Qa rfl ?_); (first | refine Q0 ?_ | refine Q1 ?_ | refine Q3 rfl rfl rfl ?_ | refine QC rfl rfl ?_ | refine QD rfl ?_ | refine QJ rfl rfl ?_); (refine QX rfl rfl ?_)) | refine Qa rfl ?_ | (refine Qb rfl ?_; try (refine QS rfl rfl rfl rfl rfl rfl rfl ?_; (refine QX rfl rfl ?_))) | refine Qh ?_ | refine Ql ?_ | refine Qo rfl ?_)
    refine st_call (fun _ => rfl) rfl ?_
    refine ACalls.mono (acalls_pure (E := E0 X) (fun X => same_c X x o (by omega) (by omega)) ⟨opC_ids x, opC_ids o, trivial⟩ _) ?_
    rintro r H' ⟨rfl, rfl⟩
    first | refine nx rfl rfl ?_ | refine nx0 ?_
    by_cases hx : x = o
    · subst hx
      have hP : printP x = some (lineO x) := by rw [printP, hp, if_pos rfl]
      rw [hP, decide_eq_true rfl]
      repeat' (first | ((refine Qa rfl ?_); (first | refine Q0 ?_ | refine Q1 ?_ | refine Q5 rfl ?_ | refine QD rfl ?_); (refine QX rfl rfl ?_)) | refine Qh ?_ | refine Ql ?_ | refine Qm ?_ | refine Qo rfl ?_ | refine Qq rfl ?_ | refine Qs ?_)
      refine awp_ret ?_
      exact ⟨_, rfl, rfl⟩
    · have hP : printP o = none := by rw [printP, hp, if_neg (by simpa using hx)]
      rw [hP, decide_eq_false hx]
      repeat' (first | ((refine Qa rfl ?_); (first | refine Q1 ?_ | refine Q5 rfl ?_ | refine QD rfl ?_); (refine QX rfl rfl ?_)) | refine Qh ?_ | refine Ql ?_ | refine Qo rfl ?_ | refine Qp rfl ?_ | refine Qs ?_)
      refine awp_ret ?_
      exact ⟨_, rfl, rfl⟩
end Go.Abs
namespace Go.Abs
def errL : List (List UInt8) := [[111, 107], [100, 111, 119, 110], [114, 97, 110, 103, 101], [108, 101, 110, 103, 116, 104], [102, 111, 114, 109], [107, 101, 121], [118, 97, 108, 117, 101], [101, 120, 112, 105, 114, 121], [102, 105, 116], [114, 101, 106, 101, 99, 116, 101, 100], [112, 108, 97, 110], [98, 117, 115, 121], [105, 100, 108, 101], [102, 117, 108, 108], [110, 111, 110, 101], [115, 121, 110, 116, 97, 120]]
def errW (e : Int) : List UInt8 := if e < 0 ∨ 16 ≤ e then [117, 110, 107, 110, 111, 119, 110] else errL.getD e.toNat []
attribute [local irreducible] AStep aops AWp Nx awM APanic
set_option maxHeartbeats 0 in
theorem err_c (X : Nat → Prop) (e : Int) (he : i64B e) : ACalls (E0 X) 14 [.int .i64 e] [] (fun r H' => r = .str (errW e) ∧ H' = []) := by
  refine ACalls.cut0 ?_ trivial
  have h2 := he.2
  refine acalls_of Proofs.Tryd.func14 rfl Proofs.Tryd.ntmps14 (by kernel_rfl) rfl ?_
  intro hH hargs
  clear hH hargs
  repeat' (refine Ql ?_)
  refine Qo rfl ?_
  repeat' (first | ((refine Qa rfl ?_); (refine Q1 ?_); (refine QX rfl rfl ?_)) | refine Qh ?_ | refine Ql ?_)
  refine Qo rfl ?_
  refine Qa rfl ?_
  refine st_bsl (k := 1) (cs := errL.map strA) (es := errL.map strA) rfl rfl rfl rfl rfl rfl rfl (.inr rfl) (by kernel_rfl) (.inr (by kernel_rfl)) rfl (by kernel_rfl) ?_
  refine nx (r2 := .sl 1 (errL.map strA)) (H2 := []) rfl rfl ?_
  repeat' (first | ((refine Qa rfl ?_); (first | refine Q0 ?_ | refine Q1 ?_ | refine Q2 rfl ?_); (refine QX rfl rfl ?_)) | refine Qh ?_ | refine Ql ?_ | refine Qo rfl ?_)
  refine Qy rfl rfl (fun h => ?_) (fun h => ?_)
  · rw [errW, if_pos (.inl h)]
    repeat' (first | ((refine Qa rfl ?_); (first | refine Q1 ?_ | refine Q5 rfl ?_); (refine QX rfl rfl ?_)) | refine Qh ?_ | refine Qi rfl ?_ | refine Ql ?_ | refine Qo rfl ?_ | refine Qp rfl ?_ | refine Qs ?_)
    refine awp_ret ?_
    exact ⟨_, rfl, rfl⟩
  repeat' (first | ((refine Qa rfl ?_); (first | refine Q0 ?_ | refine Q2 rfl ?_ | refine Q5 rfl ?_ | refine Q7 rfl rfl rfl ?_); (refine QX rfl rfl ?_)) | refine Qh ?_ | refine Qs ?_)
  refine awp_cond_dec rfl (fun h3 => ?_) (fun h3 => ?_)
  · rw [errW, if_pos (.inr h3)]
    repeat' (first | ((refine Qa rfl ?_); (refine Q1 ?_); (refine QX rfl rfl ?_)) | refine Qh ?_ | refine Ql ?_ | refine Qo rfl ?_ | refine Qs ?_)
    refine awp_ret ?_
    exact ⟨_, rfl, rfl⟩
  have h4 : ¬ (16 : Int) ≤ e := h3
  rw [errW, if_neg (by omega)]
  have hj : e.toNat < errL.length := by show e.toNat < 16; omega
  have hg : errL[e.toNat]? = some (errL.getD e.toNat []) := by
    rw [List.getD_eq_getElem?_getD, List.getElem?_eq_getElem hj]; rfl
  repeat' (first | ((refine Qa rfl ?_); (refine Q0 ?_); (refine QX rfl rfl ?_)) | refine Qa rfl ?_ | refine Ql ?_ | refine Qm ?_ | refine Qo rfl ?_)
  refine st_ixm (f := strA) (l := errL) (j := e.toNat) hg rfl rfl rfl rfl rfl rfl rfl (by omega) rfl ?_
  first | refine nx rfl rfl ?_ | refine nx0 ?_
  repeat' (first | ((refine Qa rfl ?_); (first | refine Q1 ?_ | refine Q3 rfl rfl rfl ?_); (refine QX rfl rfl ?_)) | refine Qh ?_ | refine Qs ?_)
  refine awp_ret ?_
  exact ⟨_, rfl, rfl⟩
set_option maxHeartbeats 0 in
theorem rerr_c (X : Nat → Prop) (e : Int) (he : i64B e) : ACalls (E0 X) 15 [.int .i64 e] [] (fun r H' => r = .str (errW e) ∧ H' = []) := by
  refine ACalls.cut0 ?_ trivial
  have h2 := he.2
  refine acalls_of Proofs.Tryd.func15 rfl Proofs.Tryd.ntmps15 (by kernel_rfl) rfl ?_
  intro hH hargs
  clear hH hargs
  repeat' (refine Ql ?_)
  refine Qo rfl ?_
  repeat' (first | ((refine Qa rfl ?_); (refine Q1 ?_); (refine QX rfl rfl ?_)) | refine Qh ?_ | refine Ql ?_)
  refine Qo rfl ?_
  refine Qa rfl ?_
  refine st_bsl (k := 1) (cs := errL.map strA) (es := errL.map strA) rfl rfl rfl rfl rfl rfl rfl (.inr rfl) (by kernel_rfl) (.inr (by kernel_rfl)) rfl (by kernel_rfl) ?_
  refine nx (r2 := .sl 1 (errL.map strA)) (H2 := []) rfl rfl ?_
  repeat' (first | ((refine Qa rfl ?_); (first | refine Q0 ?_ | refine Q1 ?_ | refine Q2 rfl ?_); (refine QX rfl rfl ?_)) | refine Qh ?_ | refine Ql ?_ | refine Qo rfl ?_)
  refine Qy rfl rfl (fun h => ?_) (fun h => ?_)
  · rw [errW, if_pos (.inl h)]
    repeat' (first | ((refine Qa rfl ?_); (first | refine Q1 ?_ | refine Q5 rfl ?_); (refine QX rfl rfl ?_)) | refine Qh ?_ | refine Qi rfl ?_ | refine Ql ?_ | refine Qo rfl ?_ | refine Qp rfl ?_ | refine Qs ?_)
    refine awp_ret ?_
    exact ⟨_, rfl, rfl⟩
  repeat' (first | ((refine Qa rfl ?_); (first | refine Q0 ?_ | refine Q2 rfl ?_ | refine Q5 rfl ?_ | refine Q7 rfl rfl rfl ?_); (refine QX rfl rfl ?_)) | refine Qh ?_ | refine Qs ?_)
  refine awp_cond_dec rfl (fun h3 => ?_) (fun h3 => ?_)
  · rw [errW, if_pos (.inr h3)]
    repeat' (first | ((refine Qa rfl ?_); (refine Q1 ?_); (refine QX rfl rfl ?_)) | refine Qh ?_ | refine Ql ?_ | refine Qo rfl ?_ | refine Qs ?_)
    refine awp_ret ?_
    exact ⟨_, rfl, rfl⟩
  have h4 : ¬ (16 : Int) ≤ e := h3
  rw [errW, if_neg (by omega)]
  have hj : e.toNat < errL.length := by show e.toNat < 16; omega
  have hg : errL[e.toNat]? = some (errL.getD e.toNat []) := by
    rw [List.getD_eq_getElem?_getD, List.getElem?_eq_getElem hj]; rfl
  repeat' (first | ((refine Qa rfl ?_); (refine Q0 ?_); (refine QX rfl rfl ?_)) | refine Qa rfl ?_ | refine Ql ?_ | refine Qm ?_ | refine Qo rfl ?_)
  refine st_ixm (f := strA) (l := errL) (j := e.toNat) hg rfl rfl rfl rfl rfl rfl rfl (by omega) rfl ?_
  first | refine nx rfl rfl ?_ | refine nx0 ?_
  repeat' (first | ((refine Qa rfl ?_); (first | refine Q1 ?_ | refine Q3 rfl rfl rfl ?_); (refine QX rfl rfl ?_)) | refine Qh ?_ | refine Qs ?_)
  refine awp_ret ?_
  exact ⟨_, rfl, rfl⟩
end Go.Abs

