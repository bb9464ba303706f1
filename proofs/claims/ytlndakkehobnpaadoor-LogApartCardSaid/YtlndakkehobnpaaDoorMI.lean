/- LogFull: the walk. Joined texts, each with what its own name promises; no condition beyond those stated. -/
import Derived.Test.YtlndakkehobnpaaDoorME
namespace Go.Abs
theorem and_le (n : Int) (c : Nat) (hc : c < 9223372036854775808) : ∃ m : Nat, m ≤ c ∧ ibits .and .i64 n (c : Int) = m := by
  have h1 : (BitVec.ofInt 64 n &&& BitVec.ofInt 64 (c : Int)).toNat ≤ c := by
    rw [BitVec.toNat_and]
    refine Nat.le_trans Nat.and_le_right ?_
    rw [BitVec.toNat_ofInt]
    omega
  have h2 : ibits .and .i64 n (c : Int) = IntKind.i64.wrap ((BitVec.ofInt 64 n &&& BitVec.ofInt 64 (c : Int)).toNat : Nat) := rfl
  refine ⟨_, h1, ?_⟩
  rw [h2]
  exact wrap_in (by omega) (by omega)
def pF (mig tail i : Nat) : PlN := ⟨if i = 0 then 1 else 2, mig, i, tail + i, tgt⟩
theorem tgt_ok : formB tgt = true := by kernel_rfl
theorem pF_ok {mig tail i : Nat} (hm : 1 ≤ mig ∧ mig ≤ 9) (ht : tail ≤ 1023) (hi : i ≤ 35) : validB (pF mig tail i).pl = true := by
  have h1 : validB (pF mig tail i).pl = (!decide ((mig : Int) < 1) && (!decide (4294967295 < (mig : Int)) && (!decide (((tail + i : Nat) : Int) < 0) && (!decide (281474976710655 < ((tail + i : Nat) : Int)) && (true && ((decide ((((if i = 0 then 1 else 2 : Nat)) : Int) = 1) && decide ((i : Int) = 0)) || (decide ((((if i = 0 then 1 else 2 : Nat)) : Int) = 2) && (decide (1 ≤ (i : Int)) && decide ((i : Int) < 36))))))))) := by
    rw [← tgt_ok]; rfl
  rw [h1]
  have e1 : decide ((mig : Int) < 1) = false := decide_eq_false (by omega)
  have e2 : decide (4294967295 < (mig : Int)) = false := decide_eq_false (by omega)
  have e3 : decide (((tail + i : Nat) : Int) < 0) = false := decide_eq_false (by omega)
  have e4 : decide (281474976710655 < ((tail + i : Nat) : Int)) = false := decide_eq_false (by omega)
  rw [e1, e2, e3, e4]
  by_cases h : i = 0
  · subst h; rfl
  · have e5 : decide (1 ≤ (i : Int)) = true := decide_eq_true (by omega)
    have e6 : decide ((i : Int) < 36) = true := decide_eq_true (by omega)
    rw [if_neg h, e5, e6]
    simp
theorem Jn.congr {v : Dv} {w w' : Nat → Option PlN} (h : Jn v w) (e : ∀ j, j < 74 → w j = w' j) : Jn v w' := fun j hj => by rw [← e j hj]; exact h j hj
/-- n records of a migration, and what was there before. -/
def wP (w : Nat → Option PlN) (mig tail n : Nat) (j : Nat) : Option PlN := if 2 + (mig + 1) % 2 * 36 ≤ j ∧ j < 2 + (mig + 1) % 2 * 36 + n then some (pF mig tail (j - (2 + (mig + 1) % 2 * 36))) else w j
theorem wP_succ (w : Nat → Option PlN) (mig tail n j : Nat) : (if j = secN (pF mig tail n) then some (pF mig tail n) else wP w mig tail n j) = wP w mig tail (n + 1) j := by
  have hs : secN (pF mig tail n) = 2 + (mig + 1) % 2 * 36 + n := rfl
  rw [hs]
  unfold wP
  generalize 2 + (mig + 1) % 2 * 36 = b at *
  by_cases h : j = b + n
  · subst h
    rw [if_pos rfl, if_pos (by omega)]
    have : b + n - b = n := by omega
    rw [this]
  · rw [if_neg h]
    have e : (b ≤ j ∧ j < b + n) ↔ (b ≤ j ∧ j < b + (n + 1)) := by omega
    simp only [e]
theorem wP_zero (w : Nat → Option PlN) (mig tail j : Nat) : wP w mig tail 0 j = w j := by
  unfold wP
  rw [if_neg (by omega)]
def wOk (w : Nat → Option PlN) : Prop := ∀ j q, w j = some q → validB q.pl = true
theorem wP_ok {w : Nat → Option PlN} (hw : wOk w) {mig tail n : Nat} (hm : 1 ≤ mig ∧ mig ≤ 9) (ht : tail ≤ 1023) (hn : n ≤ 36) : wOk (wP w mig tail n) := fun j q h => by
  unfold wP at h
  split at h
  · rename_i h1
    simp only [Option.some.injEq] at h
    subst h
    exact pF_ok hm ht (by omega)
  · exact hw j q h
attribute [local irreducible] AStep aops AWp Nx awM
set_option maxHeartbeats 0 in
set_option maxRecDepth 100000 in
theorem logFull_c (X : Nat → Prop) (mg tl : Int) :
    ACalls (E0 X) 5 [.int .i64 mg, .int .i64 tl] [] (fun r H' => r = .bool true ∧ H' = []) := by
  obtain ⟨m, hm, hmm⟩ := and_le mg 7 (by decide)
  obtain ⟨tail, ht, htt⟩ := and_le tl 1023 (by decide)
  have hmm : ibits .and .i64 mg 7 = (m : Int) := hmm
  have htt : ibits .and .i64 tl 1023 = (tail : Int) := htt
  have hmw : IntKind.i64.wrap (1 + (m : Int)) = ((m + 1 : Nat) : Int) := wrap_eq (by omega) (by omega) (by omega)
  have hnew : ACalls (E0 X) 19 [.int .i64 80] [] (fun r H' => r = .ptr 0 0 ∧ H' = devH (Dv.fresh lz)) := (new_c X 80).mono fun r H' h => by
    rcases h with ⟨_, _, h1, h2⟩ | ⟨h1, _⟩
    · refine ⟨h1, h2.trans ?_⟩
      unfold lz; rfl
    · exact absurd ⟨by decide, by decide⟩ h1
  have hlv := lz_lv
  have hjn := lz_jn
  generalize Dv.fresh lz = v0 at *
  refine acalls_of Proofs.Tryd.func5 rfl Proofs.Tryd.ntmps5 (by kernel_rfl) rfl ?_
  intro hH hargs
  clear hH hargs
  repeat' (first | ((first | refine Qa rfl ?_ | refine Qc rfl rfl rfl ?_ | apply Qd rfl rfl rfl rfl | (apply Qe rfl rfl rfl rfl; intro H9)); (first | refine Q0 ?_ | refine Q1 ?_ | refine Q2 rfl ?_ | refine Q3 rfl rfl rfl ?_ | refine Q4 rfl rfl rfl rfl rfl ?_ | refine Q5 rfl ?_ | refine Q6 rfl ?_ | refine Q7 rfl rfl rfl ?_ | refine Q8 rfl rfl rfl ?_ | refine Q9 rfl rfl rfl rfl ?_ | refine QA rfl rfl (by decide) ?_ | refine QB rfl rfl (by decide) ?_ | refine QC rfl rfl ?_ | refine QD rfl ?_ | refine QE rfl rfl ?_ | refine QF rfl rfl ?_ | refine QG rfl rfl rfl rfl ?_ | refine QH rfl rfl rfl ?_ | refine QI rfl rfl rfl ?_ | refine QJ rfl rfl ?_ | refine QK rfl ?_ | refine QM rfl rfl rfl rfl rfl ?_ | refine QN ?_ | refine QO ?_ | refine QP rfl rfl rfl rfl rfl rfl ?_ | refine QQ rfl rfl rfl rfl rfl rfl rfl rfl rfl rfl rfl ?_ | refine QR rfl rfl rfl rfl rfl rfl rfl rfl rfl rfl rfl rfl ?_); (first | exact QX rfl rfl ⟨rfl, rfl⟩ | exact QY rfl ⟨rfl, rfl⟩ | exact QZ ⟨rfl, rfl⟩ | refine QX rfl rfl ?_ | refine QZ ?_)) | refine Qa rfl ?_ | (refine Qb rfl ?_; try (refine QS rfl rfl rfl rfl rfl rfl rfl ?_; (first | refine QX rfl rfl ?_ | refine QZ ?_))) | refine Qh ?_ | refine Qi rfl ?_ | refine Qj rfl ?_ | (refine Qf rfl rfl rfl ?_; refine QS rfl rfl rfl rfl rfl rfl rfl ?_; (first | refine QX rfl rfl ?_ | refine QZ ?_)) | apply Qg rfl rfl | refine Qk ?_ | refine Ql ?_ | refine Qm ?_ | refine Qn ?_ | refine Qo rfl ?_ | refine Qp rfl ?_ | refine Qq rfl ?_ | refine Qr ?_ | refine Qs ?_ | refine Qt ?_ | refine Qu ?_ | refine Qv ?_ | refine Qw (by kernel_rfl) ?_ | refine Qx rfl (by kernel_rfl) ?_)
  rw [hmm, htt, hmw]
  generalize hmig : m + 1 = mig at *
  refine st_call (fun _ => rfl) rfl ?_
  refine ACalls.mono (hnew) ?_
  rintro r H' ⟨rfl, rfl⟩
  first | refine nx rfl rfl ?_ | refine nx0 ?_
  repeat' (first | ((first | refine Qa rfl ?_ | refine Qc rfl rfl rfl ?_ | apply Qd rfl rfl rfl rfl | (apply Qe rfl rfl rfl rfl; intro H9)); (first | refine Q0 ?_ | refine Q1 ?_ | refine Q2 rfl ?_ | refine Q3 rfl rfl rfl ?_ | refine Q4 rfl rfl rfl rfl rfl ?_ | refine Q5 rfl ?_ | refine Q6 rfl ?_ | refine Q7 rfl rfl rfl ?_ | refine Q8 rfl rfl rfl ?_ | refine Q9 rfl rfl rfl rfl ?_ | refine QA rfl rfl (by decide) ?_ | refine QB rfl rfl (by decide) ?_ | refine QC rfl rfl ?_ | refine QD rfl ?_ | refine QE rfl rfl ?_ | refine QF rfl rfl ?_ | refine QG rfl rfl rfl rfl ?_ | refine QH rfl rfl rfl ?_ | refine QI rfl rfl rfl ?_ | refine QJ rfl rfl ?_ | refine QK rfl ?_ | refine QM rfl rfl rfl rfl rfl ?_ | refine QN ?_ | refine QO ?_ | refine QP rfl rfl rfl rfl rfl rfl ?_ | refine QQ rfl rfl rfl rfl rfl rfl rfl rfl rfl rfl rfl ?_ | refine QR rfl rfl rfl rfl rfl rfl rfl rfl rfl rfl rfl rfl ?_); (first | exact QX rfl rfl ⟨rfl, rfl⟩ | exact QY rfl ⟨rfl, rfl⟩ | exact QZ ⟨rfl, rfl⟩ | refine QX rfl rfl ?_ | refine QZ ?_)) | refine Qa rfl ?_ | (refine Qb rfl ?_; try (refine QS rfl rfl rfl rfl rfl rfl rfl ?_; (first | refine QX rfl rfl ?_ | refine QZ ?_))) | refine Qh ?_ | refine Qi rfl ?_ | refine Qj rfl ?_ | (refine Qf rfl rfl rfl ?_; refine QS rfl rfl rfl rfl rfl rfl rfl ?_; (first | refine QX rfl rfl ?_ | refine QZ ?_)) | apply Qg rfl rfl | refine Qk ?_ | refine Ql ?_ | refine Qm ?_ | refine Qn ?_ | refine Qo rfl ?_ | refine Qp rfl ?_ | refine Qq rfl ?_ | refine Qr ?_ | refine Qs ?_ | refine Qt ?_ | refine Qu ?_ | refine Qv ?_ | refine Qw (by kernel_rfl) ?_ | refine Qx rfl (by kernel_rfl) ?_)
  refine awp_loop2 (fun p : Nat × Dv => ⟨[(0, .int .i64 (mig : Int)), (1, .int .i64 (tail : Int)), (5, .ptr 0 0), (6, .int .i64 (p.1 : Int))], devH p.2⟩)
    (fun p => p.1 ≤ 36 ∧ Lv 5120 p.2 ∧ Jn p.2 (wP (fun _ => none) mig tail p.1)) (fun p => 36 - p.1) (0, v0) ⟨by omega, hlv, hjn.congr fun j _ => (wP_zero (fun _ => none) mig tail j).symm⟩ ?_ ?_
  · refine imp_cutk 3 (Nat.zero_le _) (hok_dev _) rfl (by simp [devH]) ?_
    repeat' (first | exact fa_nil | refine fa_cons ⟨?_, ?_⟩ ?_)
    all_goals (try first | exact rfl | exact trivial | (simp [IdsLt, IdsLtL]; done) | (simp [get_cons]; done) | (simp [get_cons, *]; done) | (refine congrArg (AV.int .i64) (wrap_eq ?_ ?_ ?_) <;> (first | omega | (simp; omega))))
  rintro ⟨i, v⟩ ⟨hi, hv, hj⟩
  have hi : i ≤ 36 := hi
  have hv : Lv 5120 v := hv
  have hj : Jn v (wP (fun _ => none) mig tail i) := hj
  show AWp _ _ _ _ _ ⟨[(0, .int .i64 (mig : Int)), (1, .int .i64 (tail : Int)), (5, .ptr 0 0), (6, .int .i64 (i : Int))], devH v⟩
  have hw9 : wOk (wP (fun _ => none) mig tail i) := wP_ok (fun j q h => by cases h) (by omega) ht hi
  repeat' (first | ((first | refine Qa rfl ?_ | refine Qc rfl rfl rfl ?_ | apply Qd rfl rfl rfl rfl | (apply Qe rfl rfl rfl rfl; intro H9)); (first | refine Q0 ?_ | refine Q1 ?_ | refine Q2 rfl ?_ | refine Q3 rfl rfl rfl ?_ | refine Q4 rfl rfl rfl rfl rfl ?_ | refine Q5 rfl ?_ | refine Q6 rfl ?_ | refine Q7 rfl rfl rfl ?_ | refine Q8 rfl rfl rfl ?_ | refine Q9 rfl rfl rfl rfl ?_ | refine QA rfl rfl (by decide) ?_ | refine QB rfl rfl (by decide) ?_ | refine QC rfl rfl ?_ | refine QD rfl ?_ | refine QE rfl rfl ?_ | refine QF rfl rfl ?_ | refine QG rfl rfl rfl rfl ?_ | refine QH rfl rfl rfl ?_ | refine QI rfl rfl rfl ?_ | refine QJ rfl rfl ?_ | refine QK rfl ?_ | refine QM rfl rfl rfl rfl rfl ?_ | refine QN ?_ | refine QO ?_ | refine QP rfl rfl rfl rfl rfl rfl ?_ | refine QQ rfl rfl rfl rfl rfl rfl rfl rfl rfl rfl rfl ?_ | refine QR rfl rfl rfl rfl rfl rfl rfl rfl rfl rfl rfl rfl ?_); (first | exact QX rfl rfl ⟨rfl, rfl⟩ | exact QY rfl ⟨rfl, rfl⟩ | exact QZ ⟨rfl, rfl⟩ | refine QX rfl rfl ?_ | refine QZ ?_)) | refine Qa rfl ?_ | (refine Qb rfl ?_; try (refine QS rfl rfl rfl rfl rfl rfl rfl ?_; (first | refine QX rfl rfl ?_ | refine QZ ?_))) | refine Qh ?_ | refine Qi rfl ?_ | refine Qj rfl ?_ | (refine Qf rfl rfl rfl ?_; refine QS rfl rfl rfl rfl rfl rfl rfl ?_; (first | refine QX rfl rfl ?_ | refine QZ ?_)) | apply Qg rfl rfl | refine Qk ?_ | refine Ql ?_ | refine Qm ?_ | refine Qn ?_ | refine Qo rfl ?_ | refine Qp rfl ?_ | refine Qq rfl ?_ | refine Qr ?_ | refine Qs ?_ | refine Qt ?_ | refine Qu ?_ | refine Qv ?_ | refine Qw (by kernel_rfl) ?_ | refine Qx rfl (by kernel_rfl) ?_)
  refine awp_cond_dec rfl (fun h3 => ?_) (fun h3 => ?_)
  · have hi3 : i < 36 := by omega
    have hp := pF_ok (mig := mig) (tail := tail) (i := i) (by omega) ht (by omega)
    have hap := fun R => dev_l (fun X => append_c X v 5120 (by decide) (by decide) hv (pF mig tail i) hp) ⟨plA_ids, trivial⟩ trivial R (X := X)
    have hv2 := hv.app (by decide) (p := pF mig tail i) (show i ≤ 35 by omega)
    have hj2 := (hj.app hv (by decide) (p := pF mig tail i) (show i ≤ 35 by omega)).congr fun j _ => wP_succ _ _ _ _ _
    have ht2 : IntKind.i64.wrap ((tail : Int) + (i : Int)) = ((tail + i : Nat) : Int) := wrap_eq (by omega) (by omega) (by omega)
    have harg : plA (pF mig tail i).pl = .agg [.int .i64 (if i = 0 then 1 else 2), .int .i64 (mig : Int), .int .i64 (i : Int), .int .i64 ((tail + i : Nat) : Int), .int .i64 2, .int .i64 1, .int .i64 4, .int .i64 4] := by
      by_cases h : i = 0
      · subst h; rfl
      · simp [plA, PlN.pl, pF, tgt, h]
    rw [harg] at hap
    generalize v.app (pF mig tail i) = v2 at *
    repeat' (first | ((first | refine Qa rfl ?_ | refine Qc rfl rfl rfl ?_ | apply Qd rfl rfl rfl rfl | (apply Qe rfl rfl rfl rfl; intro H9)); (first | refine Q0 ?_ | refine Q1 ?_ | refine Q2 rfl ?_ | refine Q3 rfl rfl rfl ?_ | refine Q4 rfl rfl rfl rfl rfl ?_ | refine Q5 rfl ?_ | refine Q6 rfl ?_ | refine Q7 rfl rfl rfl ?_ | refine Q8 rfl rfl rfl ?_ | refine Q9 rfl rfl rfl rfl ?_ | refine QA rfl rfl (by decide) ?_ | refine QB rfl rfl (by decide) ?_ | refine QC rfl rfl ?_ | refine QD rfl ?_ | refine QE rfl rfl ?_ | refine QF rfl rfl ?_ | refine QG rfl rfl rfl rfl ?_ | refine QH rfl rfl rfl ?_ | refine QI rfl rfl rfl ?_ | refine QJ rfl rfl ?_ | refine QK rfl ?_ | refine QM rfl rfl rfl rfl rfl ?_ | refine QN ?_ | refine QO ?_ | refine QP rfl rfl rfl rfl rfl rfl ?_ | refine QQ rfl rfl rfl rfl rfl rfl rfl rfl rfl rfl rfl ?_ | refine QR rfl rfl rfl rfl rfl rfl rfl rfl rfl rfl rfl rfl ?_); (first | exact QX rfl rfl ⟨rfl, rfl⟩ | exact QY rfl ⟨rfl, rfl⟩ | exact QZ ⟨rfl, rfl⟩ | refine QX rfl rfl ?_ | refine QZ ?_)) | refine Qa rfl ?_ | (refine Qb rfl ?_; try (refine QS rfl rfl rfl rfl rfl rfl rfl ?_; (first | refine QX rfl rfl ?_ | refine QZ ?_))) | refine Qh ?_ | refine Qi rfl ?_ | refine Qj rfl ?_ | (refine Qf rfl rfl rfl ?_; refine QS rfl rfl rfl rfl rfl rfl rfl ?_; (first | refine QX rfl rfl ?_ | refine QZ ?_)) | apply Qg rfl rfl | refine Qk ?_ | refine Ql ?_ | refine Qm ?_ | refine Qn ?_ | refine Qo rfl ?_ | refine Qp rfl ?_ | refine Qq rfl ?_ | refine Qr ?_ | refine Qs ?_ | refine Qt ?_ | refine Qu ?_ | refine Qv ?_ | refine Qw (by kernel_rfl) ?_ | refine Qx rfl (by kernel_rfl) ?_)
    rw [ht2]
    refine st_call (fun _ => rfl) rfl ?_
    refine ACalls.mono (acalls_pure (E := E0 X) (fun X => target_c X) (by simp [IdsLtL, IdsLt]) _) ?_
    rintro r H' ⟨rfl, rfl⟩
    first | refine nx rfl rfl ?_ | refine nx0 ?_
    repeat' (first | ((first | refine Qa rfl ?_ | refine Qc rfl rfl rfl ?_ | apply Qd rfl rfl rfl rfl | (apply Qe rfl rfl rfl rfl; intro H9)); (first | refine Q0 ?_ | refine Q1 ?_ | refine Q2 rfl ?_ | refine Q3 rfl rfl rfl ?_ | refine Q4 rfl rfl rfl rfl rfl ?_ | refine Q5 rfl ?_ | refine Q6 rfl ?_ | refine Q7 rfl rfl rfl ?_ | refine Q8 rfl rfl rfl ?_ | refine Q9 rfl rfl rfl rfl ?_ | refine QA rfl rfl (by decide) ?_ | refine QB rfl rfl (by decide) ?_ | refine QC rfl rfl ?_ | refine QD rfl ?_ | refine QE rfl rfl ?_ | refine QF rfl rfl ?_ | refine QG rfl rfl rfl rfl ?_ | refine QH rfl rfl rfl ?_ | refine QI rfl rfl rfl ?_ | refine QJ rfl rfl ?_ | refine QK rfl ?_ | refine QM rfl rfl rfl rfl rfl ?_ | refine QN ?_ | refine QO ?_ | refine QP rfl rfl rfl rfl rfl rfl ?_ | refine QQ rfl rfl rfl rfl rfl rfl rfl rfl rfl rfl rfl ?_ | refine QR rfl rfl rfl rfl rfl rfl rfl rfl rfl rfl rfl rfl ?_); (first | exact QX rfl rfl ⟨rfl, rfl⟩ | exact QY rfl ⟨rfl, rfl⟩ | exact QZ ⟨rfl, rfl⟩ | refine QX rfl rfl ?_ | refine QZ ?_)) | refine Qa rfl ?_ | (refine Qb rfl ?_; try (refine QS rfl rfl rfl rfl rfl rfl rfl ?_; (first | refine QX rfl rfl ?_ | refine QZ ?_))) | refine Qh ?_ | refine Qi rfl ?_ | refine Qj rfl ?_ | (refine Qf rfl rfl rfl ?_; refine QS rfl rfl rfl rfl rfl rfl rfl ?_; (first | refine QX rfl rfl ?_ | refine QZ ?_)) | apply Qg rfl rfl | refine Qk ?_ | refine Ql ?_ | refine Qm ?_ | refine Qn ?_ | refine Qo rfl ?_ | refine Qp rfl ?_ | refine Qq rfl ?_ | refine Qr ?_ | refine Qs ?_ | refine Qt ?_ | refine Qu ?_ | refine Qv ?_ | refine Qw (by kernel_rfl) ?_ | refine Qx rfl (by kernel_rfl) ?_)
    refine awp_cond_dec rfl (fun h4 => ?_) (fun h4 => ?_)
    · have h5 : i = 0 := by omega
      rw [if_pos h5] at hap
      repeat' (first | ((first | refine Qa rfl ?_ | refine Qc rfl rfl rfl ?_ | apply Qd rfl rfl rfl rfl | (apply Qe rfl rfl rfl rfl; intro H9)); (first | refine Q0 ?_ | refine Q1 ?_ | refine Q2 rfl ?_ | refine Q3 rfl rfl rfl ?_ | refine Q4 rfl rfl rfl rfl rfl ?_ | refine Q5 rfl ?_ | refine Q6 rfl ?_ | refine Q7 rfl rfl rfl ?_ | refine Q8 rfl rfl rfl ?_ | refine Q9 rfl rfl rfl rfl ?_ | refine QA rfl rfl (by decide) ?_ | refine QB rfl rfl (by decide) ?_ | refine QC rfl rfl ?_ | refine QD rfl ?_ | refine QE rfl rfl ?_ | refine QF rfl rfl ?_ | refine QG rfl rfl rfl rfl ?_ | refine QH rfl rfl rfl ?_ | refine QI rfl rfl rfl ?_ | refine QJ rfl rfl ?_ | refine QK rfl ?_ | refine QM rfl rfl rfl rfl rfl ?_ | refine QN ?_ | refine QO ?_ | refine QP rfl rfl rfl rfl rfl rfl ?_ | refine QQ rfl rfl rfl rfl rfl rfl rfl rfl rfl rfl rfl ?_ | refine QR rfl rfl rfl rfl rfl rfl rfl rfl rfl rfl rfl rfl ?_); (first | exact QX rfl rfl ⟨rfl, rfl⟩ | exact QY rfl ⟨rfl, rfl⟩ | exact QZ ⟨rfl, rfl⟩ | refine QX rfl rfl ?_ | refine QZ ?_)) | refine Qa rfl ?_ | (refine Qb rfl ?_; try (refine QS rfl rfl rfl rfl rfl rfl rfl ?_; (first | refine QX rfl rfl ?_ | refine QZ ?_))) | refine Qh ?_ | refine Qi rfl ?_ | refine Qj rfl ?_ | (refine Qf rfl rfl rfl ?_; refine QS rfl rfl rfl rfl rfl rfl rfl ?_; (first | refine QX rfl rfl ?_ | refine QZ ?_)) | apply Qg rfl rfl | refine Qk ?_ | refine Ql ?_ | refine Qm ?_ | refine Qn ?_ | refine Qo rfl ?_ | refine Qp rfl ?_ | refine Qq rfl ?_ | refine Qr ?_ | refine Qs ?_ | refine Qt ?_ | refine Qu ?_ | refine Qv ?_ | refine Qw (by kernel_rfl) ?_ | refine Qx rfl (by kernel_rfl) ?_)
      refine st_call (fun _ => rfl) rfl ?_
      refine ACalls.mono (hap _) ?_
      rintro r H' ⟨rfl, rfl⟩
      first | refine nx rfl rfl ?_ | refine nx0 ?_
      repeat' (first | ((first | refine Qa rfl ?_ | refine Qc rfl rfl rfl ?_ | apply Qd rfl rfl rfl rfl | (apply Qe rfl rfl rfl rfl; intro H9)); (first | refine Q0 ?_ | refine Q1 ?_ | refine Q2 rfl ?_ | refine Q3 rfl rfl rfl ?_ | refine Q4 rfl rfl rfl rfl rfl ?_ | refine Q5 rfl ?_ | refine Q6 rfl ?_ | refine Q7 rfl rfl rfl ?_ | refine Q8 rfl rfl rfl ?_ | refine Q9 rfl rfl rfl rfl ?_ | refine QA rfl rfl (by decide) ?_ | refine QB rfl rfl (by decide) ?_ | refine QC rfl rfl ?_ | refine QD rfl ?_ | refine QE rfl rfl ?_ | refine QF rfl rfl ?_ | refine QG rfl rfl rfl rfl ?_ | refine QH rfl rfl rfl ?_ | refine QI rfl rfl rfl ?_ | refine QJ rfl rfl ?_ | refine QK rfl ?_ | refine QM rfl rfl rfl rfl rfl ?_ | refine QN ?_ | refine QO ?_ | refine QP rfl rfl rfl rfl rfl rfl ?_ | refine QQ rfl rfl rfl rfl rfl rfl rfl rfl rfl rfl rfl ?_ | refine QR rfl rfl rfl rfl rfl rfl rfl rfl rfl rfl rfl rfl ?_); (first | exact QX rfl rfl ⟨rfl, rfl⟩ | exact QY rfl ⟨rfl, rfl⟩ | exact QZ ⟨rfl, rfl⟩ | refine QX rfl rfl ?_ | refine QZ ?_)) | refine Qa rfl ?_ | (refine Qb rfl ?_; try (refine QS rfl rfl rfl rfl rfl rfl rfl ?_; (first | refine QX rfl rfl ?_ | refine QZ ?_))) | refine Qh ?_ | refine Qi rfl ?_ | refine Qj rfl ?_ | (refine Qf rfl rfl rfl ?_; refine QS rfl rfl rfl rfl rfl rfl rfl ?_; (first | refine QX rfl rfl ?_ | refine QZ ?_)) | apply Qg rfl rfl | refine Qk ?_ | refine Ql ?_ | refine Qm ?_ | refine Qn ?_ | refine Qo rfl ?_ | refine Qp rfl ?_ | refine Qq rfl ?_ | refine Qr ?_ | refine Qs ?_ | refine Qt ?_ | refine Qu ?_ | refine Qv ?_ | refine Qw (by kernel_rfl) ?_ | refine Qx rfl (by kernel_rfl) ?_)
      refine ⟨(i + 1, v2), ⟨by show i + 1 ≤ 36; omega, hv2, hj2⟩, by show 36 - (i + 1) < 36 - i; omega, imp_cutk 3 (Nat.zero_le _) (hok_dev _) rfl (by simp [devH]) ?_⟩
      repeat' (first | exact fa_nil | refine fa_cons ⟨?_, ?_⟩ ?_)
      all_goals (try first | exact rfl | exact trivial | (simp [IdsLt, IdsLtL]; done) | (simp [get_cons]; done) | (simp [get_cons, *]; done) | (refine congrArg (AV.int .i64) (wrap_eq ?_ ?_ ?_) <;> (first | omega | (simp; omega))))
    · have h5 : ¬ i = 0 := by omega
      rw [if_neg h5] at hap
      repeat' (first | ((first | refine Qa rfl ?_ | refine Qc rfl rfl rfl ?_ | apply Qd rfl rfl rfl rfl | (apply Qe rfl rfl rfl rfl; intro H9)); (first | refine Q0 ?_ | refine Q1 ?_ | refine Q2 rfl ?_ | refine Q3 rfl rfl rfl ?_ | refine Q4 rfl rfl rfl rfl rfl ?_ | refine Q5 rfl ?_ | refine Q6 rfl ?_ | refine Q7 rfl rfl rfl ?_ | refine Q8 rfl rfl rfl ?_ | refine Q9 rfl rfl rfl rfl ?_ | refine QA rfl rfl (by decide) ?_ | refine QB rfl rfl (by decide) ?_ | refine QC rfl rfl ?_ | refine QD rfl ?_ | refine QE rfl rfl ?_ | refine QF rfl rfl ?_ | refine QG rfl rfl rfl rfl ?_ | refine QH rfl rfl rfl ?_ | refine QI rfl rfl rfl ?_ | refine QJ rfl rfl ?_ | refine QK rfl ?_ | refine QM rfl rfl rfl rfl rfl ?_ | refine QN ?_ | refine QO ?_ | refine QP rfl rfl rfl rfl rfl rfl ?_ | refine QQ rfl rfl rfl rfl rfl rfl rfl rfl rfl rfl rfl ?_ | refine QR rfl rfl rfl rfl rfl rfl rfl rfl rfl rfl rfl rfl ?_); (first | exact QX rfl rfl ⟨rfl, rfl⟩ | exact QY rfl ⟨rfl, rfl⟩ | exact QZ ⟨rfl, rfl⟩ | refine QX rfl rfl ?_ | refine QZ ?_)) | refine Qa rfl ?_ | (refine Qb rfl ?_; try (refine QS rfl rfl rfl rfl rfl rfl rfl ?_; (first | refine QX rfl rfl ?_ | refine QZ ?_))) | refine Qh ?_ | refine Qi rfl ?_ | refine Qj rfl ?_ | (refine Qf rfl rfl rfl ?_; refine QS rfl rfl rfl rfl rfl rfl rfl ?_; (first | refine QX rfl rfl ?_ | refine QZ ?_)) | apply Qg rfl rfl | refine Qk ?_ | refine Ql ?_ | refine Qm ?_ | refine Qn ?_ | refine Qo rfl ?_ | refine Qp rfl ?_ | refine Qq rfl ?_ | refine Qr ?_ | refine Qs ?_ | refine Qt ?_ | refine Qu ?_ | refine Qv ?_ | refine Qw (by kernel_rfl) ?_ | refine Qx rfl (by kernel_rfl) ?_)
      refine st_call (fun _ => rfl) rfl ?_
      refine ACalls.mono (hap _) ?_
      rintro r H' ⟨rfl, rfl⟩
      first | refine nx rfl rfl ?_ | refine nx0 ?_
      repeat' (first | ((first | refine Qa rfl ?_ | refine Qc rfl rfl rfl ?_ | apply Qd rfl rfl rfl rfl | (apply Qe rfl rfl rfl rfl; intro H9)); (first | refine Q0 ?_ | refine Q1 ?_ | refine Q2 rfl ?_ | refine Q3 rfl rfl rfl ?_ | refine Q4 rfl rfl rfl rfl rfl ?_ | refine Q5 rfl ?_ | refine Q6 rfl ?_ | refine Q7 rfl rfl rfl ?_ | refine Q8 rfl rfl rfl ?_ | refine Q9 rfl rfl rfl rfl ?_ | refine QA rfl rfl (by decide) ?_ | refine QB rfl rfl (by decide) ?_ | refine QC rfl rfl ?_ | refine QD rfl ?_ | refine QE rfl rfl ?_ | refine QF rfl rfl ?_ | refine QG rfl rfl rfl rfl ?_ | refine QH rfl rfl rfl ?_ | refine QI rfl rfl rfl ?_ | refine QJ rfl rfl ?_ | refine QK rfl ?_ | refine QM rfl rfl rfl rfl rfl ?_ | refine QN ?_ | refine QO ?_ | refine QP rfl rfl rfl rfl rfl rfl ?_ | refine QQ rfl rfl rfl rfl rfl rfl rfl rfl rfl rfl rfl ?_ | refine QR rfl rfl rfl rfl rfl rfl rfl rfl rfl rfl rfl rfl ?_); (first | exact QX rfl rfl ⟨rfl, rfl⟩ | exact QY rfl ⟨rfl, rfl⟩ | exact QZ ⟨rfl, rfl⟩ | refine QX rfl rfl ?_ | refine QZ ?_)) | refine Qa rfl ?_ | (refine Qb rfl ?_; try (refine QS rfl rfl rfl rfl rfl rfl rfl ?_; (first | refine QX rfl rfl ?_ | refine QZ ?_))) | refine Qh ?_ | refine Qi rfl ?_ | refine Qj rfl ?_ | (refine Qf rfl rfl rfl ?_; refine QS rfl rfl rfl rfl rfl rfl rfl ?_; (first | refine QX rfl rfl ?_ | refine QZ ?_)) | apply Qg rfl rfl | refine Qk ?_ | refine Ql ?_ | refine Qm ?_ | refine Qn ?_ | refine Qo rfl ?_ | refine Qp rfl ?_ | refine Qq rfl ?_ | refine Qr ?_ | refine Qs ?_ | refine Qt ?_ | refine Qu ?_ | refine Qv ?_ | refine Qw (by kernel_rfl) ?_ | refine Qx rfl (by kernel_rfl) ?_)
      refine ⟨(i + 1, v2), ⟨by show i + 1 ≤ 36; omega, hv2, hj2⟩, by show 36 - (i + 1) < 36 - i; omega, imp_cutk 3 (Nat.zero_le _) (hok_dev _) rfl (by simp [devH]) ?_⟩
      repeat' (first | exact fa_nil | refine fa_cons ⟨?_, ?_⟩ ?_)
      all_goals (try first | exact rfl | exact trivial | (simp [IdsLt, IdsLtL]; done) | (simp [get_cons]; done) | (simp [get_cons, *]; done) | (refine congrArg (AV.int .i64) (wrap_eq ?_ ?_ ?_) <;> (first | omega | (simp; omega))))
  · have hi3 : i = 36 := by omega
    subst hi3
    have hrl : repl v (mig : Int) = (List.range 36).map fun i => (pF mig tail i).pl := by
      refine repl_of (n := 36) (by decide) (fun i => (pF mig tail i).pl) (fun i hi => ?_) (fun h => absurd h (by decide))
      rw [rep_at hj hv (by decide) (by omega) hi hw9]
      have e : wP (fun _ => none) mig tail 36 (2 + (mig + 1) % 2 * 36 + i) = some (pF mig tail i) := by
        unfold wP
        rw [if_pos (by omega)]
        congr 2
        omega
      rw [e]
      exact if_pos ⟨rfl, rfl⟩
    have hre := replay_c X v hv.inv (mig : Int) (by omega)
    rw [hrl] at hre
    have hll : ((List.range 36).map fun i => (pF mig tail i).pl).length = 36 := by simp
    have hget : ∀ i, i < 36 → ((List.range 36).map fun i => (pF mig tail i).pl)[i]? = some (pF mig tail i).pl := fun i hi => by simp [hi]
    generalize (List.range 36).map (fun i => (pF mig tail i).pl) = ls at *
    repeat' (first | ((first | refine Qa rfl ?_ | refine Qc rfl rfl rfl ?_ | apply Qd rfl rfl rfl rfl | (apply Qe rfl rfl rfl rfl; intro H9)); (first | refine Q0 ?_ | refine Q1 ?_ | refine Q2 rfl ?_ | refine Q3 rfl rfl rfl ?_ | refine Q4 rfl rfl rfl rfl rfl ?_ | refine Q5 rfl ?_ | refine Q6 rfl ?_ | refine Q7 rfl rfl rfl ?_ | refine Q8 rfl rfl rfl ?_ | refine Q9 rfl rfl rfl rfl ?_ | refine QA rfl rfl (by decide) ?_ | refine QB rfl rfl (by decide) ?_ | refine QC rfl rfl ?_ | refine QD rfl ?_ | refine QE rfl rfl ?_ | refine QF rfl rfl ?_ | refine QG rfl rfl rfl rfl ?_ | refine QH rfl rfl rfl ?_ | refine QI rfl rfl rfl ?_ | refine QJ rfl rfl ?_ | refine QK rfl ?_ | refine QM rfl rfl rfl rfl rfl ?_ | refine QN ?_ | refine QO ?_ | refine QP rfl rfl rfl rfl rfl rfl ?_ | refine QQ rfl rfl rfl rfl rfl rfl rfl rfl rfl rfl rfl ?_ | refine QR rfl rfl rfl rfl rfl rfl rfl rfl rfl rfl rfl rfl ?_); (first | exact QX rfl rfl ⟨rfl, rfl⟩ | exact QY rfl ⟨rfl, rfl⟩ | exact QZ ⟨rfl, rfl⟩ | refine QX rfl rfl ?_ | refine QZ ?_)) | refine Qa rfl ?_ | (refine Qb rfl ?_; try (refine QS rfl rfl rfl rfl rfl rfl rfl ?_; (first | refine QX rfl rfl ?_ | refine QZ ?_))) | refine Qh ?_ | refine Qi rfl ?_ | refine Qj rfl ?_ | (refine Qf rfl rfl rfl ?_; refine QS rfl rfl rfl rfl rfl rfl rfl ?_; (first | refine QX rfl rfl ?_ | refine QZ ?_)) | apply Qg rfl rfl | refine Qk ?_ | refine Ql ?_ | refine Qm ?_ | refine Qn ?_ | refine Qo rfl ?_ | refine Qp rfl ?_ | refine Qq rfl ?_ | refine Qr ?_ | refine Qs ?_ | refine Qt ?_ | refine Qu ?_ | refine Qv ?_ | refine Qw (by kernel_rfl) ?_ | refine Qx rfl (by kernel_rfl) ?_)
    refine st_call (fun _ => rfl) rfl ?_
    refine ACalls.mono (hre) ?_
    rintro r H' ⟨rfl, rfl⟩
    first | refine nx rfl rfl ?_ | refine nx0 ?_
    have hlm : (ls.map plA).length = 36 := by rw [List.length_map, hll]
    repeat' (first | ((first | refine Qa rfl ?_ | refine Qc rfl rfl rfl ?_ | apply Qd rfl rfl rfl rfl | (apply Qe rfl rfl rfl rfl; intro H9)); (first | refine Q0 ?_ | refine Q1 ?_ | refine Q2 rfl ?_ | refine Q3 rfl rfl rfl ?_ | refine Q4 rfl rfl rfl rfl rfl ?_ | refine Q5 rfl ?_ | refine Q6 rfl ?_ | refine Q7 rfl rfl rfl ?_ | refine Q8 rfl rfl rfl ?_ | refine Q9 rfl rfl rfl rfl ?_ | refine QA rfl rfl (by decide) ?_ | refine QB rfl rfl (by decide) ?_ | refine QC rfl rfl ?_ | refine QD rfl ?_ | refine QE rfl rfl ?_ | refine QF rfl rfl ?_ | refine QG rfl rfl rfl rfl ?_ | refine QH rfl rfl rfl ?_ | refine QI rfl rfl rfl ?_ | refine QJ rfl rfl ?_ | refine QK rfl ?_ | refine QM rfl rfl rfl rfl rfl ?_ | refine QN ?_ | refine QO ?_ | refine QP rfl rfl rfl rfl rfl rfl ?_ | refine QQ rfl rfl rfl rfl rfl rfl rfl rfl rfl rfl rfl ?_ | refine QR rfl rfl rfl rfl rfl rfl rfl rfl rfl rfl rfl rfl ?_); (first | exact QX rfl rfl ⟨rfl, rfl⟩ | exact QY rfl ⟨rfl, rfl⟩ | exact QZ ⟨rfl, rfl⟩ | refine QX rfl rfl ?_ | refine QZ ?_)) | refine Qa rfl ?_ | (refine Qb rfl ?_; try (refine QS rfl rfl rfl rfl rfl rfl rfl ?_; (first | refine QX rfl rfl ?_ | refine QZ ?_))) | refine Qh ?_ | refine Qi rfl ?_ | refine Qj rfl ?_ | (refine Qf rfl rfl rfl ?_; refine QS rfl rfl rfl rfl rfl rfl rfl ?_; (first | refine QX rfl rfl ?_ | refine QZ ?_)) | apply Qg rfl rfl | refine Qk ?_ | refine Ql ?_ | refine Qm ?_ | refine Qn ?_ | refine Qo rfl ?_ | refine Qp rfl ?_ | refine Qq rfl ?_ | refine Qr ?_ | refine Qs ?_ | refine Qt ?_ | refine Qu ?_ | refine Qv ?_ | refine Qw (by kernel_rfl) ?_ | refine Qx rfl (by kernel_rfl) ?_)
    rw [hlm]
    refine awp_loop2 (fun i : Nat => ⟨[(0, .int .i64 (mig : Int)), (1, .int .i64 (tail : Int)), (5, .ptr 0 0), (8, .sl 8 (ls.map plA)), (38, .int .i64 36), (39, .int .i64 (i : Int))], devH v⟩) (fun i => i ≤ 36) (fun i => 36 - i) 0 (Nat.zero_le _) ?_ ?_
    · refine imp_cutk 3 (Nat.zero_le _) (hok_dev _) rfl (by simp [devH]) ?_
      repeat' (first | exact fa_nil | refine fa_cons ⟨?_, ?_⟩ ?_)
      all_goals (try first | exact rfl | exact trivial | (simp [IdsLt, IdsLtL]; done) | (simp [get_cons]; done) | (simp [get_cons, *]; done) | (refine congrArg (AV.int .i64) (wrap_eq ?_ ?_ ?_) <;> (first | omega | (simp; omega))))
    rintro i hi
    repeat' (first | ((first | refine Qa rfl ?_ | refine Qc rfl rfl rfl ?_ | apply Qd rfl rfl rfl rfl | (apply Qe rfl rfl rfl rfl; intro H9)); (first | refine Q0 ?_ | refine Q1 ?_ | refine Q2 rfl ?_ | refine Q3 rfl rfl rfl ?_ | refine Q4 rfl rfl rfl rfl rfl ?_ | refine Q5 rfl ?_ | refine Q6 rfl ?_ | refine Q7 rfl rfl rfl ?_ | refine Q8 rfl rfl rfl ?_ | refine Q9 rfl rfl rfl rfl ?_ | refine QA rfl rfl (by decide) ?_ | refine QB rfl rfl (by decide) ?_ | refine QC rfl rfl ?_ | refine QD rfl ?_ | refine QE rfl rfl ?_ | refine QF rfl rfl ?_ | refine QG rfl rfl rfl rfl ?_ | refine QH rfl rfl rfl ?_ | refine QI rfl rfl rfl ?_ | refine QJ rfl rfl ?_ | refine QK rfl ?_ | refine QM rfl rfl rfl rfl rfl ?_ | refine QN ?_ | refine QO ?_ | refine QP rfl rfl rfl rfl rfl rfl ?_ | refine QQ rfl rfl rfl rfl rfl rfl rfl rfl rfl rfl rfl ?_ | refine QR rfl rfl rfl rfl rfl rfl rfl rfl rfl rfl rfl rfl ?_); (first | exact QX rfl rfl ⟨rfl, rfl⟩ | exact QY rfl ⟨rfl, rfl⟩ | exact QZ ⟨rfl, rfl⟩ | refine QX rfl rfl ?_ | refine QZ ?_)) | refine Qa rfl ?_ | (refine Qb rfl ?_; try (refine QS rfl rfl rfl rfl rfl rfl rfl ?_; (first | refine QX rfl rfl ?_ | refine QZ ?_))) | refine Qh ?_ | refine Qi rfl ?_ | refine Qj rfl ?_ | (refine Qf rfl rfl rfl ?_; refine QS rfl rfl rfl rfl rfl rfl rfl ?_; (first | refine QX rfl rfl ?_ | refine QZ ?_)) | apply Qg rfl rfl | refine Qk ?_ | refine Ql ?_ | refine Qm ?_ | refine Qn ?_ | refine Qo rfl ?_ | refine Qp rfl ?_ | refine Qq rfl ?_ | refine Qr ?_ | refine Qs ?_ | refine Qt ?_ | refine Qu ?_ | refine Qv ?_ | refine Qw (by kernel_rfl) ?_ | refine Qx rfl (by kernel_rfl) ?_)
    refine awp_cond_dec rfl (fun h4 => ?_) (fun h4 => ?_)
    · have hi4 : i < 36 := by omega
      have hq := hget i hi4
      have ht2 : IntKind.i64.wrap ((tail : Int) + (i : Int)) = ((tail + i : Nat) : Int) := wrap_eq (by omega) (by omega) (by omega)
      repeat' (first | ((first | refine Qa rfl ?_ | refine Qc rfl rfl rfl ?_ | apply Qd rfl rfl rfl rfl | (apply Qe rfl rfl rfl rfl; intro H9)); (first | refine Q0 ?_ | refine Q1 ?_ | refine Q2 rfl ?_ | refine Q3 rfl rfl rfl ?_ | refine Q4 rfl rfl rfl rfl rfl ?_ | refine Q5 rfl ?_ | refine Q6 rfl ?_ | refine Q7 rfl rfl rfl ?_ | refine Q8 rfl rfl rfl ?_ | refine Q9 rfl rfl rfl rfl ?_ | refine QA rfl rfl (by decide) ?_ | refine QB rfl rfl (by decide) ?_ | refine QC rfl rfl ?_ | refine QD rfl ?_ | refine QE rfl rfl ?_ | refine QF rfl rfl ?_ | refine QG rfl rfl rfl rfl ?_ | refine QH rfl rfl rfl ?_ | refine QI rfl rfl rfl ?_ | refine QJ rfl rfl ?_ | refine QK rfl ?_ | refine QM rfl rfl rfl rfl rfl ?_ | refine QN ?_ | refine QO ?_ | refine QP rfl rfl rfl rfl rfl rfl ?_ | refine QQ rfl rfl rfl rfl rfl rfl rfl rfl rfl rfl rfl ?_ | refine QR rfl rfl rfl rfl rfl rfl rfl rfl rfl rfl rfl rfl ?_); (first | exact QX rfl rfl ⟨rfl, rfl⟩ | exact QY rfl ⟨rfl, rfl⟩ | exact QZ ⟨rfl, rfl⟩ | refine QX rfl rfl ?_ | refine QZ ?_)) | refine Qa rfl ?_ | (refine Qb rfl ?_; try (refine QS rfl rfl rfl rfl rfl rfl rfl ?_; (first | refine QX rfl rfl ?_ | refine QZ ?_))) | refine Qh ?_ | refine Qi rfl ?_ | refine Qj rfl ?_ | (refine Qf rfl rfl rfl ?_; refine QS rfl rfl rfl rfl rfl rfl rfl ?_; (first | refine QX rfl rfl ?_ | refine QZ ?_)) | apply Qg rfl rfl | refine Qk ?_ | refine Ql ?_ | refine Qm ?_ | refine Qn ?_ | refine Qo rfl ?_ | refine Qp rfl ?_ | refine Qq rfl ?_ | refine Qr ?_ | refine Qs ?_ | refine Qt ?_ | refine Qu ?_ | refine Qv ?_ | refine Qw (by kernel_rfl) ?_ | refine Qx rfl (by kernel_rfl) ?_)
      refine st_ixm hq rfl rfl rfl rfl rfl rfl rfl (by first | rfl | omega) rfl ?_
      first | refine nx rfl rfl ?_ | refine nx0 ?_
      repeat' (first | ((first | refine Qa rfl ?_ | refine Qc rfl rfl rfl ?_ | apply Qd rfl rfl rfl rfl | (apply Qe rfl rfl rfl rfl; intro H9)); (first | refine Q0 ?_ | refine Q1 ?_ | refine Q2 rfl ?_ | refine Q3 rfl rfl rfl ?_ | refine Q4 rfl rfl rfl rfl rfl ?_ | refine Q5 rfl ?_ | refine Q6 rfl ?_ | refine Q7 rfl rfl rfl ?_ | refine Q8 rfl rfl rfl ?_ | refine Q9 rfl rfl rfl rfl ?_ | refine QA rfl rfl (by decide) ?_ | refine QB rfl rfl (by decide) ?_ | refine QC rfl rfl ?_ | refine QD rfl ?_ | refine QE rfl rfl ?_ | refine QF rfl rfl ?_ | refine QG rfl rfl rfl rfl ?_ | refine QH rfl rfl rfl ?_ | refine QI rfl rfl rfl ?_ | refine QJ rfl rfl ?_ | refine QK rfl ?_ | refine QM rfl rfl rfl rfl rfl ?_ | refine QN ?_ | refine QO ?_ | refine QP rfl rfl rfl rfl rfl rfl ?_ | refine QQ rfl rfl rfl rfl rfl rfl rfl rfl rfl rfl rfl ?_ | refine QR rfl rfl rfl rfl rfl rfl rfl rfl rfl rfl rfl rfl ?_); (first | exact QX rfl rfl ⟨rfl, rfl⟩ | exact QY rfl ⟨rfl, rfl⟩ | exact QZ ⟨rfl, rfl⟩ | refine QX rfl rfl ?_ | refine QZ ?_)) | refine Qa rfl ?_ | (refine Qb rfl ?_; try (refine QS rfl rfl rfl rfl rfl rfl rfl ?_; (first | refine QX rfl rfl ?_ | refine QZ ?_))) | refine Qh ?_ | refine Qi rfl ?_ | refine Qj rfl ?_ | (refine Qf rfl rfl rfl ?_; refine QS rfl rfl rfl rfl rfl rfl rfl ?_; (first | refine QX rfl rfl ?_ | refine QZ ?_)) | apply Qg rfl rfl | refine Qk ?_ | refine Ql ?_ | refine Qm ?_ | refine Qn ?_ | refine Qo rfl ?_ | refine Qp rfl ?_ | refine Qq rfl ?_ | refine Qr ?_ | refine Qs ?_ | refine Qt ?_ | refine Qu ?_ | refine Qv ?_ | refine Qw (by kernel_rfl) ?_ | refine Qx rfl (by kernel_rfl) ?_ | ((fail_if_success refine QV rfl ?_); first | refine Qy rfl rfl (fun _ => ?_) (fun _ => ?_) | refine Qz rfl rfl (fun _ => ?_) (fun _ => ?_)) | ((fail_if_success refine QW rfl rfl ?_); first | refine QT rfl rfl rfl (fun _ => ?_) (fun _ => ?_) | refine QU rfl rfl rfl (fun _ => ?_) (fun _ => ?_)))
      · rename_i h5
        exact absurd rfl h5
      refine st_ixm hq rfl rfl rfl rfl rfl rfl rfl (by first | rfl | omega) rfl ?_
      first | refine nx rfl rfl ?_ | refine nx0 ?_
      repeat' (first | ((first | refine Qa rfl ?_ | refine Qc rfl rfl rfl ?_ | apply Qd rfl rfl rfl rfl | (apply Qe rfl rfl rfl rfl; intro H9)); (first | refine Q0 ?_ | refine Q1 ?_ | refine Q2 rfl ?_ | refine Q3 rfl rfl rfl ?_ | refine Q4 rfl rfl rfl rfl rfl ?_ | refine Q5 rfl ?_ | refine Q6 rfl ?_ | refine Q7 rfl rfl rfl ?_ | refine Q8 rfl rfl rfl ?_ | refine Q9 rfl rfl rfl rfl ?_ | refine QA rfl rfl (by decide) ?_ | refine QB rfl rfl (by decide) ?_ | refine QC rfl rfl ?_ | refine QD rfl ?_ | refine QE rfl rfl ?_ | refine QF rfl rfl ?_ | refine QG rfl rfl rfl rfl ?_ | refine QH rfl rfl rfl ?_ | refine QI rfl rfl rfl ?_ | refine QJ rfl rfl ?_ | refine QK rfl ?_ | refine QM rfl rfl rfl rfl rfl ?_ | refine QN ?_ | refine QO ?_ | refine QP rfl rfl rfl rfl rfl rfl ?_ | refine QQ rfl rfl rfl rfl rfl rfl rfl rfl rfl rfl rfl ?_ | refine QR rfl rfl rfl rfl rfl rfl rfl rfl rfl rfl rfl rfl ?_); (first | exact QX rfl rfl ⟨rfl, rfl⟩ | exact QY rfl ⟨rfl, rfl⟩ | exact QZ ⟨rfl, rfl⟩ | refine QX rfl rfl ?_ | refine QZ ?_)) | refine Qa rfl ?_ | (refine Qb rfl ?_; try (refine QS rfl rfl rfl rfl rfl rfl rfl ?_; (first | refine QX rfl rfl ?_ | refine QZ ?_))) | refine Qh ?_ | refine Qi rfl ?_ | refine Qj rfl ?_ | (refine Qf rfl rfl rfl ?_; refine QS rfl rfl rfl rfl rfl rfl rfl ?_; (first | refine QX rfl rfl ?_ | refine QZ ?_)) | apply Qg rfl rfl | refine Qk ?_ | refine Ql ?_ | refine Qm ?_ | refine Qn ?_ | refine Qo rfl ?_ | refine Qp rfl ?_ | refine Qq rfl ?_ | refine Qr ?_ | refine Qs ?_ | refine Qt ?_ | refine Qu ?_ | refine Qv ?_ | refine Qw (by kernel_rfl) ?_ | refine Qx rfl (by kernel_rfl) ?_)
      rw [ht2]
      refine awp_cond rfl (fun h9 => absurd h9 (by simp [PlN.pl, pF])) (fun _ => ?_)
      repeat' (first | ((first | refine Qa rfl ?_ | refine Qc rfl rfl rfl ?_ | apply Qd rfl rfl rfl rfl | (apply Qe rfl rfl rfl rfl; intro H9)); (first | refine Q0 ?_ | refine Q1 ?_ | refine Q2 rfl ?_ | refine Q3 rfl rfl rfl ?_ | refine Q4 rfl rfl rfl rfl rfl ?_ | refine Q5 rfl ?_ | refine Q6 rfl ?_ | refine Q7 rfl rfl rfl ?_ | refine Q8 rfl rfl rfl ?_ | refine Q9 rfl rfl rfl rfl ?_ | refine QA rfl rfl (by decide) ?_ | refine QB rfl rfl (by decide) ?_ | refine QC rfl rfl ?_ | refine QD rfl ?_ | refine QE rfl rfl ?_ | refine QF rfl rfl ?_ | refine QG rfl rfl rfl rfl ?_ | refine QH rfl rfl rfl ?_ | refine QI rfl rfl rfl ?_ | refine QJ rfl rfl ?_ | refine QK rfl ?_ | refine QM rfl rfl rfl rfl rfl ?_ | refine QN ?_ | refine QO ?_ | refine QP rfl rfl rfl rfl rfl rfl ?_ | refine QQ rfl rfl rfl rfl rfl rfl rfl rfl rfl rfl rfl ?_ | refine QR rfl rfl rfl rfl rfl rfl rfl rfl rfl rfl rfl rfl ?_); (first | exact QX rfl rfl ⟨rfl, rfl⟩ | exact QY rfl ⟨rfl, rfl⟩ | exact QZ ⟨rfl, rfl⟩ | refine QX rfl rfl ?_ | refine QZ ?_)) | refine Qa rfl ?_ | (refine Qb rfl ?_; try (refine QS rfl rfl rfl rfl rfl rfl rfl ?_; (first | refine QX rfl rfl ?_ | refine QZ ?_))) | refine Qh ?_ | refine Qi rfl ?_ | refine Qj rfl ?_ | (refine Qf rfl rfl rfl ?_; refine QS rfl rfl rfl rfl rfl rfl rfl ?_; (first | refine QX rfl rfl ?_ | refine QZ ?_)) | apply Qg rfl rfl | refine Qk ?_ | refine Ql ?_ | refine Qm ?_ | refine Qn ?_ | refine Qo rfl ?_ | refine Qp rfl ?_ | refine Qq rfl ?_ | refine Qr ?_ | refine Qs ?_ | refine Qt ?_ | refine Qu ?_ | refine Qv ?_ | refine Qw (by kernel_rfl) ?_ | refine Qx rfl (by kernel_rfl) ?_)
      refine ⟨i + 1, by omega, by omega, imp_cutk 3 (Nat.zero_le _) (hok_dev _) rfl (by simp [devH]) ?_⟩
      repeat' (first | exact fa_nil | refine fa_cons ⟨?_, ?_⟩ ?_)
      all_goals (try first | exact rfl | exact trivial | (simp [IdsLt, IdsLtL]; done) | (simp [get_cons]; done) | (simp [get_cons, *]; done) | (refine congrArg (AV.int .i64) (wrap_eq ?_ ?_ ?_) <;> (first | omega | (simp; omega))))
    · have hbad : validB ⟨2, (mig : Int), 36, 0, tgt⟩ = false := by
        simp [validB]
      have hab := fun R => dev_l (fun X => appendbad_c X v ⟨2, (mig : Int), 36, 0, tgt⟩ hbad) ⟨plA_ids, trivial⟩ trivial R (X := X)
      have hsc := fun X => sector_c X (mig : Int) 36 (by omega)
      rw [show secI (mig : Int) 36 = -1 by unfold secI; rw [if_pos (by omega)]] at hsc
      repeat' (first | ((first | refine Qa rfl ?_ | refine Qc rfl rfl rfl ?_ | apply Qd rfl rfl rfl rfl | (apply Qe rfl rfl rfl rfl; intro H9)); (first | refine Q0 ?_ | refine Q1 ?_ | refine Q2 rfl ?_ | refine Q3 rfl rfl rfl ?_ | refine Q4 rfl rfl rfl rfl rfl ?_ | refine Q5 rfl ?_ | refine Q6 rfl ?_ | refine Q7 rfl rfl rfl ?_ | refine Q8 rfl rfl rfl ?_ | refine Q9 rfl rfl rfl rfl ?_ | refine QA rfl rfl (by decide) ?_ | refine QB rfl rfl (by decide) ?_ | refine QC rfl rfl ?_ | refine QD rfl ?_ | refine QE rfl rfl ?_ | refine QF rfl rfl ?_ | refine QG rfl rfl rfl rfl ?_ | refine QH rfl rfl rfl ?_ | refine QI rfl rfl rfl ?_ | refine QJ rfl rfl ?_ | refine QK rfl ?_ | refine QM rfl rfl rfl rfl rfl ?_ | refine QN ?_ | refine QO ?_ | refine QP rfl rfl rfl rfl rfl rfl ?_ | refine QQ rfl rfl rfl rfl rfl rfl rfl rfl rfl rfl rfl ?_ | refine QR rfl rfl rfl rfl rfl rfl rfl rfl rfl rfl rfl rfl ?_); (first | exact QX rfl rfl ⟨rfl, rfl⟩ | exact QY rfl ⟨rfl, rfl⟩ | exact QZ ⟨rfl, rfl⟩ | refine QX rfl rfl ?_ | refine QZ ?_)) | refine Qa rfl ?_ | (refine Qb rfl ?_; try (refine QS rfl rfl rfl rfl rfl rfl rfl ?_; (first | refine QX rfl rfl ?_ | refine QZ ?_))) | refine Qh ?_ | refine Qi rfl ?_ | refine Qj rfl ?_ | (refine Qf rfl rfl rfl ?_; refine QS rfl rfl rfl rfl rfl rfl rfl ?_; (first | refine QX rfl rfl ?_ | refine QZ ?_)) | apply Qg rfl rfl | refine Qk ?_ | refine Ql ?_ | refine Qm ?_ | refine Qn ?_ | refine Qo rfl ?_ | refine Qp rfl ?_ | refine Qq rfl ?_ | refine Qr ?_ | refine Qs ?_ | refine Qt ?_ | refine Qu ?_ | refine Qv ?_ | refine Qw (by kernel_rfl) ?_ | refine Qx rfl (by kernel_rfl) ?_)
      refine st_call (fun _ => rfl) rfl ?_
      refine ACalls.mono (acalls_pure (E := E0 X) (fun X => awake_c X) (by simp [IdsLtL, IdsLt]) _) ?_
      rintro r H' ⟨rfl, rfl⟩
      first | refine nx rfl rfl ?_ | refine nx0 ?_
      repeat' (first | ((first | refine Qa rfl ?_ | refine Qc rfl rfl rfl ?_ | apply Qd rfl rfl rfl rfl | (apply Qe rfl rfl rfl rfl; intro H9)); (first | refine Q0 ?_ | refine Q1 ?_ | refine Q2 rfl ?_ | refine Q3 rfl rfl rfl ?_ | refine Q4 rfl rfl rfl rfl rfl ?_ | refine Q5 rfl ?_ | refine Q6 rfl ?_ | refine Q7 rfl rfl rfl ?_ | refine Q8 rfl rfl rfl ?_ | refine Q9 rfl rfl rfl rfl ?_ | refine QA rfl rfl (by decide) ?_ | refine QB rfl rfl (by decide) ?_ | refine QC rfl rfl ?_ | refine QD rfl ?_ | refine QE rfl rfl ?_ | refine QF rfl rfl ?_ | refine QG rfl rfl rfl rfl ?_ | refine QH rfl rfl rfl ?_ | refine QI rfl rfl rfl ?_ | refine QJ rfl rfl ?_ | refine QK rfl ?_ | refine QM rfl rfl rfl rfl rfl ?_ | refine QN ?_ | refine QO ?_ | refine QP rfl rfl rfl rfl rfl rfl ?_ | refine QQ rfl rfl rfl rfl rfl rfl rfl rfl rfl rfl rfl ?_ | refine QR rfl rfl rfl rfl rfl rfl rfl rfl rfl rfl rfl rfl ?_); (first | exact QX rfl rfl ⟨rfl, rfl⟩ | exact QY rfl ⟨rfl, rfl⟩ | exact QZ ⟨rfl, rfl⟩ | refine QX rfl rfl ?_ | refine QZ ?_)) | refine Qa rfl ?_ | (refine Qb rfl ?_; try (refine QS rfl rfl rfl rfl rfl rfl rfl ?_; (first | refine QX rfl rfl ?_ | refine QZ ?_))) | refine Qh ?_ | refine Qi rfl ?_ | refine Qj rfl ?_ | (refine Qf rfl rfl rfl ?_; refine QS rfl rfl rfl rfl rfl rfl rfl ?_; (first | refine QX rfl rfl ?_ | refine QZ ?_)) | apply Qg rfl rfl | refine Qk ?_ | refine Ql ?_ | refine Qm ?_ | refine Qn ?_ | refine Qo rfl ?_ | refine Qp rfl ?_ | refine Qq rfl ?_ | refine Qr ?_ | refine Qs ?_ | refine Qt ?_ | refine Qu ?_ | refine Qv ?_ | refine Qw (by kernel_rfl) ?_ | refine Qx rfl (by kernel_rfl) ?_)
      rw [hlm]
      repeat' (first | ((first | refine Qa rfl ?_ | refine Qc rfl rfl rfl ?_ | apply Qd rfl rfl rfl rfl | (apply Qe rfl rfl rfl rfl; intro H9)); (first | refine Q0 ?_ | refine Q1 ?_ | refine Q2 rfl ?_ | refine Q3 rfl rfl rfl ?_ | refine Q4 rfl rfl rfl rfl rfl ?_ | refine Q5 rfl ?_ | refine Q6 rfl ?_ | refine Q7 rfl rfl rfl ?_ | refine Q8 rfl rfl rfl ?_ | refine Q9 rfl rfl rfl rfl ?_ | refine QA rfl rfl (by decide) ?_ | refine QB rfl rfl (by decide) ?_ | refine QC rfl rfl ?_ | refine QD rfl ?_ | refine QE rfl rfl ?_ | refine QF rfl rfl ?_ | refine QG rfl rfl rfl rfl ?_ | refine QH rfl rfl rfl ?_ | refine QI rfl rfl rfl ?_ | refine QJ rfl rfl ?_ | refine QK rfl ?_ | refine QM rfl rfl rfl rfl rfl ?_ | refine QN ?_ | refine QO ?_ | refine QP rfl rfl rfl rfl rfl rfl ?_ | refine QQ rfl rfl rfl rfl rfl rfl rfl rfl rfl rfl rfl ?_ | refine QR rfl rfl rfl rfl rfl rfl rfl rfl rfl rfl rfl rfl ?_); (first | exact QX rfl rfl ⟨rfl, rfl⟩ | exact QY rfl ⟨rfl, rfl⟩ | exact QZ ⟨rfl, rfl⟩ | refine QX rfl rfl ?_ | refine QZ ?_)) | refine Qa rfl ?_ | (refine Qb rfl ?_; try (refine QS rfl rfl rfl rfl rfl rfl rfl ?_; (first | refine QX rfl rfl ?_ | refine QZ ?_))) | refine Qh ?_ | refine Qi rfl ?_ | refine Qj rfl ?_ | (refine Qf rfl rfl rfl ?_; refine QS rfl rfl rfl rfl rfl rfl rfl ?_; (first | refine QX rfl rfl ?_ | refine QZ ?_)) | apply Qg rfl rfl | refine Qk ?_ | refine Ql ?_ | refine Qm ?_ | refine Qn ?_ | refine Qo rfl ?_ | refine Qp rfl ?_ | refine Qq rfl ?_ | refine Qr ?_ | refine Qs ?_ | refine Qt ?_ | refine Qu ?_ | refine Qv ?_ | refine Qw (by kernel_rfl) ?_ | refine Qx rfl (by kernel_rfl) ?_)
      refine st_call (fun _ => rfl) rfl ?_
      refine ACalls.mono (acalls_pure (E := E0 X) (fun X => hsc X) (by simp [IdsLtL, IdsLt]) _) ?_
      rintro r H' ⟨rfl, rfl⟩
      first | refine nx rfl rfl ?_ | refine nx0 ?_
      repeat' (first | ((first | refine Qa rfl ?_ | refine Qc rfl rfl rfl ?_ | apply Qd rfl rfl rfl rfl | (apply Qe rfl rfl rfl rfl; intro H9)); (first | refine Q0 ?_ | refine Q1 ?_ | refine Q2 rfl ?_ | refine Q3 rfl rfl rfl ?_ | refine Q4 rfl rfl rfl rfl rfl ?_ | refine Q5 rfl ?_ | refine Q6 rfl ?_ | refine Q7 rfl rfl rfl ?_ | refine Q8 rfl rfl rfl ?_ | refine Q9 rfl rfl rfl rfl ?_ | refine QA rfl rfl (by decide) ?_ | refine QB rfl rfl (by decide) ?_ | refine QC rfl rfl ?_ | refine QD rfl ?_ | refine QE rfl rfl ?_ | refine QF rfl rfl ?_ | refine QG rfl rfl rfl rfl ?_ | refine QH rfl rfl rfl ?_ | refine QI rfl rfl rfl ?_ | refine QJ rfl rfl ?_ | refine QK rfl ?_ | refine QM rfl rfl rfl rfl rfl ?_ | refine QN ?_ | refine QO ?_ | refine QP rfl rfl rfl rfl rfl rfl ?_ | refine QQ rfl rfl rfl rfl rfl rfl rfl rfl rfl rfl rfl ?_ | refine QR rfl rfl rfl rfl rfl rfl rfl rfl rfl rfl rfl rfl ?_); (first | exact QX rfl rfl ⟨rfl, rfl⟩ | exact QY rfl ⟨rfl, rfl⟩ | exact QZ ⟨rfl, rfl⟩ | refine QX rfl rfl ?_ | refine QZ ?_)) | refine Qa rfl ?_ | (refine Qb rfl ?_; try (refine QS rfl rfl rfl rfl rfl rfl rfl ?_; (first | refine QX rfl rfl ?_ | refine QZ ?_))) | refine Qh ?_ | refine Qi rfl ?_ | refine Qj rfl ?_ | (refine Qf rfl rfl rfl ?_; refine QS rfl rfl rfl rfl rfl rfl rfl ?_; (first | refine QX rfl rfl ?_ | refine QZ ?_)) | apply Qg rfl rfl | refine Qk ?_ | refine Ql ?_ | refine Qm ?_ | refine Qn ?_ | refine Qo rfl ?_ | refine Qp rfl ?_ | refine Qq rfl ?_ | refine Qr ?_ | refine Qs ?_ | refine Qt ?_ | refine Qu ?_ | refine Qv ?_ | refine Qw (by kernel_rfl) ?_ | refine Qx rfl (by kernel_rfl) ?_)
      refine st_call (fun _ => rfl) rfl ?_
      refine ACalls.mono (acalls_pure (E := E0 X) (fun X => target_c X) (by simp [IdsLtL, IdsLt]) _) ?_
      rintro r H' ⟨rfl, rfl⟩
      first | refine nx rfl rfl ?_ | refine nx0 ?_
      repeat' (first | ((first | refine Qa rfl ?_ | refine Qc rfl rfl rfl ?_ | apply Qd rfl rfl rfl rfl | (apply Qe rfl rfl rfl rfl; intro H9)); (first | refine Q0 ?_ | refine Q1 ?_ | refine Q2 rfl ?_ | refine Q3 rfl rfl rfl ?_ | refine Q4 rfl rfl rfl rfl rfl ?_ | refine Q5 rfl ?_ | refine Q6 rfl ?_ | refine Q7 rfl rfl rfl ?_ | refine Q8 rfl rfl rfl ?_ | refine Q9 rfl rfl rfl rfl ?_ | refine QA rfl rfl (by decide) ?_ | refine QB rfl rfl (by decide) ?_ | refine QC rfl rfl ?_ | refine QD rfl ?_ | refine QE rfl rfl ?_ | refine QF rfl rfl ?_ | refine QG rfl rfl rfl rfl ?_ | refine QH rfl rfl rfl ?_ | refine QI rfl rfl rfl ?_ | refine QJ rfl rfl ?_ | refine QK rfl ?_ | refine QM rfl rfl rfl rfl rfl ?_ | refine QN ?_ | refine QO ?_ | refine QP rfl rfl rfl rfl rfl rfl ?_ | refine QQ rfl rfl rfl rfl rfl rfl rfl rfl rfl rfl rfl ?_ | refine QR rfl rfl rfl rfl rfl rfl rfl rfl rfl rfl rfl rfl ?_); (first | exact QX rfl rfl ⟨rfl, rfl⟩ | exact QY rfl ⟨rfl, rfl⟩ | exact QZ ⟨rfl, rfl⟩ | refine QX rfl rfl ?_ | refine QZ ?_)) | refine Qa rfl ?_ | (refine Qb rfl ?_; try (refine QS rfl rfl rfl rfl rfl rfl rfl ?_; (first | refine QX rfl rfl ?_ | refine QZ ?_))) | refine Qh ?_ | refine Qi rfl ?_ | refine Qj rfl ?_ | (refine Qf rfl rfl rfl ?_; refine QS rfl rfl rfl rfl rfl rfl rfl ?_; (first | refine QX rfl rfl ?_ | refine QZ ?_)) | apply Qg rfl rfl | refine Qk ?_ | refine Ql ?_ | refine Qm ?_ | refine Qn ?_ | refine Qo rfl ?_ | refine Qp rfl ?_ | refine Qq rfl ?_ | refine Qr ?_ | refine Qs ?_ | refine Qt ?_ | refine Qu ?_ | refine Qv ?_ | refine Qw (by kernel_rfl) ?_ | refine Qx rfl (by kernel_rfl) ?_)
      have hab2 := hab []
      rw [List.append_nil] at hab2
      refine st_call (fun _ => rfl) rfl ?_
      refine ACalls.mono (hab2) ?_
      rintro r H' ⟨rfl, rfl⟩
      first | refine nx rfl rfl ?_ | refine nx0 ?_
      repeat' (first | ((first | refine Qa rfl ?_ | refine Qc rfl rfl rfl ?_ | apply Qd rfl rfl rfl rfl | (apply Qe rfl rfl rfl rfl; intro H9)); (first | refine Q0 ?_ | refine Q1 ?_ | refine Q2 rfl ?_ | refine Q3 rfl rfl rfl ?_ | refine Q4 rfl rfl rfl rfl rfl ?_ | refine Q5 rfl ?_ | refine Q6 rfl ?_ | refine Q7 rfl rfl rfl ?_ | refine Q8 rfl rfl rfl ?_ | refine Q9 rfl rfl rfl rfl ?_ | refine QA rfl rfl (by decide) ?_ | refine QB rfl rfl (by decide) ?_ | refine QC rfl rfl ?_ | refine QD rfl ?_ | refine QE rfl rfl ?_ | refine QF rfl rfl ?_ | refine QG rfl rfl rfl rfl ?_ | refine QH rfl rfl rfl ?_ | refine QI rfl rfl rfl ?_ | refine QJ rfl rfl ?_ | refine QK rfl ?_ | refine QM rfl rfl rfl rfl rfl ?_ | refine QN ?_ | refine QO ?_ | refine QP rfl rfl rfl rfl rfl rfl ?_ | refine QQ rfl rfl rfl rfl rfl rfl rfl rfl rfl rfl rfl ?_ | refine QR rfl rfl rfl rfl rfl rfl rfl rfl rfl rfl rfl rfl ?_); (first | exact QX rfl rfl ⟨rfl, rfl⟩ | exact QY rfl ⟨rfl, rfl⟩ | exact QZ ⟨rfl, rfl⟩ | refine QX rfl rfl ?_ | refine QZ ?_)) | refine Qa rfl ?_ | (refine Qb rfl ?_; try (refine QS rfl rfl rfl rfl rfl rfl rfl ?_; (first | refine QX rfl rfl ?_ | refine QZ ?_))) | refine Qh ?_ | refine Qi rfl ?_ | refine Qj rfl ?_ | (refine Qf rfl rfl rfl ?_; refine QS rfl rfl rfl rfl rfl rfl rfl ?_; (first | refine QX rfl rfl ?_ | refine QZ ?_)) | apply Qg rfl rfl | refine Qk ?_ | refine Ql ?_ | refine Qm ?_ | refine Qn ?_ | refine Qo rfl ?_ | refine Qp rfl ?_ | refine Qq rfl ?_ | refine Qr ?_ | refine Qs ?_ | refine Qt ?_ | refine Qu ?_ | refine Qv ?_ | refine Qw (by kernel_rfl) ?_ | refine Qx rfl (by kernel_rfl) ?_)
      refine awp_pre (imp_cutk 0 (Nat.le_refl _) hok_nil rfl (by simp) (sl' := [(4, .bool true)]) ?_) ?_
      · repeat' (first | exact fa_nil | refine fa_cons ⟨?_, ?_⟩ ?_)
        all_goals (try first | exact rfl | exact trivial | (simp [IdsLt, IdsLtL]; done) | (simp [get_cons]; done) | (simp [get_cons, *]; done) | (refine congrArg (AV.int .i64) (wrap_eq ?_ ?_ ?_) <;> (first | omega | (simp; omega))))
      refine awp_ret ?_
      refine ⟨_, rfl, ?_, ?_⟩
      · rfl
      · rfl
end Go.Abs
namespace Go.Abs
theorem modc (n : Int) (c : Nat) (hc : 0 < c) (h : c ≤ 1000) : ∃ k : Nat, (IntKind.i64.wrap (n.tmod c + c)).tmod c = (k : Int) ∧ k < c := by
  have h1 : n.tmod c < c := Int.tmod_lt_of_pos n (by omega)
  have h2 : -(c : Int) < n.tmod c := by
    have h0 := Int.tmod_lt_of_pos (-n) (b := (c : Int)) (by omega)
    rw [Int.neg_tmod] at h0
    omega
  rw [wrap_in (by omega) (by omega), Int.tmod_eq_emod_of_nonneg (by omega)]
  have h4 := Int.emod_nonneg (n.tmod c + c) (show (c : Int) ≠ 0 by omega)
  have h5 := Int.emod_lt_of_pos (n.tmod c + c) (show (0 : Int) < c by omega)
  exact ⟨((n.tmod c + c) % c).toNat, by omega, by omega⟩
theorem pF0 (mig i : Nat) : plA (pF mig 0 i).pl = .agg [.int .i64 (if i = 0 then 1 else 2), .int .i64 (mig : Int), .int .i64 (i : Int), .int .i64 (i : Int), .int .i64 2, .int .i64 1, .int .i64 4, .int .i64 4] := by
  by_cases h : i = 0
  · subst h; rfl
  · simp [plA, PlN.pl, pF, tgt, h]
/-- LogApart's records have the tail 0. -/
def pG (mig i : Nat) : PlN := ⟨if i = 0 then 1 else 2, mig, i, 0, tgt⟩
theorem pG_ok {mig i : Nat} (hm : 1 ≤ mig ∧ mig ≤ 9) (hi : i ≤ 35) : validB (pG mig i).pl = true := by
  have h1 := pF_ok (tail := 0) hm (by decide) hi
  have e : validB (pG mig i).pl = validB (pF mig 0 i).pl := by
    have e1 : (pG mig i).pl = ⟨(pF mig 0 i).pl.kind, (pF mig 0 i).pl.mig, (pF mig 0 i).pl.idx, 0, (pF mig 0 i).pl.t⟩ := rfl
    rw [e1]
    have h3 : (pF mig 0 i).pl.tail = (i : Int) := by simp [pF, PlN.pl]
    unfold validB
    rw [h3]
    simp only
    have a1 : decide ((0 : Int) < 0) = false := rfl
    have a2 : decide ((281474976710655 : Int) < 0) = false := rfl
    have a3 : decide ((i : Int) < 0) = false := decide_eq_false (by omega)
    have a4 : decide ((281474976710655 : Int) < i) = false := decide_eq_false (by omega)
    rw [a1, a2, a3, a4]
  rw [e]; exact h1
def wG (w : Nat → Option PlN) (mig n : Nat) (j : Nat) : Option PlN := if 2 + (mig + 1) % 2 * 36 ≤ j ∧ j < 2 + (mig + 1) % 2 * 36 + n then some (pG mig (j - (2 + (mig + 1) % 2 * 36))) else w j
theorem wG_succ (w : Nat → Option PlN) (mig n j : Nat) : (if j = secN (pG mig n) then some (pG mig n) else wG w mig n j) = wG w mig (n + 1) j := by
  have hs : secN (pG mig n) = 2 + (mig + 1) % 2 * 36 + n := rfl
  rw [hs]
  unfold wG
  generalize 2 + (mig + 1) % 2 * 36 = b at *
  by_cases h : j = b + n
  · subst h
    rw [if_pos rfl, if_pos (by omega)]
    have : b + n - b = n := by omega
    rw [this]
  · rw [if_neg h]
    have e : (b ≤ j ∧ j < b + n) ↔ (b ≤ j ∧ j < b + (n + 1)) := by omega
    simp only [e]
theorem wG_zero (w : Nat → Option PlN) (mig j : Nat) : wG w mig 0 j = w j := by
  unfold wG
  rw [if_neg (by omega)]
theorem wG_ok {w : Nat → Option PlN} (hw : wOk w) {mig n : Nat} (hm : 1 ≤ mig ∧ mig ≤ 9) (hn : n ≤ 36) : wOk (wG w mig n) := fun j q h => by
  unfold wG at h
  split at h
  · rename_i h1
    simp only [Option.some.injEq] at h
    subst h
    exact pG_ok hm (by omega)
  · exact hw j q h
end Go.Abs
namespace Go.Abs
def wK (m0 n m k : Nat) : Nat → Option PlN := match k with
  | 0 => fun _ => none
  | 1 => wG (fun _ => none) m0 n
  | _ => wG (wG (fun _ => none) m0 n) (m0 + 1) m
theorem wK_ok {m0 n m k : Nat} (hm : 1 ≤ m0 ∧ m0 ≤ 8) (hn : n ≤ 36) (hm2 : m ≤ 36) : wOk (wK m0 n m k) := by
  have h0 : wOk fun _ => none := fun j q h => by cases h
  have h1 := wG_ok h0 (mig := m0) (n := n) (by omega) hn
  match k with
  | 0 => exact h0
  | 1 => exact h1
  | _ + 2 => exact wG_ok h1 (by omega) hm2
attribute [local irreducible] AStep aops AWp Nx awM
set_option maxHeartbeats 0 in
set_option maxRecDepth 100000 in
theorem logApart_c (X : Nat → Prop) (mg nn mm : Int) :
    ACalls (E0 X) 4 [.int .i64 mg, .int .i64 nn, .int .i64 mm] [] (fun r H' => r = .bool true ∧ H' = []) := by
  obtain ⟨m1, hm, hmm⟩ := and_le mg 7 (by decide)
  have hmm : ibits .and .i64 mg 7 = (m1 : Int) := hmm
  have hmw : IntKind.i64.wrap (1 + (m1 : Int)) = ((m1 + 1 : Nat) : Int) := wrap_eq (by omega) (by omega) (by omega)
  obtain ⟨n, hn, hn36⟩ := modc nn 36 (by decide) (by decide)
  obtain ⟨m, hm2, hm36⟩ := modc mm 36 (by decide) (by decide)
  have hn : (IntKind.i64.wrap (nn.tmod 36 + 36)).tmod 36 = (n : Int) := hn
  have hm2 : (IntKind.i64.wrap (mm.tmod 36 + 36)).tmod 36 = (m : Int) := hm2
  have hnew : ACalls (E0 X) 19 [.int .i64 80] [] (fun r H' => r = .ptr 0 0 ∧ H' = devH (Dv.fresh lz)) := (new_c X 80).mono fun r H' h => by
    rcases h with ⟨_, _, h1, h2⟩ | ⟨h1, _⟩
    · refine ⟨h1, h2.trans ?_⟩
      unfold lz; rfl
    · exact absurd ⟨by decide, by decide⟩ h1
  have hlv := lz_lv
  have hjn := lz_jn
  generalize Dv.fresh lz = v0 at *
  refine acalls_of Proofs.Tryd.func4 rfl Proofs.Tryd.ntmps4 (by kernel_rfl) rfl ?_
  intro hH hargs
  clear hH hargs
  repeat' (first | ((first | refine Qa rfl ?_ | refine Qc rfl rfl rfl ?_ | apply Qd rfl rfl rfl rfl | (apply Qe rfl rfl rfl rfl; intro H9)); (first | refine Q0 ?_ | refine Q1 ?_ | refine Q2 rfl ?_ | refine Q3 rfl rfl rfl ?_ | refine Q4 rfl rfl rfl rfl rfl ?_ | refine Q5 rfl ?_ | refine Q6 rfl ?_ | refine Q7 rfl rfl rfl ?_ | refine Q8 rfl rfl rfl ?_ | refine Q9 rfl rfl rfl rfl ?_ | refine QA rfl rfl (by decide) ?_ | refine QB rfl rfl (by decide) ?_ | refine QC rfl rfl ?_ | refine QD rfl ?_ | refine QE rfl rfl ?_ | refine QF rfl rfl ?_ | refine QG rfl rfl rfl rfl ?_ | refine QH rfl rfl rfl ?_ | refine QI rfl rfl rfl ?_ | refine QJ rfl rfl ?_ | refine QK rfl ?_ | refine QM rfl rfl rfl rfl rfl ?_ | refine QN ?_ | refine QO ?_ | refine QP rfl rfl rfl rfl rfl rfl ?_ | refine QQ rfl rfl rfl rfl rfl rfl rfl rfl rfl rfl rfl ?_ | refine QR rfl rfl rfl rfl rfl rfl rfl rfl rfl rfl rfl rfl ?_); (first | exact QX rfl rfl ⟨rfl, rfl⟩ | exact QY rfl ⟨rfl, rfl⟩ | exact QZ ⟨rfl, rfl⟩ | refine QX rfl rfl ?_ | refine QZ ?_)) | refine Qa rfl ?_ | (refine Qb rfl ?_; try (refine QS rfl rfl rfl rfl rfl rfl rfl ?_; (first | refine QX rfl rfl ?_ | refine QZ ?_))) | refine Qh ?_ | refine Qi rfl ?_ | refine Qj rfl ?_ | (refine Qf rfl rfl rfl ?_; refine QS rfl rfl rfl rfl rfl rfl rfl ?_; (first | refine QX rfl rfl ?_ | refine QZ ?_)) | apply Qg rfl rfl | refine Qk ?_ | refine Ql ?_ | refine Qm ?_ | refine Qn ?_ | refine Qo rfl ?_ | refine Qp rfl ?_ | refine Qq rfl ?_ | refine Qr ?_ | refine Qs ?_ | refine Qt ?_ | refine Qu ?_ | refine Qv ?_ | refine Qw (by kernel_rfl) ?_ | refine Qx rfl (by kernel_rfl) ?_)
  rw [hmm, hmw, hn, hm2]
  generalize hmig : m1 + 1 = m0 at *
  refine st_call (fun _ => rfl) rfl ?_
  refine ACalls.mono (hnew) ?_
  rintro r H' ⟨rfl, rfl⟩
  first | refine nx rfl rfl ?_ | refine nx0 ?_
  repeat' (first | ((first | refine Qa rfl ?_ | refine Qc rfl rfl rfl ?_ | apply Qd rfl rfl rfl rfl | (apply Qe rfl rfl rfl rfl; intro H9)); (first | refine Q0 ?_ | refine Q1 ?_ | refine Q2 rfl ?_ | refine Q3 rfl rfl rfl ?_ | refine Q4 rfl rfl rfl rfl rfl ?_ | refine Q5 rfl ?_ | refine Q6 rfl ?_ | refine Q7 rfl rfl rfl ?_ | refine Q8 rfl rfl rfl ?_ | refine Q9 rfl rfl rfl rfl ?_ | refine QA rfl rfl (by decide) ?_ | refine QB rfl rfl (by decide) ?_ | refine QC rfl rfl ?_ | refine QD rfl ?_ | refine QE rfl rfl ?_ | refine QF rfl rfl ?_ | refine QG rfl rfl rfl rfl ?_ | refine QH rfl rfl rfl ?_ | refine QI rfl rfl rfl ?_ | refine QJ rfl rfl ?_ | refine QK rfl ?_ | refine QM rfl rfl rfl rfl rfl ?_ | refine QN ?_ | refine QO ?_ | refine QP rfl rfl rfl rfl rfl rfl ?_ | refine QQ rfl rfl rfl rfl rfl rfl rfl rfl rfl rfl rfl ?_ | refine QR rfl rfl rfl rfl rfl rfl rfl rfl rfl rfl rfl rfl ?_); (first | exact QX rfl rfl ⟨rfl, rfl⟩ | exact QY rfl ⟨rfl, rfl⟩ | exact QZ ⟨rfl, rfl⟩ | refine QX rfl rfl ?_ | refine QZ ?_)) | refine Qa rfl ?_ | (refine Qb rfl ?_; try (refine QS rfl rfl rfl rfl rfl rfl rfl ?_; (first | refine QX rfl rfl ?_ | refine QZ ?_))) | refine Qh ?_ | refine Qi rfl ?_ | refine Qj rfl ?_ | (refine Qf rfl rfl rfl ?_; refine QS rfl rfl rfl rfl rfl rfl rfl ?_; (first | refine QX rfl rfl ?_ | refine QZ ?_)) | apply Qg rfl rfl | refine Qk ?_ | refine Ql ?_ | refine Qm ?_ | refine Qn ?_ | refine Qo rfl ?_ | refine Qp rfl ?_ | refine Qq rfl ?_ | refine Qr ?_ | refine Qs ?_ | refine Qt ?_ | refine Qu ?_ | refine Qv ?_ | refine Qw (by kernel_rfl) ?_ | refine Qx rfl (by kernel_rfl) ?_)
  refine awp_loop2 (fun p : Nat × Dv => ⟨[(0, .int .i64 (m0 : Int)), (1, .int .i64 (n : Int)), (2, .int .i64 (m : Int)), (7, .ptr 0 0), (8, .int .i64 (p.1 : Int))], devH p.2⟩)
    (fun p => p.1 ≤ 2 ∧ Lv 5120 p.2 ∧ Jn p.2 (wK m0 n m p.1)) (fun p => 2 - p.1) (0, v0) ⟨by omega, hlv, hjn⟩ ?_ ?_
  · refine imp_cutk 3 (Nat.zero_le _) (hok_dev _) rfl (by simp [devH]) ?_
    repeat' (first | exact fa_nil | refine fa_cons ⟨?_, ?_⟩ ?_)
    all_goals (try first | exact rfl | exact trivial | (simp [IdsLt, IdsLtL]; done) | (simp [get_cons]; done) | (simp [get_cons, *]; done) | (refine congrArg (AV.int .i64) (wrap_eq ?_ ?_ ?_) <;> (first | omega | (simp; omega))))
  rintro ⟨k, v⟩ ⟨hk, hv, hj⟩
  have hk : k ≤ 2 := hk
  have hv : Lv 5120 v := hv
  have hj : Jn v (wK m0 n m k) := hj
  show AWp _ _ _ _ _ ⟨[(0, .int .i64 (m0 : Int)), (1, .int .i64 (n : Int)), (2, .int .i64 (m : Int)), (7, .ptr 0 0), (8, .int .i64 (k : Int))], devH v⟩
  repeat' (first | ((first | refine Qa rfl ?_ | refine Qc rfl rfl rfl ?_ | apply Qd rfl rfl rfl rfl | (apply Qe rfl rfl rfl rfl; intro H9)); (first | refine Q0 ?_ | refine Q1 ?_ | refine Q2 rfl ?_ | refine Q3 rfl rfl rfl ?_ | refine Q4 rfl rfl rfl rfl rfl ?_ | refine Q5 rfl ?_ | refine Q6 rfl ?_ | refine Q7 rfl rfl rfl ?_ | refine Q8 rfl rfl rfl ?_ | refine Q9 rfl rfl rfl rfl ?_ | refine QA rfl rfl (by decide) ?_ | refine QB rfl rfl (by decide) ?_ | refine QC rfl rfl ?_ | refine QD rfl ?_ | refine QE rfl rfl ?_ | refine QF rfl rfl ?_ | refine QG rfl rfl rfl rfl ?_ | refine QH rfl rfl rfl ?_ | refine QI rfl rfl rfl ?_ | refine QJ rfl rfl ?_ | refine QK rfl ?_ | refine QM rfl rfl rfl rfl rfl ?_ | refine QN ?_ | refine QO ?_ | refine QP rfl rfl rfl rfl rfl rfl ?_ | refine QQ rfl rfl rfl rfl rfl rfl rfl rfl rfl rfl rfl ?_ | refine QR rfl rfl rfl rfl rfl rfl rfl rfl rfl rfl rfl rfl ?_); (first | exact QX rfl rfl ⟨rfl, rfl⟩ | exact QY rfl ⟨rfl, rfl⟩ | exact QZ ⟨rfl, rfl⟩ | refine QX rfl rfl ?_ | refine QZ ?_)) | refine Qa rfl ?_ | (refine Qb rfl ?_; try (refine QS rfl rfl rfl rfl rfl rfl rfl ?_; (first | refine QX rfl rfl ?_ | refine QZ ?_))) | refine Qh ?_ | refine Qi rfl ?_ | refine Qj rfl ?_ | (refine Qf rfl rfl rfl ?_; refine QS rfl rfl rfl rfl rfl rfl rfl ?_; (first | refine QX rfl rfl ?_ | refine QZ ?_)) | apply Qg rfl rfl | refine Qk ?_ | refine Ql ?_ | refine Qm ?_ | refine Qn ?_ | refine Qo rfl ?_ | refine Qp rfl ?_ | refine Qq rfl ?_ | refine Qr ?_ | refine Qs ?_ | refine Qt ?_ | refine Qu ?_ | refine Qv ?_ | refine Qw (by kernel_rfl) ?_ | refine Qx rfl (by kernel_rfl) ?_)
  refine awp_cond_dec rfl (fun h3 => ?_) (fun h3 => ?_)
  · have hk2 : k < 2 := by omega
    obtain ⟨lim, hlim, hl36, hy⟩ : ∃ lim, lim = (if k = 0 then n else m) ∧ lim < 36 ∧ [AV.int .i64 (n : Int), AV.int .i64 (m : Int)][k]? = some (.int .i64 (lim : Int)) := by
      match k, hk2 with
      | 0, _ => exact ⟨n, rfl, hn36, rfl⟩
      | 1, _ => exact ⟨m, rfl, hm36, rfl⟩
    have hwk : wK m0 n m (k + 1) = wG (wK m0 n m k) (m0 + k) lim := by
      match k, hk2 with
      | 0, _ => subst hlim; rfl
      | 1, _ => subst hlim; rfl
    have hwo : wOk (wK m0 n m k) := wK_ok (by omega) (by omega) (by omega)
    have hmk : IntKind.i64.wrap ((m0 : Int) + (k : Int)) = ((m0 + k : Nat) : Int) := wrap_eq (by omega) (by omega) (by omega)
    repeat' (first | ((first | refine Qa rfl ?_ | refine Qc rfl rfl rfl ?_ | apply Qd rfl rfl rfl rfl | (apply Qe rfl rfl rfl rfl; intro H9)); (first | refine Q0 ?_ | refine Q1 ?_ | refine Q2 rfl ?_ | refine Q3 rfl rfl rfl ?_ | refine Q4 rfl rfl rfl rfl rfl ?_ | refine Q5 rfl ?_ | refine Q6 rfl ?_ | refine Q7 rfl rfl rfl ?_ | refine Q8 rfl rfl rfl ?_ | refine Q9 rfl rfl rfl rfl ?_ | refine QA rfl rfl (by decide) ?_ | refine QB rfl rfl (by decide) ?_ | refine QC rfl rfl ?_ | refine QD rfl ?_ | refine QE rfl rfl ?_ | refine QF rfl rfl ?_ | refine QG rfl rfl rfl rfl ?_ | refine QH rfl rfl rfl ?_ | refine QI rfl rfl rfl ?_ | refine QJ rfl rfl ?_ | refine QK rfl ?_ | refine QM rfl rfl rfl rfl rfl ?_ | refine QN ?_ | refine QO ?_ | refine QP rfl rfl rfl rfl rfl rfl ?_ | refine QQ rfl rfl rfl rfl rfl rfl rfl rfl rfl rfl rfl ?_ | refine QR rfl rfl rfl rfl rfl rfl rfl rfl rfl rfl rfl rfl ?_); (first | exact QX rfl rfl ⟨rfl, rfl⟩ | exact QY rfl ⟨rfl, rfl⟩ | exact QZ ⟨rfl, rfl⟩ | refine QX rfl rfl ?_ | refine QZ ?_)) | refine Qa rfl ?_ | (refine Qb rfl ?_; try (refine QS rfl rfl rfl rfl rfl rfl rfl ?_; (first | refine QX rfl rfl ?_ | refine QZ ?_))) | refine Qh ?_ | refine Qi rfl ?_ | refine Qj rfl ?_ | (refine Qf rfl rfl rfl ?_; refine QS rfl rfl rfl rfl rfl rfl rfl ?_; (first | refine QX rfl rfl ?_ | refine QZ ?_)) | apply Qg rfl rfl | refine Qk ?_ | refine Ql ?_ | refine Qm ?_ | refine Qn ?_ | refine Qo rfl ?_ | refine Qp rfl ?_ | refine Qq rfl ?_ | refine Qr ?_ | refine Qs ?_ | refine Qt ?_ | refine Qu ?_ | refine Qv ?_ | refine Qw (by kernel_rfl) ?_ | refine Qx rfl (by kernel_rfl) ?_)
    refine awp_loop2 (fun p : Nat × Dv => ⟨[(0, .int .i64 (m0 : Int)), (1, .int .i64 (n : Int)), (2, .int .i64 (m : Int)), (7, .ptr 0 0), (8, .int .i64 (k : Int)), (9, .int .i64 (p.1 : Int))], devH p.2⟩)
      (fun p => p.1 ≤ lim ∧ Lv 5120 p.2 ∧ Jn p.2 (wG (wK m0 n m k) (m0 + k) p.1)) (fun p => lim - p.1) (0, v) ⟨by omega, hv, hj.congr fun j _ => (wG_zero (wK m0 n m k) (m0 + k) j).symm⟩ ?_ ?_
    · refine imp_cutk 3 (Nat.zero_le _) (hok_dev _) rfl (by simp [devH]) ?_
      repeat' (first | exact fa_nil | refine fa_cons ⟨?_, ?_⟩ ?_)
      all_goals (try first | exact rfl | exact trivial | (simp [IdsLt, IdsLtL]; done) | (simp [get_cons]; done) | (simp [get_cons, *]; done) | (refine congrArg (AV.int .i64) (wrap_eq ?_ ?_ ?_) <;> (first | omega | (simp; omega))))
    clear hv hj
    rintro ⟨i, v⟩ ⟨hi, hv, hj⟩
    have hi : i ≤ lim := hi
    have hv : Lv 5120 v := hv
    have hj : Jn v (wG (wK m0 n m k) (m0 + k) i) := hj
    show AWp _ _ _ _ _ ⟨[(0, .int .i64 (m0 : Int)), (1, .int .i64 (n : Int)), (2, .int .i64 (m : Int)), (7, .ptr 0 0), (8, .int .i64 (k : Int)), (9, .int .i64 (i : Int))], devH v⟩
    repeat' (first | ((first | refine Qa rfl ?_ | refine Qc rfl rfl rfl ?_ | apply Qd rfl rfl rfl rfl | (apply Qe rfl rfl rfl rfl; intro H9)); (first | refine Q0 ?_ | refine Q1 ?_ | refine Q2 rfl ?_ | refine Q3 rfl rfl rfl ?_ | refine Q4 rfl rfl rfl rfl rfl ?_ | refine Q5 rfl ?_ | refine Q6 rfl ?_ | refine Q7 rfl rfl rfl ?_ | refine Q8 rfl rfl rfl ?_ | refine Q9 rfl rfl rfl rfl ?_ | refine QA rfl rfl (by decide) ?_ | refine QB rfl rfl (by decide) ?_ | refine QC rfl rfl ?_ | refine QD rfl ?_ | refine QE rfl rfl ?_ | refine QF rfl rfl ?_ | refine QG rfl rfl rfl rfl ?_ | refine QH rfl rfl rfl ?_ | refine QI rfl rfl rfl ?_ | refine QJ rfl rfl ?_ | refine QK rfl ?_ | refine QM rfl rfl rfl rfl rfl ?_ | refine QN ?_ | refine QO ?_ | refine QP rfl rfl rfl rfl rfl rfl ?_ | refine QQ rfl rfl rfl rfl rfl rfl rfl rfl rfl rfl rfl ?_ | refine QR rfl rfl rfl rfl rfl rfl rfl rfl rfl rfl rfl rfl ?_); (first | exact QX rfl rfl ⟨rfl, rfl⟩ | exact QY rfl ⟨rfl, rfl⟩ | exact QZ ⟨rfl, rfl⟩ | refine QX rfl rfl ?_ | refine QZ ?_)) | refine Qa rfl ?_ | (refine Qb rfl ?_; try (refine QS rfl rfl rfl rfl rfl rfl rfl ?_; (first | refine QX rfl rfl ?_ | refine QZ ?_))) | refine Qh ?_ | refine Qi rfl ?_ | refine Qj rfl ?_ | (refine Qf rfl rfl rfl ?_; refine QS rfl rfl rfl rfl rfl rfl rfl ?_; (first | refine QX rfl rfl ?_ | refine QZ ?_)) | apply Qg rfl rfl | refine Qk ?_ | refine Ql ?_ | refine Qm ?_ | refine Qn ?_ | refine Qo rfl ?_ | refine Qp rfl ?_ | refine Qq rfl ?_ | refine Qr ?_ | refine Qs ?_ | refine Qt ?_ | refine Qu ?_ | refine Qv ?_ | refine Qw (by kernel_rfl) ?_ | refine Qx rfl (by kernel_rfl) ?_)
    refine st_index_sl (j := k) rfl rfl rfl rfl rfl rfl rfl hy rfl rfl ?_
    first | refine nx rfl rfl ?_ | refine nx0 ?_
    repeat' (first | ((first | refine Qa rfl ?_ | refine Qc rfl rfl rfl ?_ | apply Qd rfl rfl rfl rfl | (apply Qe rfl rfl rfl rfl; intro H9)); (first | refine Q0 ?_ | refine Q1 ?_ | refine Q2 rfl ?_ | refine Q3 rfl rfl rfl ?_ | refine Q4 rfl rfl rfl rfl rfl ?_ | refine Q5 rfl ?_ | refine Q6 rfl ?_ | refine Q7 rfl rfl rfl ?_ | refine Q8 rfl rfl rfl ?_ | refine Q9 rfl rfl rfl rfl ?_ | refine QA rfl rfl (by decide) ?_ | refine QB rfl rfl (by decide) ?_ | refine QC rfl rfl ?_ | refine QD rfl ?_ | refine QE rfl rfl ?_ | refine QF rfl rfl ?_ | refine QG rfl rfl rfl rfl ?_ | refine QH rfl rfl rfl ?_ | refine QI rfl rfl rfl ?_ | refine QJ rfl rfl ?_ | refine QK rfl ?_ | refine QM rfl rfl rfl rfl rfl ?_ | refine QN ?_ | refine QO ?_ | refine QP rfl rfl rfl rfl rfl rfl ?_ | refine QQ rfl rfl rfl rfl rfl rfl rfl rfl rfl rfl rfl ?_ | refine QR rfl rfl rfl rfl rfl rfl rfl rfl rfl rfl rfl rfl ?_); (first | exact QX rfl rfl ⟨rfl, rfl⟩ | exact QY rfl ⟨rfl, rfl⟩ | exact QZ ⟨rfl, rfl⟩ | refine QX rfl rfl ?_ | refine QZ ?_)) | refine Qa rfl ?_ | (refine Qb rfl ?_; try (refine QS rfl rfl rfl rfl rfl rfl rfl ?_; (first | refine QX rfl rfl ?_ | refine QZ ?_))) | refine Qh ?_ | refine Qi rfl ?_ | refine Qj rfl ?_ | (refine Qf rfl rfl rfl ?_; refine QS rfl rfl rfl rfl rfl rfl rfl ?_; (first | refine QX rfl rfl ?_ | refine QZ ?_)) | apply Qg rfl rfl | refine Qk ?_ | refine Ql ?_ | refine Qm ?_ | refine Qn ?_ | refine Qo rfl ?_ | refine Qp rfl ?_ | refine Qq rfl ?_ | refine Qr ?_ | refine Qs ?_ | refine Qt ?_ | refine Qu ?_ | refine Qv ?_ | refine Qw (by kernel_rfl) ?_ | refine Qx rfl (by kernel_rfl) ?_)
    refine awp_cond_dec rfl (fun h4 => ?_) (fun h4 => ?_)
    · have hi4 : i < lim := by omega
      have hp := pG_ok (mig := m0 + k) (i := i) (by omega) (by omega)
      have hap := fun R => dev_l (fun X => append_c X v 5120 (by decide) (by decide) hv (pG (m0 + k) i) hp) ⟨plA_ids, trivial⟩ trivial R (X := X)
      have hv2 := hv.app (by decide) (p := pG (m0 + k) i) (show i ≤ 35 by omega)
      have hj2 := (hj.app hv (by decide) (p := pG (m0 + k) i) (show i ≤ 35 by omega)).congr fun j _ => wG_succ _ _ _ _
      have harg : plA (pG (m0 + k) i).pl = .agg [.int .i64 (if i = 0 then 1 else 2), .int .i64 ((m0 + k : Nat) : Int), .int .i64 (i : Int), .int .i64 0, .int .i64 2, .int .i64 1, .int .i64 4, .int .i64 4] := by
        by_cases h : i = 0
        · subst h; rfl
        · simp [plA, PlN.pl, pG, tgt, h]
      rw [harg] at hap
      generalize v.app (pG (m0 + k) i) = v2 at *
      repeat' (first | ((first | refine Qa rfl ?_ | refine Qc rfl rfl rfl ?_ | apply Qd rfl rfl rfl rfl | (apply Qe rfl rfl rfl rfl; intro H9)); (first | refine Q0 ?_ | refine Q1 ?_ | refine Q2 rfl ?_ | refine Q3 rfl rfl rfl ?_ | refine Q4 rfl rfl rfl rfl rfl ?_ | refine Q5 rfl ?_ | refine Q6 rfl ?_ | refine Q7 rfl rfl rfl ?_ | refine Q8 rfl rfl rfl ?_ | refine Q9 rfl rfl rfl rfl ?_ | refine QA rfl rfl (by decide) ?_ | refine QB rfl rfl (by decide) ?_ | refine QC rfl rfl ?_ | refine QD rfl ?_ | refine QE rfl rfl ?_ | refine QF rfl rfl ?_ | refine QG rfl rfl rfl rfl ?_ | refine QH rfl rfl rfl ?_ | refine QI rfl rfl rfl ?_ | refine QJ rfl rfl ?_ | refine QK rfl ?_ | refine QM rfl rfl rfl rfl rfl ?_ | refine QN ?_ | refine QO ?_ | refine QP rfl rfl rfl rfl rfl rfl ?_ | refine QQ rfl rfl rfl rfl rfl rfl rfl rfl rfl rfl rfl ?_ | refine QR rfl rfl rfl rfl rfl rfl rfl rfl rfl rfl rfl rfl ?_); (first | exact QX rfl rfl ⟨rfl, rfl⟩ | exact QY rfl ⟨rfl, rfl⟩ | exact QZ ⟨rfl, rfl⟩ | refine QX rfl rfl ?_ | refine QZ ?_)) | refine Qa rfl ?_ | (refine Qb rfl ?_; try (refine QS rfl rfl rfl rfl rfl rfl rfl ?_; (first | refine QX rfl rfl ?_ | refine QZ ?_))) | refine Qh ?_ | refine Qi rfl ?_ | refine Qj rfl ?_ | (refine Qf rfl rfl rfl ?_; refine QS rfl rfl rfl rfl rfl rfl rfl ?_; (first | refine QX rfl rfl ?_ | refine QZ ?_)) | apply Qg rfl rfl | refine Qk ?_ | refine Ql ?_ | refine Qm ?_ | refine Qn ?_ | refine Qo rfl ?_ | refine Qp rfl ?_ | refine Qq rfl ?_ | refine Qr ?_ | refine Qs ?_ | refine Qt ?_ | refine Qu ?_ | refine Qv ?_ | refine Qw (by kernel_rfl) ?_ | refine Qx rfl (by kernel_rfl) ?_)
      rw [hmk]
      refine st_call (fun _ => rfl) rfl ?_
      refine ACalls.mono (acalls_pure (E := E0 X) (fun X => target_c X) (by simp [IdsLtL, IdsLt]) _) ?_
      rintro r H' ⟨rfl, rfl⟩
      first | refine nx rfl rfl ?_ | refine nx0 ?_
      repeat' (first | ((first | refine Qa rfl ?_ | refine Qc rfl rfl rfl ?_ | apply Qd rfl rfl rfl rfl | (apply Qe rfl rfl rfl rfl; intro H9)); (first | refine Q0 ?_ | refine Q1 ?_ | refine Q2 rfl ?_ | refine Q3 rfl rfl rfl ?_ | refine Q4 rfl rfl rfl rfl rfl ?_ | refine Q5 rfl ?_ | refine Q6 rfl ?_ | refine Q7 rfl rfl rfl ?_ | refine Q8 rfl rfl rfl ?_ | refine Q9 rfl rfl rfl rfl ?_ | refine QA rfl rfl (by decide) ?_ | refine QB rfl rfl (by decide) ?_ | refine QC rfl rfl ?_ | refine QD rfl ?_ | refine QE rfl rfl ?_ | refine QF rfl rfl ?_ | refine QG rfl rfl rfl rfl ?_ | refine QH rfl rfl rfl ?_ | refine QI rfl rfl rfl ?_ | refine QJ rfl rfl ?_ | refine QK rfl ?_ | refine QM rfl rfl rfl rfl rfl ?_ | refine QN ?_ | refine QO ?_ | refine QP rfl rfl rfl rfl rfl rfl ?_ | refine QQ rfl rfl rfl rfl rfl rfl rfl rfl rfl rfl rfl ?_ | refine QR rfl rfl rfl rfl rfl rfl rfl rfl rfl rfl rfl rfl ?_); (first | exact QX rfl rfl ⟨rfl, rfl⟩ | exact QY rfl ⟨rfl, rfl⟩ | exact QZ ⟨rfl, rfl⟩ | refine QX rfl rfl ?_ | refine QZ ?_)) | refine Qa rfl ?_ | (refine Qb rfl ?_; try (refine QS rfl rfl rfl rfl rfl rfl rfl ?_; (first | refine QX rfl rfl ?_ | refine QZ ?_))) | refine Qh ?_ | refine Qi rfl ?_ | refine Qj rfl ?_ | (refine Qf rfl rfl rfl ?_; refine QS rfl rfl rfl rfl rfl rfl rfl ?_; (first | refine QX rfl rfl ?_ | refine QZ ?_)) | apply Qg rfl rfl | refine Qk ?_ | refine Ql ?_ | refine Qm ?_ | refine Qn ?_ | refine Qo rfl ?_ | refine Qp rfl ?_ | refine Qq rfl ?_ | refine Qr ?_ | refine Qs ?_ | refine Qt ?_ | refine Qu ?_ | refine Qv ?_ | refine Qw (by kernel_rfl) ?_ | refine Qx rfl (by kernel_rfl) ?_)
      refine awp_cond_dec rfl (fun h5 => ?_) (fun h5 => ?_)
      · have h6 : i = 0 := by omega
        rw [if_pos h6] at hap
        repeat' (first | ((first | refine Qa rfl ?_ | refine Qc rfl rfl rfl ?_ | apply Qd rfl rfl rfl rfl | (apply Qe rfl rfl rfl rfl; intro H9)); (first | refine Q0 ?_ | refine Q1 ?_ | refine Q2 rfl ?_ | refine Q3 rfl rfl rfl ?_ | refine Q4 rfl rfl rfl rfl rfl ?_ | refine Q5 rfl ?_ | refine Q6 rfl ?_ | refine Q7 rfl rfl rfl ?_ | refine Q8 rfl rfl rfl ?_ | refine Q9 rfl rfl rfl rfl ?_ | refine QA rfl rfl (by decide) ?_ | refine QB rfl rfl (by decide) ?_ | refine QC rfl rfl ?_ | refine QD rfl ?_ | refine QE rfl rfl ?_ | refine QF rfl rfl ?_ | refine QG rfl rfl rfl rfl ?_ | refine QH rfl rfl rfl ?_ | refine QI rfl rfl rfl ?_ | refine QJ rfl rfl ?_ | refine QK rfl ?_ | refine QM rfl rfl rfl rfl rfl ?_ | refine QN ?_ | refine QO ?_ | refine QP rfl rfl rfl rfl rfl rfl ?_ | refine QQ rfl rfl rfl rfl rfl rfl rfl rfl rfl rfl rfl ?_ | refine QR rfl rfl rfl rfl rfl rfl rfl rfl rfl rfl rfl rfl ?_); (first | exact QX rfl rfl ⟨rfl, rfl⟩ | exact QY rfl ⟨rfl, rfl⟩ | exact QZ ⟨rfl, rfl⟩ | refine QX rfl rfl ?_ | refine QZ ?_)) | refine Qa rfl ?_ | (refine Qb rfl ?_; try (refine QS rfl rfl rfl rfl rfl rfl rfl ?_; (first | refine QX rfl rfl ?_ | refine QZ ?_))) | refine Qh ?_ | refine Qi rfl ?_ | refine Qj rfl ?_ | (refine Qf rfl rfl rfl ?_; refine QS rfl rfl rfl rfl rfl rfl rfl ?_; (first | refine QX rfl rfl ?_ | refine QZ ?_)) | apply Qg rfl rfl | refine Qk ?_ | refine Ql ?_ | refine Qm ?_ | refine Qn ?_ | refine Qo rfl ?_ | refine Qp rfl ?_ | refine Qq rfl ?_ | refine Qr ?_ | refine Qs ?_ | refine Qt ?_ | refine Qu ?_ | refine Qv ?_ | refine Qw (by kernel_rfl) ?_ | refine Qx rfl (by kernel_rfl) ?_)
        refine st_call (fun _ => rfl) rfl ?_
        refine ACalls.mono (hap _) ?_
        rintro r H' ⟨rfl, rfl⟩
        first | refine nx rfl rfl ?_ | refine nx0 ?_
        repeat' (first | ((first | refine Qa rfl ?_ | refine Qc rfl rfl rfl ?_ | apply Qd rfl rfl rfl rfl | (apply Qe rfl rfl rfl rfl; intro H9)); (first | refine Q0 ?_ | refine Q1 ?_ | refine Q2 rfl ?_ | refine Q3 rfl rfl rfl ?_ | refine Q4 rfl rfl rfl rfl rfl ?_ | refine Q5 rfl ?_ | refine Q6 rfl ?_ | refine Q7 rfl rfl rfl ?_ | refine Q8 rfl rfl rfl ?_ | refine Q9 rfl rfl rfl rfl ?_ | refine QA rfl rfl (by decide) ?_ | refine QB rfl rfl (by decide) ?_ | refine QC rfl rfl ?_ | refine QD rfl ?_ | refine QE rfl rfl ?_ | refine QF rfl rfl ?_ | refine QG rfl rfl rfl rfl ?_ | refine QH rfl rfl rfl ?_ | refine QI rfl rfl rfl ?_ | refine QJ rfl rfl ?_ | refine QK rfl ?_ | refine QM rfl rfl rfl rfl rfl ?_ | refine QN ?_ | refine QO ?_ | refine QP rfl rfl rfl rfl rfl rfl ?_ | refine QQ rfl rfl rfl rfl rfl rfl rfl rfl rfl rfl rfl ?_ | refine QR rfl rfl rfl rfl rfl rfl rfl rfl rfl rfl rfl rfl ?_); (first | exact QX rfl rfl ⟨rfl, rfl⟩ | exact QY rfl ⟨rfl, rfl⟩ | exact QZ ⟨rfl, rfl⟩ | refine QX rfl rfl ?_ | refine QZ ?_)) | refine Qa rfl ?_ | (refine Qb rfl ?_; try (refine QS rfl rfl rfl rfl rfl rfl rfl ?_; (first | refine QX rfl rfl ?_ | refine QZ ?_))) | refine Qh ?_ | refine Qi rfl ?_ | refine Qj rfl ?_ | (refine Qf rfl rfl rfl ?_; refine QS rfl rfl rfl rfl rfl rfl rfl ?_; (first | refine QX rfl rfl ?_ | refine QZ ?_)) | apply Qg rfl rfl | refine Qk ?_ | refine Ql ?_ | refine Qm ?_ | refine Qn ?_ | refine Qo rfl ?_ | refine Qp rfl ?_ | refine Qq rfl ?_ | refine Qr ?_ | refine Qs ?_ | refine Qt ?_ | refine Qu ?_ | refine Qv ?_ | refine Qw (by kernel_rfl) ?_ | refine Qx rfl (by kernel_rfl) ?_)
        refine ⟨(i + 1, v2), ⟨by show i + 1 ≤ lim; omega, hv2, hj2⟩, by show lim - (i + 1) < lim - i; omega, imp_cutk 3 (Nat.zero_le _) (hok_dev _) rfl (by simp [devH]) ?_⟩
        repeat' (first | exact fa_nil | refine fa_cons ⟨?_, ?_⟩ ?_)
        all_goals (try first | exact rfl | exact trivial | (simp [IdsLt, IdsLtL]; done) | (simp [get_cons]; done) | (simp [get_cons, *]; done) | (refine congrArg (AV.int .i64) (wrap_eq ?_ ?_ ?_) <;> (first | omega | (simp; omega))))
      · have h6 : ¬ i = 0 := by omega
        rw [if_neg h6] at hap
        repeat' (first | ((first | refine Qa rfl ?_ | refine Qc rfl rfl rfl ?_ | apply Qd rfl rfl rfl rfl | (apply Qe rfl rfl rfl rfl; intro H9)); (first | refine Q0 ?_ | refine Q1 ?_ | refine Q2 rfl ?_ | refine Q3 rfl rfl rfl ?_ | refine Q4 rfl rfl rfl rfl rfl ?_ | refine Q5 rfl ?_ | refine Q6 rfl ?_ | refine Q7 rfl rfl rfl ?_ | refine Q8 rfl rfl rfl ?_ | refine Q9 rfl rfl rfl rfl ?_ | refine QA rfl rfl (by decide) ?_ | refine QB rfl rfl (by decide) ?_ | refine QC rfl rfl ?_ | refine QD rfl ?_ | refine QE rfl rfl ?_ | refine QF rfl rfl ?_ | refine QG rfl rfl rfl rfl ?_ | refine QH rfl rfl rfl ?_ | refine QI rfl rfl rfl ?_ | refine QJ rfl rfl ?_ | refine QK rfl ?_ | refine QM rfl rfl rfl rfl rfl ?_ | refine QN ?_ | refine QO ?_ | refine QP rfl rfl rfl rfl rfl rfl ?_ | refine QQ rfl rfl rfl rfl rfl rfl rfl rfl rfl rfl rfl ?_ | refine QR rfl rfl rfl rfl rfl rfl rfl rfl rfl rfl rfl rfl ?_); (first | exact QX rfl rfl ⟨rfl, rfl⟩ | exact QY rfl ⟨rfl, rfl⟩ | exact QZ ⟨rfl, rfl⟩ | refine QX rfl rfl ?_ | refine QZ ?_)) | refine Qa rfl ?_ | (refine Qb rfl ?_; try (refine QS rfl rfl rfl rfl rfl rfl rfl ?_; (first | refine QX rfl rfl ?_ | refine QZ ?_))) | refine Qh ?_ | refine Qi rfl ?_ | refine Qj rfl ?_ | (refine Qf rfl rfl rfl ?_; refine QS rfl rfl rfl rfl rfl rfl rfl ?_; (first | refine QX rfl rfl ?_ | refine QZ ?_)) | apply Qg rfl rfl | refine Qk ?_ | refine Ql ?_ | refine Qm ?_ | refine Qn ?_ | refine Qo rfl ?_ | refine Qp rfl ?_ | refine Qq rfl ?_ | refine Qr ?_ | refine Qs ?_ | refine Qt ?_ | refine Qu ?_ | refine Qv ?_ | refine Qw (by kernel_rfl) ?_ | refine Qx rfl (by kernel_rfl) ?_)
        refine st_call (fun _ => rfl) rfl ?_
        refine ACalls.mono (hap _) ?_
        rintro r H' ⟨rfl, rfl⟩
        first | refine nx rfl rfl ?_ | refine nx0 ?_
        repeat' (first | ((first | refine Qa rfl ?_ | refine Qc rfl rfl rfl ?_ | apply Qd rfl rfl rfl rfl | (apply Qe rfl rfl rfl rfl; intro H9)); (first | refine Q0 ?_ | refine Q1 ?_ | refine Q2 rfl ?_ | refine Q3 rfl rfl rfl ?_ | refine Q4 rfl rfl rfl rfl rfl ?_ | refine Q5 rfl ?_ | refine Q6 rfl ?_ | refine Q7 rfl rfl rfl ?_ | refine Q8 rfl rfl rfl ?_ | refine Q9 rfl rfl rfl rfl ?_ | refine QA rfl rfl (by decide) ?_ | refine QB rfl rfl (by decide) ?_ | refine QC rfl rfl ?_ | refine QD rfl ?_ | refine QE rfl rfl ?_ | refine QF rfl rfl ?_ | refine QG rfl rfl rfl rfl ?_ | refine QH rfl rfl rfl ?_ | refine QI rfl rfl rfl ?_ | refine QJ rfl rfl ?_ | refine QK rfl ?_ | refine QM rfl rfl rfl rfl rfl ?_ | refine QN ?_ | refine QO ?_ | refine QP rfl rfl rfl rfl rfl rfl ?_ | refine QQ rfl rfl rfl rfl rfl rfl rfl rfl rfl rfl rfl ?_ | refine QR rfl rfl rfl rfl rfl rfl rfl rfl rfl rfl rfl rfl ?_); (first | exact QX rfl rfl ⟨rfl, rfl⟩ | exact QY rfl ⟨rfl, rfl⟩ | exact QZ ⟨rfl, rfl⟩ | refine QX rfl rfl ?_ | refine QZ ?_)) | refine Qa rfl ?_ | (refine Qb rfl ?_; try (refine QS rfl rfl rfl rfl rfl rfl rfl ?_; (first | refine QX rfl rfl ?_ | refine QZ ?_))) | refine Qh ?_ | refine Qi rfl ?_ | refine Qj rfl ?_ | (refine Qf rfl rfl rfl ?_; refine QS rfl rfl rfl rfl rfl rfl rfl ?_; (first | refine QX rfl rfl ?_ | refine QZ ?_)) | apply Qg rfl rfl | refine Qk ?_ | refine Ql ?_ | refine Qm ?_ | refine Qn ?_ | refine Qo rfl ?_ | refine Qp rfl ?_ | refine Qq rfl ?_ | refine Qr ?_ | refine Qs ?_ | refine Qt ?_ | refine Qu ?_ | refine Qv ?_ | refine Qw (by kernel_rfl) ?_ | refine Qx rfl (by kernel_rfl) ?_)
        refine ⟨(i + 1, v2), ⟨by show i + 1 ≤ lim; omega, hv2, hj2⟩, by show lim - (i + 1) < lim - i; omega, imp_cutk 3 (Nat.zero_le _) (hok_dev _) rfl (by simp [devH]) ?_⟩
        repeat' (first | exact fa_nil | refine fa_cons ⟨?_, ?_⟩ ?_)
        all_goals (try first | exact rfl | exact trivial | (simp [IdsLt, IdsLtL]; done) | (simp [get_cons]; done) | (simp [get_cons, *]; done) | (refine congrArg (AV.int .i64) (wrap_eq ?_ ?_ ?_) <;> (first | omega | (simp; omega))))
    · have hi4 : i = lim := by omega
      subst hi4
      rw [← hwk] at hj
      repeat' (first | ((first | refine Qa rfl ?_ | refine Qc rfl rfl rfl ?_ | apply Qd rfl rfl rfl rfl | (apply Qe rfl rfl rfl rfl; intro H9)); (first | refine Q0 ?_ | refine Q1 ?_ | refine Q2 rfl ?_ | refine Q3 rfl rfl rfl ?_ | refine Q4 rfl rfl rfl rfl rfl ?_ | refine Q5 rfl ?_ | refine Q6 rfl ?_ | refine Q7 rfl rfl rfl ?_ | refine Q8 rfl rfl rfl ?_ | refine Q9 rfl rfl rfl rfl ?_ | refine QA rfl rfl (by decide) ?_ | refine QB rfl rfl (by decide) ?_ | refine QC rfl rfl ?_ | refine QD rfl ?_ | refine QE rfl rfl ?_ | refine QF rfl rfl ?_ | refine QG rfl rfl rfl rfl ?_ | refine QH rfl rfl rfl ?_ | refine QI rfl rfl rfl ?_ | refine QJ rfl rfl ?_ | refine QK rfl ?_ | refine QM rfl rfl rfl rfl rfl ?_ | refine QN ?_ | refine QO ?_ | refine QP rfl rfl rfl rfl rfl rfl ?_ | refine QQ rfl rfl rfl rfl rfl rfl rfl rfl rfl rfl rfl ?_ | refine QR rfl rfl rfl rfl rfl rfl rfl rfl rfl rfl rfl rfl ?_); (first | exact QX rfl rfl ⟨rfl, rfl⟩ | exact QY rfl ⟨rfl, rfl⟩ | exact QZ ⟨rfl, rfl⟩ | refine QX rfl rfl ?_ | refine QZ ?_)) | refine Qa rfl ?_ | (refine Qb rfl ?_; try (refine QS rfl rfl rfl rfl rfl rfl rfl ?_; (first | refine QX rfl rfl ?_ | refine QZ ?_))) | refine Qh ?_ | refine Qi rfl ?_ | refine Qj rfl ?_ | (refine Qf rfl rfl rfl ?_; refine QS rfl rfl rfl rfl rfl rfl rfl ?_; (first | refine QX rfl rfl ?_ | refine QZ ?_)) | apply Qg rfl rfl | refine Qk ?_ | refine Ql ?_ | refine Qm ?_ | refine Qn ?_ | refine Qo rfl ?_ | refine Qp rfl ?_ | refine Qq rfl ?_ | refine Qr ?_ | refine Qs ?_ | refine Qt ?_ | refine Qu ?_ | refine Qv ?_ | refine Qw (by kernel_rfl) ?_ | refine Qx rfl (by kernel_rfl) ?_)
      refine ⟨(k + 1, v), ⟨by show k + 1 ≤ 2; omega, hv, hj⟩, by show 2 - (k + 1) < 2 - k; omega, imp_cutk 3 (Nat.zero_le _) (hok_dev _) rfl (by simp [devH]) ?_⟩
      repeat' (first | exact fa_nil | refine fa_cons ⟨?_, ?_⟩ ?_)
      all_goals (try first | exact rfl | exact trivial | (simp [IdsLt, IdsLtL]; done) | (simp [get_cons]; done) | (simp [get_cons, *]; done) | (refine congrArg (AV.int .i64) (wrap_eq ?_ ?_ ?_) <;> (first | omega | (simp; omega))))
  · have hk2 : k = 2 := by omega
    subst hk2
    have hwo : wOk (wK m0 n m 2) := wK_ok (by omega) (by omega) (by omega)
    have hw1 : ∀ i, i < 36 → wK m0 n m 2 (2 + (m0 + 1) % 2 * 36 + i) = if i < n then some (pG m0 i) else none := fun i hi => by
      show wG (wG (fun _ => none) m0 n) (m0 + 1) m _ = _
      unfold wG
      rw [if_neg (by omega)]
      by_cases h : i < n
      · rw [if_pos (by omega), if_pos h]
        congr 2
        omega
      · rw [if_neg (by omega), if_neg h]
    have hw2 : ∀ i, i < 36 → wK m0 n m 2 (2 + (m0 + 1 + 1) % 2 * 36 + i) = if i < m then some (pG (m0 + 1) i) else none := fun i hi => by
      show wG (wG (fun _ => none) m0 n) (m0 + 1) m _ = _
      unfold wG
      by_cases h : i < m
      · rw [if_pos (by omega), if_pos h]
        congr 2
        omega
      · rw [if_neg (by omega), if_neg h, if_neg (by omega)]
    have hr1 : repl v (m0 : Int) = (List.range n).map fun i => (pG m0 i).pl := by
      refine repl_of (n := n) (by omega) (fun i => (pG m0 i).pl) (fun i hi => ?_) (fun h => ?_)
      · rw [rep_at hj hv (by decide) (by omega) (by omega) hwo, hw1 i (by omega), if_pos hi]
        exact if_pos ⟨rfl, rfl⟩
      · rw [rep_at hj hv (by decide) (by omega) h hwo, hw1 n h, if_neg (by omega)]
    have hr2 : repl v ((m0 + 1 : Nat) : Int) = (List.range m).map fun i => (pG (m0 + 1) i).pl := by
      refine repl_of (n := m) (by omega) (fun i => (pG (m0 + 1) i).pl) (fun i hi => ?_) (fun h => ?_)
      · rw [rep_at hj hv (by decide) (by omega) (by omega) hwo, hw2 i (by omega), if_pos hi]
        exact if_pos ⟨rfl, rfl⟩
      · rw [rep_at hj hv (by decide) (by omega) h hwo, hw2 m h, if_neg (by omega)]
    have hre1 := replay_c X v hv.inv (m0 : Int) (by omega)
    have hre2 := replay_c X v hv.inv ((m0 + 1 : Nat) : Int) (by omega)
    have hl1 : ((repl v (m0 : Int)).map plA).length = n := by rw [hr1]; simp
    have hl2 : ((repl v ((m0 + 1 : Nat) : Int)).map plA).length = m := by rw [hr2]; simp
    have hmk : IntKind.i64.wrap ((m0 : Int) + 1) = ((m0 + 1 : Nat) : Int) := wrap_eq (by omega) (by omega) (by omega)
    generalize repl v (m0 : Int) = L1 at *
    generalize repl v ((m0 + 1 : Nat) : Int) = L2 at *
    repeat' (first | ((first | refine Qa rfl ?_ | refine Qc rfl rfl rfl ?_ | apply Qd rfl rfl rfl rfl | (apply Qe rfl rfl rfl rfl; intro H9)); (first | refine Q0 ?_ | refine Q1 ?_ | refine Q2 rfl ?_ | refine Q3 rfl rfl rfl ?_ | refine Q4 rfl rfl rfl rfl rfl ?_ | refine Q5 rfl ?_ | refine Q6 rfl ?_ | refine Q7 rfl rfl rfl ?_ | refine Q8 rfl rfl rfl ?_ | refine Q9 rfl rfl rfl rfl ?_ | refine QA rfl rfl (by decide) ?_ | refine QB rfl rfl (by decide) ?_ | refine QC rfl rfl ?_ | refine QD rfl ?_ | refine QE rfl rfl ?_ | refine QF rfl rfl ?_ | refine QG rfl rfl rfl rfl ?_ | refine QH rfl rfl rfl ?_ | refine QI rfl rfl rfl ?_ | refine QJ rfl rfl ?_ | refine QK rfl ?_ | refine QM rfl rfl rfl rfl rfl ?_ | refine QN ?_ | refine QO ?_ | refine QP rfl rfl rfl rfl rfl rfl ?_ | refine QQ rfl rfl rfl rfl rfl rfl rfl rfl rfl rfl rfl ?_ | refine QR rfl rfl rfl rfl rfl rfl rfl rfl rfl rfl rfl rfl ?_); (first | exact QX rfl rfl ⟨rfl, rfl⟩ | exact QY rfl ⟨rfl, rfl⟩ | exact QZ ⟨rfl, rfl⟩ | refine QX rfl rfl ?_ | refine QZ ?_)) | refine Qa rfl ?_ | (refine Qb rfl ?_; try (refine QS rfl rfl rfl rfl rfl rfl rfl ?_; (first | refine QX rfl rfl ?_ | refine QZ ?_))) | refine Qh ?_ | refine Qi rfl ?_ | refine Qj rfl ?_ | (refine Qf rfl rfl rfl ?_; refine QS rfl rfl rfl rfl rfl rfl rfl ?_; (first | refine QX rfl rfl ?_ | refine QZ ?_)) | apply Qg rfl rfl | refine Qk ?_ | refine Ql ?_ | refine Qm ?_ | refine Qn ?_ | refine Qo rfl ?_ | refine Qp rfl ?_ | refine Qq rfl ?_ | refine Qr ?_ | refine Qs ?_ | refine Qt ?_ | refine Qu ?_ | refine Qv ?_ | refine Qw (by kernel_rfl) ?_ | refine Qx rfl (by kernel_rfl) ?_)
    refine st_call (fun _ => rfl) rfl ?_
    refine ACalls.mono (acalls_pure (E := E0 X) (fun X => awake_c X) (by simp [IdsLtL, IdsLt]) _) ?_
    rintro r H' ⟨rfl, rfl⟩
    first | refine nx rfl rfl ?_ | refine nx0 ?_
    repeat' (first | ((first | refine Qa rfl ?_ | refine Qc rfl rfl rfl ?_ | apply Qd rfl rfl rfl rfl | (apply Qe rfl rfl rfl rfl; intro H9)); (first | refine Q0 ?_ | refine Q1 ?_ | refine Q2 rfl ?_ | refine Q3 rfl rfl rfl ?_ | refine Q4 rfl rfl rfl rfl rfl ?_ | refine Q5 rfl ?_ | refine Q6 rfl ?_ | refine Q7 rfl rfl rfl ?_ | refine Q8 rfl rfl rfl ?_ | refine Q9 rfl rfl rfl rfl ?_ | refine QA rfl rfl (by decide) ?_ | refine QB rfl rfl (by decide) ?_ | refine QC rfl rfl ?_ | refine QD rfl ?_ | refine QE rfl rfl ?_ | refine QF rfl rfl ?_ | refine QG rfl rfl rfl rfl ?_ | refine QH rfl rfl rfl ?_ | refine QI rfl rfl rfl ?_ | refine QJ rfl rfl ?_ | refine QK rfl ?_ | refine QM rfl rfl rfl rfl rfl ?_ | refine QN ?_ | refine QO ?_ | refine QP rfl rfl rfl rfl rfl rfl ?_ | refine QQ rfl rfl rfl rfl rfl rfl rfl rfl rfl rfl rfl ?_ | refine QR rfl rfl rfl rfl rfl rfl rfl rfl rfl rfl rfl rfl ?_); (first | exact QX rfl rfl ⟨rfl, rfl⟩ | exact QY rfl ⟨rfl, rfl⟩ | exact QZ ⟨rfl, rfl⟩ | refine QX rfl rfl ?_ | refine QZ ?_)) | refine Qa rfl ?_ | (refine Qb rfl ?_; try (refine QS rfl rfl rfl rfl rfl rfl rfl ?_; (first | refine QX rfl rfl ?_ | refine QZ ?_))) | refine Qh ?_ | refine Qi rfl ?_ | refine Qj rfl ?_ | (refine Qf rfl rfl rfl ?_; refine QS rfl rfl rfl rfl rfl rfl rfl ?_; (first | refine QX rfl rfl ?_ | refine QZ ?_)) | apply Qg rfl rfl | refine Qk ?_ | refine Ql ?_ | refine Qm ?_ | refine Qn ?_ | refine Qo rfl ?_ | refine Qp rfl ?_ | refine Qq rfl ?_ | refine Qr ?_ | refine Qs ?_ | refine Qt ?_ | refine Qu ?_ | refine Qv ?_ | refine Qw (by kernel_rfl) ?_ | refine Qx rfl (by kernel_rfl) ?_)
    refine st_call (fun _ => rfl) rfl ?_
    refine ACalls.mono (hre1) ?_
    rintro r H' ⟨rfl, rfl⟩
    first | refine nx rfl rfl ?_ | refine nx0 ?_
    repeat' (first | ((first | refine Qa rfl ?_ | refine Qc rfl rfl rfl ?_ | apply Qd rfl rfl rfl rfl | (apply Qe rfl rfl rfl rfl; intro H9)); (first | refine Q0 ?_ | refine Q1 ?_ | refine Q2 rfl ?_ | refine Q3 rfl rfl rfl ?_ | refine Q4 rfl rfl rfl rfl rfl ?_ | refine Q5 rfl ?_ | refine Q6 rfl ?_ | refine Q7 rfl rfl rfl ?_ | refine Q8 rfl rfl rfl ?_ | refine Q9 rfl rfl rfl rfl ?_ | refine QA rfl rfl (by decide) ?_ | refine QB rfl rfl (by decide) ?_ | refine QC rfl rfl ?_ | refine QD rfl ?_ | refine QE rfl rfl ?_ | refine QF rfl rfl ?_ | refine QG rfl rfl rfl rfl ?_ | refine QH rfl rfl rfl ?_ | refine QI rfl rfl rfl ?_ | refine QJ rfl rfl ?_ | refine QK rfl ?_ | refine QM rfl rfl rfl rfl rfl ?_ | refine QN ?_ | refine QO ?_ | refine QP rfl rfl rfl rfl rfl rfl ?_ | refine QQ rfl rfl rfl rfl rfl rfl rfl rfl rfl rfl rfl ?_ | refine QR rfl rfl rfl rfl rfl rfl rfl rfl rfl rfl rfl rfl ?_); (first | exact QX rfl rfl ⟨rfl, rfl⟩ | exact QY rfl ⟨rfl, rfl⟩ | exact QZ ⟨rfl, rfl⟩ | refine QX rfl rfl ?_ | refine QZ ?_)) | refine Qa rfl ?_ | (refine Qb rfl ?_; try (refine QS rfl rfl rfl rfl rfl rfl rfl ?_; (first | refine QX rfl rfl ?_ | refine QZ ?_))) | refine Qh ?_ | refine Qi rfl ?_ | refine Qj rfl ?_ | (refine Qf rfl rfl rfl ?_; refine QS rfl rfl rfl rfl rfl rfl rfl ?_; (first | refine QX rfl rfl ?_ | refine QZ ?_)) | apply Qg rfl rfl | refine Qk ?_ | refine Ql ?_ | refine Qm ?_ | refine Qn ?_ | refine Qo rfl ?_ | refine Qp rfl ?_ | refine Qq rfl ?_ | refine Qr ?_ | refine Qs ?_ | refine Qt ?_ | refine Qu ?_ | refine Qv ?_ | refine Qw (by kernel_rfl) ?_ | refine Qx rfl (by kernel_rfl) ?_)
    rw [hl1]
    repeat' (first | ((first | refine Qa rfl ?_ | refine Qc rfl rfl rfl ?_ | apply Qd rfl rfl rfl rfl | (apply Qe rfl rfl rfl rfl; intro H9)); (first | refine Q0 ?_ | refine Q1 ?_ | refine Q2 rfl ?_ | refine Q3 rfl rfl rfl ?_ | refine Q4 rfl rfl rfl rfl rfl ?_ | refine Q5 rfl ?_ | refine Q6 rfl ?_ | refine Q7 rfl rfl rfl ?_ | refine Q8 rfl rfl rfl ?_ | refine Q9 rfl rfl rfl rfl ?_ | refine QA rfl rfl (by decide) ?_ | refine QB rfl rfl (by decide) ?_ | refine QC rfl rfl ?_ | refine QD rfl ?_ | refine QE rfl rfl ?_ | refine QF rfl rfl ?_ | refine QG rfl rfl rfl rfl ?_ | refine QH rfl rfl rfl ?_ | refine QI rfl rfl rfl ?_ | refine QJ rfl rfl ?_ | refine QK rfl ?_ | refine QM rfl rfl rfl rfl rfl ?_ | refine QN ?_ | refine QO ?_ | refine QP rfl rfl rfl rfl rfl rfl ?_ | refine QQ rfl rfl rfl rfl rfl rfl rfl rfl rfl rfl rfl ?_ | refine QR rfl rfl rfl rfl rfl rfl rfl rfl rfl rfl rfl rfl ?_); (first | exact QX rfl rfl ⟨rfl, rfl⟩ | exact QY rfl ⟨rfl, rfl⟩ | exact QZ ⟨rfl, rfl⟩ | refine QX rfl rfl ?_ | refine QZ ?_)) | refine Qa rfl ?_ | (refine Qb rfl ?_; try (refine QS rfl rfl rfl rfl rfl rfl rfl ?_; (first | refine QX rfl rfl ?_ | refine QZ ?_))) | refine Qh ?_ | refine Qi rfl ?_ | refine Qj rfl ?_ | (refine Qf rfl rfl rfl ?_; refine QS rfl rfl rfl rfl rfl rfl rfl ?_; (first | refine QX rfl rfl ?_ | refine QZ ?_)) | apply Qg rfl rfl | refine Qk ?_ | refine Ql ?_ | refine Qm ?_ | refine Qn ?_ | refine Qo rfl ?_ | refine Qp rfl ?_ | refine Qq rfl ?_ | refine Qr ?_ | refine Qs ?_ | refine Qt ?_ | refine Qu ?_ | refine Qv ?_ | refine Qw (by kernel_rfl) ?_ | refine Qx rfl (by kernel_rfl) ?_ | ((fail_if_success refine QV rfl ?_); first | refine Qy rfl rfl (fun _ => ?_) (fun _ => ?_) | refine Qz rfl rfl (fun _ => ?_) (fun _ => ?_)) | ((fail_if_success refine QW rfl rfl ?_); first | refine QT rfl rfl rfl (fun _ => ?_) (fun _ => ?_) | refine QU rfl rfl rfl (fun _ => ?_) (fun _ => ?_)))
    · rw [hmk]
      refine st_call (fun _ => rfl) rfl ?_
      refine ACalls.mono (hre2) ?_
      rintro r H' ⟨rfl, rfl⟩
      first | refine nx rfl rfl ?_ | refine nx0 ?_
      repeat' (first | ((first | refine Qa rfl ?_ | refine Qc rfl rfl rfl ?_ | apply Qd rfl rfl rfl rfl | (apply Qe rfl rfl rfl rfl; intro H9)); (first | refine Q0 ?_ | refine Q1 ?_ | refine Q2 rfl ?_ | refine Q3 rfl rfl rfl ?_ | refine Q4 rfl rfl rfl rfl rfl ?_ | refine Q5 rfl ?_ | refine Q6 rfl ?_ | refine Q7 rfl rfl rfl ?_ | refine Q8 rfl rfl rfl ?_ | refine Q9 rfl rfl rfl rfl ?_ | refine QA rfl rfl (by decide) ?_ | refine QB rfl rfl (by decide) ?_ | refine QC rfl rfl ?_ | refine QD rfl ?_ | refine QE rfl rfl ?_ | refine QF rfl rfl ?_ | refine QG rfl rfl rfl rfl ?_ | refine QH rfl rfl rfl ?_ | refine QI rfl rfl rfl ?_ | refine QJ rfl rfl ?_ | refine QK rfl ?_ | refine QM rfl rfl rfl rfl rfl ?_ | refine QN ?_ | refine QO ?_ | refine QP rfl rfl rfl rfl rfl rfl ?_ | refine QQ rfl rfl rfl rfl rfl rfl rfl rfl rfl rfl rfl ?_ | refine QR rfl rfl rfl rfl rfl rfl rfl rfl rfl rfl rfl rfl ?_); (first | exact QX rfl rfl ⟨rfl, rfl⟩ | exact QY rfl ⟨rfl, rfl⟩ | exact QZ ⟨rfl, rfl⟩ | refine QX rfl rfl ?_ | refine QZ ?_)) | refine Qa rfl ?_ | (refine Qb rfl ?_; try (refine QS rfl rfl rfl rfl rfl rfl rfl ?_; (first | refine QX rfl rfl ?_ | refine QZ ?_))) | refine Qh ?_ | refine Qi rfl ?_ | refine Qj rfl ?_ | (refine Qf rfl rfl rfl ?_; refine QS rfl rfl rfl rfl rfl rfl rfl ?_; (first | refine QX rfl rfl ?_ | refine QZ ?_)) | apply Qg rfl rfl | refine Qk ?_ | refine Ql ?_ | refine Qm ?_ | refine Qn ?_ | refine Qo rfl ?_ | refine Qp rfl ?_ | refine Qq rfl ?_ | refine Qr ?_ | refine Qs ?_ | refine Qt ?_ | refine Qu ?_ | refine Qv ?_ | refine Qw (by kernel_rfl) ?_ | refine Qx rfl (by kernel_rfl) ?_)
      rw [hl2]
      refine awp_pre (imp_cutk 0 (Nat.le_refl _) hok_nil rfl (by simp) (sl' := [(6, .bool true)]) ?_) ?_
      · repeat' (first | exact fa_nil | refine fa_cons ⟨?_, ?_⟩ ?_)
        all_goals (try first | exact rfl | exact trivial | (simp [IdsLt, IdsLtL]; done) | (simp [get_cons]; done) | (simp [get_cons, *]; done) | (refine congrArg (AV.int .i64) (wrap_eq ?_ ?_ ?_) <;> (first | omega | (simp; omega))))
      refine awp_ret ?_
      refine ⟨_, rfl, ?_, ?_⟩
      · rfl
      · rfl
    · rename_i h9
      exact absurd rfl h9
end Go.Abs
namespace Go.Proofs.YtlndakkehobnpaaDoor
open Go.Abs Go.RowKit Go.ChangeShapes Go.WideShapes
set_option maxRecDepth 100000 in
theorem logApartLifted (os : Os) (started : os.Started) (H : Type) (enc : TypeId × Value → H) :
    ReturnsInHanded {} Tryd.checked os 4 .any (fun w args => (Rows.logApartSpec.pre enc Tryd.prog Tryd.f4 [] false w args ∧ laidMetH Tryd.prog [("flashcache/crc.table", Rows.laid_flashcache_crc_table)] w) ∧ sizedMet enc Tryd.prog Tryd.f4 (OpenSpec.ofChange Rows.logApartSpec) false w args)
      (Rows.logApartSpec.post enc Tryd.prog Tryd.f4 false Rows.logApartRow.fresh Rows.logApartRow.handsOn Rows.logApartRow.again) := by
  refine returnsInHanded_of_change_and (C := Tryd.checked) (X := fun w _ => laidMetH Tryd.prog [("flashcache/crc.table", Rows.laid_flashcache_crc_table)] w) (fun _ _ _ hh h => h.of_heap hh) own0 started (by kernel_rfl) Tryd.func4
    (ChangeSpec.witness_shaped (enc := enc) (C := Tryd.checked) (os := os) (X := fun w _ => laidMetH Tryd.prog [("flashcache/crc.table", Rows.laid_flashcache_crc_table)] w) false (World.doorLaid Tryd.prog 400 os) #[.int .i64 0, .int .i64 0, .int .i64 0] 8 rfl (World.shaped_of_RefB (by kernel_rfl) (by kernel_rfl)) (by kernel_rfl) (by kernel_rfl) (by kernel_rfl) (door_met os _)) ?_
  intro W base args ds gs before hval0 hW _ _ hL _
  have hval : ∀ (j : Nat) t v, Tryd.f4.params[j]? = some t → args[j]? = some v → Value.okWide Tryd.prog W .any base t v := hval0
  have hW2 := hW
  obtain ⟨p, q, hA0, hV, _, _, _⟩ := hW2
  have hA : DataW.TrodAll enc Tryd.prog W 0 (fun _ => true) true [3, 3, 3] args.toList ds p := hA0
  obtain ⟨rfl, rfl⟩ := trodVars_none hV
  obtain ⟨v0, v1, v2, d0, d1, d2, p0, p1, p2, rfl, rfl, rfl, t0, t1, t2⟩ := trodAll_three hA
  obtain ⟨x0, r0, c0⟩ := arg_av (E := E0 fun _ => False) (E0_ok _) (fun _ h => h) (f := 1) rfl rfl (hval 0 3 v0 rfl rfl) t0
  obtain ⟨x1, r1, c1⟩ := arg_av (E := E0 fun _ => False) (E0_ok _) (fun _ h => h) (f := 1) rfl rfl (hval 1 3 v1 rfl rfl) t1
  obtain ⟨x2, r2, c2⟩ := arg_av (E := E0 fun _ => False) (E0_ok _) (fun _ h => h) (f := 1) rfl rfl (hval 2 3 v2 rfl rfl) t2
  obtain ⟨l0, rfl, g0, h0⟩ := int_of c0
  obtain ⟨l1, rfl, g1, h1⟩ := int_of c1
  obtain ⟨l2, rfl, g2, h2⟩ := int_of c2
  exact law_trueG (E := E0 fun _ => False) (avs := [.int .i64 l0, .int .i64 l1, .int .i64 l2]) (tb := 4) (E0_ok _) (glob_of_laid hL) (by kernel_rfl) rfl (by kernel_rfl) (by kernel_rfl) (by kernel_rfl) rfl rfl rfl hW (fun _ h => h)
    (RelL.cons r0 (RelL.cons r1 (RelL.cons r2 (by simp [Abs.RelL])))) (logApart_c _ l0 l1 l2)
theorem logApart_holds : Rows.LogApartSaid :=
  OpenClaim.holds_of_wide 4 Tryd.f4 rfl rfl rfl rfl rfl rfl rfl ⟨rfl, rfl, rfl, rfl, rfl⟩ rfl rfl rfl rfl rfl (by kernel_rfl) Tryd.func4 (by kernel_rfl)
    (of_decide_eq_true (by kernel_rfl)) (by unfold Func.isWrapper; rw [if_neg (of_decide_eq_false (by kernel_rfl))]; exact ⟨rfl, rfl⟩)
    (fun os started H enc _ => logApartLifted os started H enc)
theorem logApart_card : Rows.LogApartCardSaid :=
  Claim7.holds_tied_plain_at .later [] [.data] true (true, "ef1fa8f3014c6e3fe2b1907d4f734f2c932dc2d5fe76d3eb980f0835b0714608") false
    logApart_holds (fun _ h => by cases h) (by kernel_rfl) (fun _ h => by cases h) logApart_row_tie rfl ⟨rfl, rfl⟩ (by kernel_rfl) rfl
    (fun f fn hf hfn => by
      obtain rfl : f = 4 := Option.some.inj ((show Tryd.prog.funcNamed "flashcache/flashcachelaw11.LogApart" = some 4 by kernel_rfl).symm.trans hf) |>.symm
      obtain rfl : fn = Tryd.f4 := (Option.some.inj (Tryd.func4.symm.trans hfn)).symm
      exact ⟨by kernel_rfl, fun j t ht => by
        have ht : (#[3, 3, 3] : Array TypeId)[j]? = some t := ht
        have hm : t ∈ [3, 3, 3] := by simpa using Array.mem_of_getElem? ht
        have hall : ([3, 3, 3].all fun u => !Tryd.prog.wantsStandIn u) = true := by kernel_rfl
        exact (show Tryd.prog.wantsStandIn t = false by simpa using List.all_eq_true.1 hall t hm)⟩)
    (by kernel_rfl)
end Go.Proofs.YtlndakkehobnpaaDoor
