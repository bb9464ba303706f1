/- LogSector: the walk. Joined texts, each with what its own name promises; no condition beyond those stated. -/
import Derived.Test.YtlndakkehobnpaaDoorME
namespace Go.Abs
theorem rsec_wrap {mig idx : Int} (h1 : 1 ≤ mig) (h2 : mig ≤ 9223372036854775807) (h3 : 0 ≤ idx) (h4 : idx < 36) :
    IntKind.i64.wrap (IntKind.i64.wrap (2 + IntKind.i64.wrap (IntKind.i64.wrap (1 - mig.tmod 2) * 36)) + idx) = 2 + (mig + 1) % 2 * 36 + idx := by
  have h5 : mig.tmod 2 = mig % 2 := Int.tmod_eq_emod_of_nonneg (by omega)
  have h6 : IntKind.i64.wrap (1 - mig % 2) = (mig + 1) % 2 := by rw [wrap_in (by omega) (by omega)]; omega
  have h7 : 0 ≤ (mig + 1) % 2 ∧ (mig + 1) % 2 < 2 := by omega
  rw [h5, h6]
  generalize (mig + 1) % 2 = z at *
  have h8 : IntKind.i64.wrap (z * 36) = z * 36 := wrap_in (by omega) (by omega)
  rw [h8]
  have h9 : IntKind.i64.wrap (2 + z * 36) = 2 + z * 36 := wrap_in (by omega) (by omega)
  rw [h9]
  exact wrap_in (by omega) (by omega)
attribute [local irreducible] AStep aops AWp Nx awM
set_option maxHeartbeats 0 in
theorem rsector_c (X : Nat → Prop) (mig idx : Int) (hm : mig ≤ 9223372036854775807) : ACalls (E0 X) 17 [.int .i64 mig, .int .i64 idx] [] (fun r H' => r = .int .i64 (secI mig idx) ∧ H' = []) := by
  refine acalls_of Proofs.Tryd.func17 rfl Proofs.Tryd.ntmps17 (by kernel_rfl) rfl ?_
  intro hH hargs
  clear hH hargs
  repeat' (first | ((first | refine Qa rfl ?_ | refine Qc rfl rfl rfl ?_ | apply Qd rfl rfl rfl rfl | (apply Qe rfl rfl rfl rfl; intro H9)); (first | refine Q0 ?_ | refine Q1 ?_ | refine Q2 rfl ?_ | refine Q3 rfl rfl rfl ?_ | refine Q4 rfl rfl rfl rfl rfl ?_ | refine Q5 rfl ?_ | refine Q6 rfl ?_ | refine Q7 rfl rfl rfl ?_ | refine Q8 rfl rfl rfl ?_ | refine Q9 rfl rfl rfl rfl ?_ | refine QA rfl rfl (by decide) ?_ | refine QB rfl rfl (by decide) ?_ | refine QC rfl rfl ?_ | refine QD rfl ?_ | refine QE rfl rfl ?_ | refine QF rfl rfl ?_ | refine QG rfl rfl rfl rfl ?_ | refine QH rfl rfl rfl ?_ | refine QI rfl rfl rfl ?_ | refine QJ rfl rfl ?_ | refine QK rfl ?_ | refine QM rfl rfl rfl rfl rfl ?_ | refine QN ?_ | refine QO ?_ | refine QP rfl rfl rfl rfl rfl rfl ?_ | refine QQ rfl rfl rfl rfl rfl rfl rfl rfl rfl rfl rfl ?_ | refine QR rfl rfl rfl rfl rfl rfl rfl rfl rfl rfl rfl rfl ?_); (first | exact QX rfl rfl ⟨rfl, rfl⟩ | exact QY rfl ⟨rfl, rfl⟩ | exact QZ ⟨rfl, rfl⟩ | refine QX rfl rfl ?_ | refine QZ ?_)) | refine Qa rfl ?_ | (refine Qb rfl ?_; try (refine QS rfl rfl rfl rfl rfl rfl rfl ?_; (first | refine QX rfl rfl ?_ | refine QZ ?_))) | refine Qh ?_ | refine Qi rfl ?_ | refine Qj rfl ?_ | (refine Qf rfl rfl rfl ?_; refine QS rfl rfl rfl rfl rfl rfl rfl ?_; (first | refine QX rfl rfl ?_ | refine QZ ?_)) | apply Qg rfl rfl | refine Qk ?_ | refine Ql ?_ | refine Qm ?_ | refine Qn ?_ | refine Qo rfl ?_ | refine Qp rfl ?_ | refine Qq rfl ?_ | refine Qr ?_ | refine Qs ?_ | refine Qt ?_ | refine Qu ?_ | refine Qv ?_ | refine Qw (by kernel_rfl) ?_ | refine Qx rfl (by kernel_rfl) ?_ | ((fail_if_success refine QV rfl ?_); first | refine Qy rfl rfl (fun _ => ?_) (fun _ => ?_) | refine Qz rfl rfl (fun _ => ?_) (fun _ => ?_)) | ((fail_if_success refine QW rfl rfl ?_); first | refine QT rfl rfl rfl (fun _ => ?_) (fun _ => ?_) | refine QU rfl rfl rfl (fun _ => ?_) (fun _ => ?_)))
  · rename_i h1
    refine awp_ret ?_
    refine ⟨_, rfl, ?_, ?_⟩
    · simp [secI, h1] <;> rfl
    · rfl
  · rename_i h1 h2
    refine awp_ret ?_
    refine ⟨_, rfl, ?_, ?_⟩
    · simp [secI, h2] <;> rfl
    · rfl
  · rename_i h1 h2
    refine awp_cond_dec rfl (fun h3 => ?_) (fun h3 => ?_)
    · skip
      repeat' (first | ((first | refine Qa rfl ?_ | refine Qc rfl rfl rfl ?_ | apply Qd rfl rfl rfl rfl | (apply Qe rfl rfl rfl rfl; intro H9)); (first | refine Q0 ?_ | refine Q1 ?_ | refine Q2 rfl ?_ | refine Q3 rfl rfl rfl ?_ | refine Q4 rfl rfl rfl rfl rfl ?_ | refine Q5 rfl ?_ | refine Q6 rfl ?_ | refine Q7 rfl rfl rfl ?_ | refine Q8 rfl rfl rfl ?_ | refine Q9 rfl rfl rfl rfl ?_ | refine QA rfl rfl (by decide) ?_ | refine QB rfl rfl (by decide) ?_ | refine QC rfl rfl ?_ | refine QD rfl ?_ | refine QE rfl rfl ?_ | refine QF rfl rfl ?_ | refine QG rfl rfl rfl rfl ?_ | refine QH rfl rfl rfl ?_ | refine QI rfl rfl rfl ?_ | refine QJ rfl rfl ?_ | refine QK rfl ?_ | refine QM rfl rfl rfl rfl rfl ?_ | refine QN ?_ | refine QO ?_ | refine QP rfl rfl rfl rfl rfl rfl ?_ | refine QQ rfl rfl rfl rfl rfl rfl rfl rfl rfl rfl rfl ?_ | refine QR rfl rfl rfl rfl rfl rfl rfl rfl rfl rfl rfl rfl ?_); (first | exact QX rfl rfl ⟨rfl, rfl⟩ | exact QY rfl ⟨rfl, rfl⟩ | exact QZ ⟨rfl, rfl⟩ | refine QX rfl rfl ?_ | refine QZ ?_)) | refine Qa rfl ?_ | (refine Qb rfl ?_; try (refine QS rfl rfl rfl rfl rfl rfl rfl ?_; (first | refine QX rfl rfl ?_ | refine QZ ?_))) | refine Qh ?_ | refine Qi rfl ?_ | refine Qj rfl ?_ | (refine Qf rfl rfl rfl ?_; refine QS rfl rfl rfl rfl rfl rfl rfl ?_; (first | refine QX rfl rfl ?_ | refine QZ ?_)) | apply Qg rfl rfl | refine Qk ?_ | refine Ql ?_ | refine Qm ?_ | refine Qn ?_ | refine Qo rfl ?_ | refine Qp rfl ?_ | refine Qq rfl ?_ | refine Qr ?_ | refine Qs ?_ | refine Qt ?_ | refine Qu ?_ | refine Qv ?_ | refine Qw (by kernel_rfl) ?_ | refine Qx rfl (by kernel_rfl) ?_)
      refine awp_ret ?_
      refine ⟨_, rfl, ?_, ?_⟩
      · simp [secI, h3] <;> rfl
      · rfl
    · skip
      repeat' (first | ((first | refine Qa rfl ?_ | refine Qc rfl rfl rfl ?_ | apply Qd rfl rfl rfl rfl | (apply Qe rfl rfl rfl rfl; intro H9)); (first | refine Q0 ?_ | refine Q1 ?_ | refine Q2 rfl ?_ | refine Q3 rfl rfl rfl ?_ | refine Q4 rfl rfl rfl rfl rfl ?_ | refine Q5 rfl ?_ | refine Q6 rfl ?_ | refine Q7 rfl rfl rfl ?_ | refine Q8 rfl rfl rfl ?_ | refine Q9 rfl rfl rfl rfl ?_ | refine QA rfl rfl (by decide) ?_ | refine QB rfl rfl (by decide) ?_ | refine QC rfl rfl ?_ | refine QD rfl ?_ | refine QE rfl rfl ?_ | refine QF rfl rfl ?_ | refine QG rfl rfl rfl rfl ?_ | refine QH rfl rfl rfl ?_ | refine QI rfl rfl rfl ?_ | refine QJ rfl rfl ?_ | refine QK rfl ?_ | refine QM rfl rfl rfl rfl rfl ?_ | refine QN ?_ | refine QO ?_ | refine QP rfl rfl rfl rfl rfl rfl ?_ | refine QQ rfl rfl rfl rfl rfl rfl rfl rfl rfl rfl rfl ?_ | refine QR rfl rfl rfl rfl rfl rfl rfl rfl rfl rfl rfl rfl ?_); (first | exact QX rfl rfl ⟨rfl, rfl⟩ | exact QY rfl ⟨rfl, rfl⟩ | exact QZ ⟨rfl, rfl⟩ | refine QX rfl rfl ?_ | refine QZ ?_)) | refine Qa rfl ?_ | (refine Qb rfl ?_; try (refine QS rfl rfl rfl rfl rfl rfl rfl ?_; (first | refine QX rfl rfl ?_ | refine QZ ?_))) | refine Qh ?_ | refine Qi rfl ?_ | refine Qj rfl ?_ | (refine Qf rfl rfl rfl ?_; refine QS rfl rfl rfl rfl rfl rfl rfl ?_; (first | refine QX rfl rfl ?_ | refine QZ ?_)) | apply Qg rfl rfl | refine Qk ?_ | refine Ql ?_ | refine Qm ?_ | refine Qn ?_ | refine Qo rfl ?_ | refine Qp rfl ?_ | refine Qq rfl ?_ | refine Qr ?_ | refine Qs ?_ | refine Qt ?_ | refine Qu ?_ | refine Qv ?_ | refine Qw (by kernel_rfl) ?_ | refine Qx rfl (by kernel_rfl) ?_)
      refine awp_ret ?_
      refine ⟨_, rfl, ?_, ?_⟩
      · refine congrArg (AV.int .i64) ?_
        rw [secI, if_neg (by omega)]
        exact rsec_wrap (by omega) hm (by omega) (by omega)
      · rfl
set_option maxHeartbeats 0 in
set_option maxRecDepth 100000 in
theorem logSector_c (X : Nat → Prop) (mig idx oth : Int) (hm : mig ≤ 9223372036854775807) :
    ACalls (E0 X) 3 [.int .i64 mig, .int .i64 idx, .int .i64 oth] [] (fun r H' => r = .bool true ∧ H' = []) := by
  refine acalls_of Proofs.Tryd.func3 rfl Proofs.Tryd.ntmps3 (by kernel_rfl) rfl ?_
  intro hH hargs
  clear hH hargs
  repeat' (first | ((first | refine Qa rfl ?_ | refine Qc rfl rfl rfl ?_ | apply Qd rfl rfl rfl rfl | (apply Qe rfl rfl rfl rfl; intro H9)); (first | refine Q0 ?_ | refine Q1 ?_ | refine Q2 rfl ?_ | refine Q3 rfl rfl rfl ?_ | refine Q4 rfl rfl rfl rfl rfl ?_ | refine Q5 rfl ?_ | refine Q6 rfl ?_ | refine Q7 rfl rfl rfl ?_ | refine Q8 rfl rfl rfl ?_ | refine Q9 rfl rfl rfl rfl ?_ | refine QA rfl rfl (by decide) ?_ | refine QB rfl rfl (by decide) ?_ | refine QC rfl rfl ?_ | refine QD rfl ?_ | refine QE rfl rfl ?_ | refine QF rfl rfl ?_ | refine QG rfl rfl rfl rfl ?_ | refine QH rfl rfl rfl ?_ | refine QI rfl rfl rfl ?_ | refine QJ rfl rfl ?_ | refine QK rfl ?_ | refine QM rfl rfl rfl rfl rfl ?_ | refine QN ?_ | refine QO ?_ | refine QP rfl rfl rfl rfl rfl rfl ?_ | refine QQ rfl rfl rfl rfl rfl rfl rfl rfl rfl rfl rfl ?_ | refine QR rfl rfl rfl rfl rfl rfl rfl rfl rfl rfl rfl rfl ?_); (first | exact QX rfl rfl ⟨rfl, rfl⟩ | exact QY rfl ⟨rfl, rfl⟩ | exact QZ ⟨rfl, rfl⟩ | refine QX rfl rfl ?_ | refine QZ ?_)) | refine Qa rfl ?_ | (refine Qb rfl ?_; try (refine QS rfl rfl rfl rfl rfl rfl rfl ?_; (first | refine QX rfl rfl ?_ | refine QZ ?_))) | refine Qh ?_ | refine Qi rfl ?_ | refine Qj rfl ?_ | (refine Qf rfl rfl rfl ?_; refine QS rfl rfl rfl rfl rfl rfl rfl ?_; (first | refine QX rfl rfl ?_ | refine QZ ?_)) | apply Qg rfl rfl | refine Qk ?_ | refine Ql ?_ | refine Qm ?_ | refine Qn ?_ | refine Qo rfl ?_ | refine Qp rfl ?_ | refine Qq rfl ?_ | refine Qr ?_ | refine Qs ?_ | refine Qt ?_ | refine Qu ?_ | refine Qv ?_ | refine Qw (by kernel_rfl) ?_ | refine Qx rfl (by kernel_rfl) ?_)
  refine st_call (fun _ => rfl) rfl ?_
  refine ACalls.mono (sector_c X mig idx hm) ?_
  rintro r H' ⟨rfl, rfl⟩
  first | refine nx rfl rfl ?_ | refine nx0 ?_
  repeat' (first | ((first | refine Qa rfl ?_ | refine Qc rfl rfl rfl ?_ | apply Qd rfl rfl rfl rfl | (apply Qe rfl rfl rfl rfl; intro H9)); (first | refine Q0 ?_ | refine Q1 ?_ | refine Q2 rfl ?_ | refine Q3 rfl rfl rfl ?_ | refine Q4 rfl rfl rfl rfl rfl ?_ | refine Q5 rfl ?_ | refine Q6 rfl ?_ | refine Q7 rfl rfl rfl ?_ | refine Q8 rfl rfl rfl ?_ | refine Q9 rfl rfl rfl rfl ?_ | refine QA rfl rfl (by decide) ?_ | refine QB rfl rfl (by decide) ?_ | refine QC rfl rfl ?_ | refine QD rfl ?_ | refine QE rfl rfl ?_ | refine QF rfl rfl ?_ | refine QG rfl rfl rfl rfl ?_ | refine QH rfl rfl rfl ?_ | refine QI rfl rfl rfl ?_ | refine QJ rfl rfl ?_ | refine QK rfl ?_ | refine QM rfl rfl rfl rfl rfl ?_ | refine QN ?_ | refine QO ?_ | refine QP rfl rfl rfl rfl rfl rfl ?_ | refine QQ rfl rfl rfl rfl rfl rfl rfl rfl rfl rfl rfl ?_ | refine QR rfl rfl rfl rfl rfl rfl rfl rfl rfl rfl rfl rfl ?_); (first | exact QX rfl rfl ⟨rfl, rfl⟩ | exact QY rfl ⟨rfl, rfl⟩ | exact QZ ⟨rfl, rfl⟩ | refine QX rfl rfl ?_ | refine QZ ?_)) | refine Qa rfl ?_ | (refine Qb rfl ?_; try (refine QS rfl rfl rfl rfl rfl rfl rfl ?_; (first | refine QX rfl rfl ?_ | refine QZ ?_))) | refine Qh ?_ | refine Qi rfl ?_ | refine Qj rfl ?_ | (refine Qf rfl rfl rfl ?_; refine QS rfl rfl rfl rfl rfl rfl rfl ?_; (first | refine QX rfl rfl ?_ | refine QZ ?_)) | apply Qg rfl rfl | refine Qk ?_ | refine Ql ?_ | refine Qm ?_ | refine Qn ?_ | refine Qo rfl ?_ | refine Qp rfl ?_ | refine Qq rfl ?_ | refine Qr ?_ | refine Qs ?_ | refine Qt ?_ | refine Qu ?_ | refine Qv ?_ | refine Qw (by kernel_rfl) ?_ | refine Qx rfl (by kernel_rfl) ?_)
  refine st_call (fun _ => rfl) rfl ?_
  refine ACalls.mono (sector_c X mig oth hm) ?_
  rintro r H' ⟨rfl, rfl⟩
  first | refine nx rfl rfl ?_ | refine nx0 ?_
  repeat' (first | ((first | refine Qa rfl ?_ | refine Qc rfl rfl rfl ?_ | apply Qd rfl rfl rfl rfl | (apply Qe rfl rfl rfl rfl; intro H9)); (first | refine Q0 ?_ | refine Q1 ?_ | refine Q2 rfl ?_ | refine Q3 rfl rfl rfl ?_ | refine Q4 rfl rfl rfl rfl rfl ?_ | refine Q5 rfl ?_ | refine Q6 rfl ?_ | refine Q7 rfl rfl rfl ?_ | refine Q8 rfl rfl rfl ?_ | refine Q9 rfl rfl rfl rfl ?_ | refine QA rfl rfl (by decide) ?_ | refine QB rfl rfl (by decide) ?_ | refine QC rfl rfl ?_ | refine QD rfl ?_ | refine QE rfl rfl ?_ | refine QF rfl rfl ?_ | refine QG rfl rfl rfl rfl ?_ | refine QH rfl rfl rfl ?_ | refine QI rfl rfl rfl ?_ | refine QJ rfl rfl ?_ | refine QK rfl ?_ | refine QM rfl rfl rfl rfl rfl ?_ | refine QN ?_ | refine QO ?_ | refine QP rfl rfl rfl rfl rfl rfl ?_ | refine QQ rfl rfl rfl rfl rfl rfl rfl rfl rfl rfl rfl ?_ | refine QR rfl rfl rfl rfl rfl rfl rfl rfl rfl rfl rfl rfl ?_); (first | exact QX rfl rfl ⟨rfl, rfl⟩ | exact QY rfl ⟨rfl, rfl⟩ | exact QZ ⟨rfl, rfl⟩ | refine QX rfl rfl ?_ | refine QZ ?_)) | refine Qa rfl ?_ | (refine Qb rfl ?_; try (refine QS rfl rfl rfl rfl rfl rfl rfl ?_; (first | refine QX rfl rfl ?_ | refine QZ ?_))) | refine Qh ?_ | refine Qi rfl ?_ | refine Qj rfl ?_ | (refine Qf rfl rfl rfl ?_; refine QS rfl rfl rfl rfl rfl rfl rfl ?_; (first | refine QX rfl rfl ?_ | refine QZ ?_)) | apply Qg rfl rfl | refine Qk ?_ | refine Ql ?_ | refine Qm ?_ | refine Qn ?_ | refine Qo rfl ?_ | refine Qp rfl ?_ | refine Qq rfl ?_ | refine Qr ?_ | refine Qs ?_ | refine Qt ?_ | refine Qu ?_ | refine Qv ?_ | refine Qw (by kernel_rfl) ?_ | refine Qx rfl (by kernel_rfl) ?_)
  refine st_call (fun _ => rfl) rfl ?_
  refine ACalls.mono (rsector_c X mig idx hm) ?_
  rintro r H' ⟨rfl, rfl⟩
  first | refine nx rfl rfl ?_ | refine nx0 ?_
  repeat' (first | ((first | refine Qa rfl ?_ | refine Qc rfl rfl rfl ?_ | apply Qd rfl rfl rfl rfl | (apply Qe rfl rfl rfl rfl; intro H9)); (first | refine Q0 ?_ | refine Q1 ?_ | refine Q2 rfl ?_ | refine Q3 rfl rfl rfl ?_ | refine Q4 rfl rfl rfl rfl rfl ?_ | refine Q5 rfl ?_ | refine Q6 rfl ?_ | refine Q7 rfl rfl rfl ?_ | refine Q8 rfl rfl rfl ?_ | refine Q9 rfl rfl rfl rfl ?_ | refine QA rfl rfl (by decide) ?_ | refine QB rfl rfl (by decide) ?_ | refine QC rfl rfl ?_ | refine QD rfl ?_ | refine QE rfl rfl ?_ | refine QF rfl rfl ?_ | refine QG rfl rfl rfl rfl ?_ | refine QH rfl rfl rfl ?_ | refine QI rfl rfl rfl ?_ | refine QJ rfl rfl ?_ | refine QK rfl ?_ | refine QM rfl rfl rfl rfl rfl ?_ | refine QN ?_ | refine QO ?_ | refine QP rfl rfl rfl rfl rfl rfl ?_ | refine QQ rfl rfl rfl rfl rfl rfl rfl rfl rfl rfl rfl ?_ | refine QR rfl rfl rfl rfl rfl rfl rfl rfl rfl rfl rfl rfl ?_); (first | exact QX rfl rfl ⟨rfl, rfl⟩ | exact QY rfl ⟨rfl, rfl⟩ | exact QZ ⟨rfl, rfl⟩ | refine QX rfl rfl ?_ | refine QZ ?_)) | refine Qa rfl ?_ | (refine Qb rfl ?_; try (refine QS rfl rfl rfl rfl rfl rfl rfl ?_; (first | refine QX rfl rfl ?_ | refine QZ ?_))) | refine Qh ?_ | refine Qi rfl ?_ | refine Qj rfl ?_ | (refine Qf rfl rfl rfl ?_; refine QS rfl rfl rfl rfl rfl rfl rfl ?_; (first | refine QX rfl rfl ?_ | refine QZ ?_)) | apply Qg rfl rfl | refine Qk ?_ | refine Ql ?_ | refine Qm ?_ | refine Qn ?_ | refine Qo rfl ?_ | refine Qp rfl ?_ | refine Qq rfl ?_ | refine Qr ?_ | refine Qs ?_ | refine Qt ?_ | refine Qu ?_ | refine Qv ?_ | refine Qw (by kernel_rfl) ?_ | refine Qx rfl (by kernel_rfl) ?_ | ((fail_if_success refine QV rfl ?_); first | refine Qy rfl rfl (fun _ => ?_) (fun _ => ?_) | refine Qz rfl rfl (fun _ => ?_) (fun _ => ?_)) | ((fail_if_success refine QW rfl rfl ?_); first | refine QT rfl rfl rfl (fun _ => ?_) (fun _ => ?_) | refine QU rfl rfl rfl (fun _ => ?_) (fun _ => ?_)))
  · rename_i h1
    exact absurd rfl h1
  refine st_call (fun _ => rfl) rfl ?_
  refine ACalls.mono (rsector_c X mig oth hm) ?_
  rintro r H' ⟨rfl, rfl⟩
  first | refine nx rfl rfl ?_ | refine nx0 ?_
  repeat' (first | ((first | refine Qa rfl ?_ | refine Qc rfl rfl rfl ?_ | apply Qd rfl rfl rfl rfl | (apply Qe rfl rfl rfl rfl; intro H9)); (first | refine Q0 ?_ | refine Q1 ?_ | refine Q2 rfl ?_ | refine Q3 rfl rfl rfl ?_ | refine Q4 rfl rfl rfl rfl rfl ?_ | refine Q5 rfl ?_ | refine Q6 rfl ?_ | refine Q7 rfl rfl rfl ?_ | refine Q8 rfl rfl rfl ?_ | refine Q9 rfl rfl rfl rfl ?_ | refine QA rfl rfl (by decide) ?_ | refine QB rfl rfl (by decide) ?_ | refine QC rfl rfl ?_ | refine QD rfl ?_ | refine QE rfl rfl ?_ | refine QF rfl rfl ?_ | refine QG rfl rfl rfl rfl ?_ | refine QH rfl rfl rfl ?_ | refine QI rfl rfl rfl ?_ | refine QJ rfl rfl ?_ | refine QK rfl ?_ | refine QM rfl rfl rfl rfl rfl ?_ | refine QN ?_ | refine QO ?_ | refine QP rfl rfl rfl rfl rfl rfl ?_ | refine QQ rfl rfl rfl rfl rfl rfl rfl rfl rfl rfl rfl ?_ | refine QR rfl rfl rfl rfl rfl rfl rfl rfl rfl rfl rfl rfl ?_); (first | exact QX rfl rfl ⟨rfl, rfl⟩ | exact QY rfl ⟨rfl, rfl⟩ | exact QZ ⟨rfl, rfl⟩ | refine QX rfl rfl ?_ | refine QZ ?_)) | refine Qa rfl ?_ | (refine Qb rfl ?_; try (refine QS rfl rfl rfl rfl rfl rfl rfl ?_; (first | refine QX rfl rfl ?_ | refine QZ ?_))) | refine Qh ?_ | refine Qi rfl ?_ | refine Qj rfl ?_ | (refine Qf rfl rfl rfl ?_; refine QS rfl rfl rfl rfl rfl rfl rfl ?_; (first | refine QX rfl rfl ?_ | refine QZ ?_)) | apply Qg rfl rfl | refine Qk ?_ | refine Ql ?_ | refine Qm ?_ | refine Qn ?_ | refine Qo rfl ?_ | refine Qp rfl ?_ | refine Qq rfl ?_ | refine Qr ?_ | refine Qs ?_ | refine Qt ?_ | refine Qu ?_ | refine Qv ?_ | refine Qw (by kernel_rfl) ?_ | refine Qx rfl (by kernel_rfl) ?_)
  refine awp_cond rfl (fun h9 => absurd h9 (by simp)) (fun _ => ?_)
  repeat' (first | ((first | refine Qa rfl ?_ | refine Qc rfl rfl rfl ?_ | apply Qd rfl rfl rfl rfl | (apply Qe rfl rfl rfl rfl; intro H9)); (first | refine Q0 ?_ | refine Q1 ?_ | refine Q2 rfl ?_ | refine Q3 rfl rfl rfl ?_ | refine Q4 rfl rfl rfl rfl rfl ?_ | refine Q5 rfl ?_ | refine Q6 rfl ?_ | refine Q7 rfl rfl rfl ?_ | refine Q8 rfl rfl rfl ?_ | refine Q9 rfl rfl rfl rfl ?_ | refine QA rfl rfl (by decide) ?_ | refine QB rfl rfl (by decide) ?_ | refine QC rfl rfl ?_ | refine QD rfl ?_ | refine QE rfl rfl ?_ | refine QF rfl rfl ?_ | refine QG rfl rfl rfl rfl ?_ | refine QH rfl rfl rfl ?_ | refine QI rfl rfl rfl ?_ | refine QJ rfl rfl ?_ | refine QK rfl ?_ | refine QM rfl rfl rfl rfl rfl ?_ | refine QN ?_ | refine QO ?_ | refine QP rfl rfl rfl rfl rfl rfl ?_ | refine QQ rfl rfl rfl rfl rfl rfl rfl rfl rfl rfl rfl ?_ | refine QR rfl rfl rfl rfl rfl rfl rfl rfl rfl rfl rfl rfl ?_); (first | exact QX rfl rfl ⟨rfl, rfl⟩ | exact QY rfl ⟨rfl, rfl⟩ | exact QZ ⟨rfl, rfl⟩ | refine QX rfl rfl ?_ | refine QZ ?_)) | refine Qa rfl ?_ | (refine Qb rfl ?_; try (refine QS rfl rfl rfl rfl rfl rfl rfl ?_; (first | refine QX rfl rfl ?_ | refine QZ ?_))) | refine Qh ?_ | refine Qi rfl ?_ | refine Qj rfl ?_ | (refine Qf rfl rfl rfl ?_; refine QS rfl rfl rfl rfl rfl rfl rfl ?_; (first | refine QX rfl rfl ?_ | refine QZ ?_)) | apply Qg rfl rfl | refine Qk ?_ | refine Ql ?_ | refine Qm ?_ | refine Qn ?_ | refine Qo rfl ?_ | refine Qp rfl ?_ | refine Qq rfl ?_ | refine Qr ?_ | refine Qs ?_ | refine Qt ?_ | refine Qu ?_ | refine Qv ?_ | refine Qw (by kernel_rfl) ?_ | refine Qx rfl (by kernel_rfl) ?_ | ((fail_if_success refine QV rfl ?_); first | refine Qy rfl rfl (fun _ => ?_) (fun _ => ?_) | refine Qz rfl rfl (fun _ => ?_) (fun _ => ?_)) | ((fail_if_success refine QW rfl rfl ?_); first | refine QT rfl rfl rfl (fun _ => ?_) (fun _ => ?_) | refine QU rfl rfl rfl (fun _ => ?_) (fun _ => ?_)))
  · skip
    refine st_call (fun _ => rfl) rfl ?_
    refine ACalls.mono (awake_c X) ?_
    rintro r H' ⟨rfl, rfl⟩
    first | refine nx rfl rfl ?_ | refine nx0 ?_
    repeat' (first | ((first | refine Qa rfl ?_ | refine Qc rfl rfl rfl ?_ | apply Qd rfl rfl rfl rfl | (apply Qe rfl rfl rfl rfl; intro H9)); (first | refine Q0 ?_ | refine Q1 ?_ | refine Q2 rfl ?_ | refine Q3 rfl rfl rfl ?_ | refine Q4 rfl rfl rfl rfl rfl ?_ | refine Q5 rfl ?_ | refine Q6 rfl ?_ | refine Q7 rfl rfl rfl ?_ | refine Q8 rfl rfl rfl ?_ | refine Q9 rfl rfl rfl rfl ?_ | refine QA rfl rfl (by decide) ?_ | refine QB rfl rfl (by decide) ?_ | refine QC rfl rfl ?_ | refine QD rfl ?_ | refine QE rfl rfl ?_ | refine QF rfl rfl ?_ | refine QG rfl rfl rfl rfl ?_ | refine QH rfl rfl rfl ?_ | refine QI rfl rfl rfl ?_ | refine QJ rfl rfl ?_ | refine QK rfl ?_ | refine QM rfl rfl rfl rfl rfl ?_ | refine QN ?_ | refine QO ?_ | refine QP rfl rfl rfl rfl rfl rfl ?_ | refine QQ rfl rfl rfl rfl rfl rfl rfl rfl rfl rfl rfl ?_ | refine QR rfl rfl rfl rfl rfl rfl rfl rfl rfl rfl rfl rfl ?_); (first | exact QX rfl rfl ⟨rfl, rfl⟩ | exact QY rfl ⟨rfl, rfl⟩ | exact QZ ⟨rfl, rfl⟩ | refine QX rfl rfl ?_ | refine QZ ?_)) | refine Qa rfl ?_ | (refine Qb rfl ?_; try (refine QS rfl rfl rfl rfl rfl rfl rfl ?_; (first | refine QX rfl rfl ?_ | refine QZ ?_))) | refine Qh ?_ | refine Qi rfl ?_ | refine Qj rfl ?_ | (refine Qf rfl rfl rfl ?_; refine QS rfl rfl rfl rfl rfl rfl rfl ?_; (first | refine QX rfl rfl ?_ | refine QZ ?_)) | apply Qg rfl rfl | refine Qk ?_ | refine Ql ?_ | refine Qm ?_ | refine Qn ?_ | refine Qo rfl ?_ | refine Qp rfl ?_ | refine Qq rfl ?_ | refine Qr ?_ | refine Qs ?_ | refine Qt ?_ | refine Qu ?_ | refine Qv ?_ | refine Qw (by kernel_rfl) ?_ | refine Qx rfl (by kernel_rfl) ?_)
    refine awp_ret ?_
    refine ⟨_, rfl, ?_, ?_⟩
    · rfl
    · rfl
  · skip
    refine st_call (fun _ => rfl) rfl ?_
    refine ACalls.mono (awake_c X) ?_
    rintro r H' ⟨rfl, rfl⟩
    first | refine nx rfl rfl ?_ | refine nx0 ?_
    repeat' (first | ((first | refine Qa rfl ?_ | refine Qc rfl rfl rfl ?_ | apply Qd rfl rfl rfl rfl | (apply Qe rfl rfl rfl rfl; intro H9)); (first | refine Q0 ?_ | refine Q1 ?_ | refine Q2 rfl ?_ | refine Q3 rfl rfl rfl ?_ | refine Q4 rfl rfl rfl rfl rfl ?_ | refine Q5 rfl ?_ | refine Q6 rfl ?_ | refine Q7 rfl rfl rfl ?_ | refine Q8 rfl rfl rfl ?_ | refine Q9 rfl rfl rfl rfl ?_ | refine QA rfl rfl (by decide) ?_ | refine QB rfl rfl (by decide) ?_ | refine QC rfl rfl ?_ | refine QD rfl ?_ | refine QE rfl rfl ?_ | refine QF rfl rfl ?_ | refine QG rfl rfl rfl rfl ?_ | refine QH rfl rfl rfl ?_ | refine QI rfl rfl rfl ?_ | refine QJ rfl rfl ?_ | refine QK rfl ?_ | refine QM rfl rfl rfl rfl rfl ?_ | refine QN ?_ | refine QO ?_ | refine QP rfl rfl rfl rfl rfl rfl ?_ | refine QQ rfl rfl rfl rfl rfl rfl rfl rfl rfl rfl rfl ?_ | refine QR rfl rfl rfl rfl rfl rfl rfl rfl rfl rfl rfl rfl ?_); (first | exact QX rfl rfl ⟨rfl, rfl⟩ | exact QY rfl ⟨rfl, rfl⟩ | exact QZ ⟨rfl, rfl⟩ | refine QX rfl rfl ?_ | refine QZ ?_)) | refine Qa rfl ?_ | (refine Qb rfl ?_; try (refine QS rfl rfl rfl rfl rfl rfl rfl ?_; (first | refine QX rfl rfl ?_ | refine QZ ?_))) | refine Qh ?_ | refine Qi rfl ?_ | refine Qj rfl ?_ | (refine Qf rfl rfl rfl ?_; refine QS rfl rfl rfl rfl rfl rfl rfl ?_; (first | refine QX rfl rfl ?_ | refine QZ ?_)) | apply Qg rfl rfl | refine Qk ?_ | refine Ql ?_ | refine Qm ?_ | refine Qn ?_ | refine Qo rfl ?_ | refine Qp rfl ?_ | refine Qq rfl ?_ | refine Qr ?_ | refine Qs ?_ | refine Qt ?_ | refine Qu ?_ | refine Qv ?_ | refine Qw (by kernel_rfl) ?_ | refine Qx rfl (by kernel_rfl) ?_)
    refine awp_ret ?_
    refine ⟨_, rfl, ?_, ?_⟩
    · rfl
    · rfl
  rename_i h1 h2
  refine awp_cond_dec rfl (fun h3 => ?_) (fun h3 => ?_)
  · skip
    repeat' (first | ((first | refine Qa rfl ?_ | refine Qc rfl rfl rfl ?_ | apply Qd rfl rfl rfl rfl | (apply Qe rfl rfl rfl rfl; intro H9)); (first | refine Q0 ?_ | refine Q1 ?_ | refine Q2 rfl ?_ | refine Q3 rfl rfl rfl ?_ | refine Q4 rfl rfl rfl rfl rfl ?_ | refine Q5 rfl ?_ | refine Q6 rfl ?_ | refine Q7 rfl rfl rfl ?_ | refine Q8 rfl rfl rfl ?_ | refine Q9 rfl rfl rfl rfl ?_ | refine QA rfl rfl (by decide) ?_ | refine QB rfl rfl (by decide) ?_ | refine QC rfl rfl ?_ | refine QD rfl ?_ | refine QE rfl rfl ?_ | refine QF rfl rfl ?_ | refine QG rfl rfl rfl rfl ?_ | refine QH rfl rfl rfl ?_ | refine QI rfl rfl rfl ?_ | refine QJ rfl rfl ?_ | refine QK rfl ?_ | refine QM rfl rfl rfl rfl rfl ?_ | refine QN ?_ | refine QO ?_ | refine QP rfl rfl rfl rfl rfl rfl ?_ | refine QQ rfl rfl rfl rfl rfl rfl rfl rfl rfl rfl rfl ?_ | refine QR rfl rfl rfl rfl rfl rfl rfl rfl rfl rfl rfl rfl ?_); (first | exact QX rfl rfl ⟨rfl, rfl⟩ | exact QY rfl ⟨rfl, rfl⟩ | exact QZ ⟨rfl, rfl⟩ | refine QX rfl rfl ?_ | refine QZ ?_)) | refine Qa rfl ?_ | (refine Qb rfl ?_; try (refine QS rfl rfl rfl rfl rfl rfl rfl ?_; (first | refine QX rfl rfl ?_ | refine QZ ?_))) | refine Qh ?_ | refine Qi rfl ?_ | refine Qj rfl ?_ | (refine Qf rfl rfl rfl ?_; refine QS rfl rfl rfl rfl rfl rfl rfl ?_; (first | refine QX rfl rfl ?_ | refine QZ ?_)) | apply Qg rfl rfl | refine Qk ?_ | refine Ql ?_ | refine Qm ?_ | refine Qn ?_ | refine Qo rfl ?_ | refine Qp rfl ?_ | refine Qq rfl ?_ | refine Qr ?_ | refine Qs ?_ | refine Qt ?_ | refine Qu ?_ | refine Qv ?_ | refine Qw (by kernel_rfl) ?_ | refine Qx rfl (by kernel_rfl) ?_)
    refine st_call (fun _ => rfl) rfl ?_
    refine ACalls.mono (awake_c X) ?_
    rintro r H' ⟨rfl, rfl⟩
    first | refine nx rfl rfl ?_ | refine nx0 ?_
    repeat' (first | ((first | refine Qa rfl ?_ | refine Qc rfl rfl rfl ?_ | apply Qd rfl rfl rfl rfl | (apply Qe rfl rfl rfl rfl; intro H9)); (first | refine Q0 ?_ | refine Q1 ?_ | refine Q2 rfl ?_ | refine Q3 rfl rfl rfl ?_ | refine Q4 rfl rfl rfl rfl rfl ?_ | refine Q5 rfl ?_ | refine Q6 rfl ?_ | refine Q7 rfl rfl rfl ?_ | refine Q8 rfl rfl rfl ?_ | refine Q9 rfl rfl rfl rfl ?_ | refine QA rfl rfl (by decide) ?_ | refine QB rfl rfl (by decide) ?_ | refine QC rfl rfl ?_ | refine QD rfl ?_ | refine QE rfl rfl ?_ | refine QF rfl rfl ?_ | refine QG rfl rfl rfl rfl ?_ | refine QH rfl rfl rfl ?_ | refine QI rfl rfl rfl ?_ | refine QJ rfl rfl ?_ | refine QK rfl ?_ | refine QM rfl rfl rfl rfl rfl ?_ | refine QN ?_ | refine QO ?_ | refine QP rfl rfl rfl rfl rfl rfl ?_ | refine QQ rfl rfl rfl rfl rfl rfl rfl rfl rfl rfl rfl ?_ | refine QR rfl rfl rfl rfl rfl rfl rfl rfl rfl rfl rfl rfl ?_); (first | exact QX rfl rfl ⟨rfl, rfl⟩ | exact QY rfl ⟨rfl, rfl⟩ | exact QZ ⟨rfl, rfl⟩ | refine QX rfl rfl ?_ | refine QZ ?_)) | refine Qa rfl ?_ | (refine Qb rfl ?_; try (refine QS rfl rfl rfl rfl rfl rfl rfl ?_; (first | refine QX rfl rfl ?_ | refine QZ ?_))) | refine Qh ?_ | refine Qi rfl ?_ | refine Qj rfl ?_ | (refine Qf rfl rfl rfl ?_; refine QS rfl rfl rfl rfl rfl rfl rfl ?_; (first | refine QX rfl rfl ?_ | refine QZ ?_)) | apply Qg rfl rfl | refine Qk ?_ | refine Ql ?_ | refine Qm ?_ | refine Qn ?_ | refine Qo rfl ?_ | refine Qp rfl ?_ | refine Qq rfl ?_ | refine Qr ?_ | refine Qs ?_ | refine Qt ?_ | refine Qu ?_ | refine Qv ?_ | refine Qw (by kernel_rfl) ?_ | refine Qx rfl (by kernel_rfl) ?_)
    refine awp_ret ?_
    refine ⟨_, rfl, ?_, ?_⟩
    · rfl
    · rfl
  have hw : IntKind.i64.wrap (mig + 1) = mig + 1 := wrap_in (by unfold secI at h1; split at h1 <;> omega) (by omega)
  have hs : ¬ secI (mig + 1) idx = secI mig oth := by
    unfold secI at *
    split at h1 <;> split at h2 <;> first | omega | (rw [if_neg (by omega), if_neg (by omega)]; omega)
  have he : (secI mig idx = secI mig oth) ↔ (idx = oth) := by
    unfold secI at *
    split at h1 <;> split at h2 <;> first | omega | (rw [if_neg (by omega), if_neg (by omega)]; omega)
  repeat' (first | ((first | refine Qa rfl ?_ | refine Qc rfl rfl rfl ?_ | apply Qd rfl rfl rfl rfl | (apply Qe rfl rfl rfl rfl; intro H9)); (first | refine Q0 ?_ | refine Q1 ?_ | refine Q2 rfl ?_ | refine Q3 rfl rfl rfl ?_ | refine Q4 rfl rfl rfl rfl rfl ?_ | refine Q5 rfl ?_ | refine Q6 rfl ?_ | refine Q7 rfl rfl rfl ?_ | refine Q8 rfl rfl rfl ?_ | refine Q9 rfl rfl rfl rfl ?_ | refine QA rfl rfl (by decide) ?_ | refine QB rfl rfl (by decide) ?_ | refine QC rfl rfl ?_ | refine QD rfl ?_ | refine QE rfl rfl ?_ | refine QF rfl rfl ?_ | refine QG rfl rfl rfl rfl ?_ | refine QH rfl rfl rfl ?_ | refine QI rfl rfl rfl ?_ | refine QJ rfl rfl ?_ | refine QK rfl ?_ | refine QM rfl rfl rfl rfl rfl ?_ | refine QN ?_ | refine QO ?_ | refine QP rfl rfl rfl rfl rfl rfl ?_ | refine QQ rfl rfl rfl rfl rfl rfl rfl rfl rfl rfl rfl ?_ | refine QR rfl rfl rfl rfl rfl rfl rfl rfl rfl rfl rfl rfl ?_); (first | exact QX rfl rfl ⟨rfl, rfl⟩ | exact QY rfl ⟨rfl, rfl⟩ | exact QZ ⟨rfl, rfl⟩ | refine QX rfl rfl ?_ | refine QZ ?_)) | refine Qa rfl ?_ | (refine Qb rfl ?_; try (refine QS rfl rfl rfl rfl rfl rfl rfl ?_; (first | refine QX rfl rfl ?_ | refine QZ ?_))) | refine Qh ?_ | refine Qi rfl ?_ | refine Qj rfl ?_ | (refine Qf rfl rfl rfl ?_; refine QS rfl rfl rfl rfl rfl rfl rfl ?_; (first | refine QX rfl rfl ?_ | refine QZ ?_)) | apply Qg rfl rfl | refine Qk ?_ | refine Ql ?_ | refine Qm ?_ | refine Qn ?_ | refine Qo rfl ?_ | refine Qp rfl ?_ | refine Qq rfl ?_ | refine Qr ?_ | refine Qs ?_ | refine Qt ?_ | refine Qu ?_ | refine Qv ?_ | refine Qw (by kernel_rfl) ?_ | refine Qx rfl (by kernel_rfl) ?_)
  refine st_call (fun _ => rfl) rfl ?_
  refine ACalls.mono (awake_c X) ?_
  rintro r H' ⟨rfl, rfl⟩
  first | refine nx rfl rfl ?_ | refine nx0 ?_
  repeat' (first | ((first | refine Qa rfl ?_ | refine Qc rfl rfl rfl ?_ | apply Qd rfl rfl rfl rfl | (apply Qe rfl rfl rfl rfl; intro H9)); (first | refine Q0 ?_ | refine Q1 ?_ | refine Q2 rfl ?_ | refine Q3 rfl rfl rfl ?_ | refine Q4 rfl rfl rfl rfl rfl ?_ | refine Q5 rfl ?_ | refine Q6 rfl ?_ | refine Q7 rfl rfl rfl ?_ | refine Q8 rfl rfl rfl ?_ | refine Q9 rfl rfl rfl rfl ?_ | refine QA rfl rfl (by decide) ?_ | refine QB rfl rfl (by decide) ?_ | refine QC rfl rfl ?_ | refine QD rfl ?_ | refine QE rfl rfl ?_ | refine QF rfl rfl ?_ | refine QG rfl rfl rfl rfl ?_ | refine QH rfl rfl rfl ?_ | refine QI rfl rfl rfl ?_ | refine QJ rfl rfl ?_ | refine QK rfl ?_ | refine QM rfl rfl rfl rfl rfl ?_ | refine QN ?_ | refine QO ?_ | refine QP rfl rfl rfl rfl rfl rfl ?_ | refine QQ rfl rfl rfl rfl rfl rfl rfl rfl rfl rfl rfl ?_ | refine QR rfl rfl rfl rfl rfl rfl rfl rfl rfl rfl rfl rfl ?_); (first | exact QX rfl rfl ⟨rfl, rfl⟩ | exact QY rfl ⟨rfl, rfl⟩ | exact QZ ⟨rfl, rfl⟩ | refine QX rfl rfl ?_ | refine QZ ?_)) | refine Qa rfl ?_ | (refine Qb rfl ?_; try (refine QS rfl rfl rfl rfl rfl rfl rfl ?_; (first | refine QX rfl rfl ?_ | refine QZ ?_))) | refine Qh ?_ | refine Qi rfl ?_ | refine Qj rfl ?_ | (refine Qf rfl rfl rfl ?_; refine QS rfl rfl rfl rfl rfl rfl rfl ?_; (first | refine QX rfl rfl ?_ | refine QZ ?_)) | apply Qg rfl rfl | refine Qk ?_ | refine Ql ?_ | refine Qm ?_ | refine Qn ?_ | refine Qo rfl ?_ | refine Qp rfl ?_ | refine Qq rfl ?_ | refine Qr ?_ | refine Qs ?_ | refine Qt ?_ | refine Qu ?_ | refine Qv ?_ | refine Qw (by kernel_rfl) ?_ | refine Qx rfl (by kernel_rfl) ?_ | ((fail_if_success refine QV rfl ?_); first | refine Qy rfl rfl (fun _ => ?_) (fun _ => ?_) | refine Qz rfl rfl (fun _ => ?_) (fun _ => ?_)) | ((fail_if_success refine QW rfl rfl ?_); first | refine QT rfl rfl rfl (fun _ => ?_) (fun _ => ?_) | refine QU rfl rfl rfl (fun _ => ?_) (fun _ => ?_)))
  · rw [hw]
    refine st_call (fun _ => rfl) rfl ?_
    refine ACalls.mono (sector_c X (mig + 1) idx (by omega)) ?_
    rintro r H' ⟨rfl, rfl⟩
    first | refine nx rfl rfl ?_ | refine nx0 ?_
    repeat' (first | ((first | refine Qa rfl ?_ | refine Qc rfl rfl rfl ?_ | apply Qd rfl rfl rfl rfl | (apply Qe rfl rfl rfl rfl; intro H9)); (first | refine Q0 ?_ | refine Q1 ?_ | refine Q2 rfl ?_ | refine Q3 rfl rfl rfl ?_ | refine Q4 rfl rfl rfl rfl rfl ?_ | refine Q5 rfl ?_ | refine Q6 rfl ?_ | refine Q7 rfl rfl rfl ?_ | refine Q8 rfl rfl rfl ?_ | refine Q9 rfl rfl rfl rfl ?_ | refine QA rfl rfl (by decide) ?_ | refine QB rfl rfl (by decide) ?_ | refine QC rfl rfl ?_ | refine QD rfl ?_ | refine QE rfl rfl ?_ | refine QF rfl rfl ?_ | refine QG rfl rfl rfl rfl ?_ | refine QH rfl rfl rfl ?_ | refine QI rfl rfl rfl ?_ | refine QJ rfl rfl ?_ | refine QK rfl ?_ | refine QM rfl rfl rfl rfl rfl ?_ | refine QN ?_ | refine QO ?_ | refine QP rfl rfl rfl rfl rfl rfl ?_ | refine QQ rfl rfl rfl rfl rfl rfl rfl rfl rfl rfl rfl ?_ | refine QR rfl rfl rfl rfl rfl rfl rfl rfl rfl rfl rfl rfl ?_); (first | exact QX rfl rfl ⟨rfl, rfl⟩ | exact QY rfl ⟨rfl, rfl⟩ | exact QZ ⟨rfl, rfl⟩ | refine QX rfl rfl ?_ | refine QZ ?_)) | refine Qa rfl ?_ | (refine Qb rfl ?_; try (refine QS rfl rfl rfl rfl rfl rfl rfl ?_; (first | refine QX rfl rfl ?_ | refine QZ ?_))) | refine Qh ?_ | refine Qi rfl ?_ | refine Qj rfl ?_ | (refine Qf rfl rfl rfl ?_; refine QS rfl rfl rfl rfl rfl rfl rfl ?_; (first | refine QX rfl rfl ?_ | refine QZ ?_)) | apply Qg rfl rfl | refine Qk ?_ | refine Ql ?_ | refine Qm ?_ | refine Qn ?_ | refine Qo rfl ?_ | refine Qp rfl ?_ | refine Qq rfl ?_ | refine Qr ?_ | refine Qs ?_ | refine Qt ?_ | refine Qu ?_ | refine Qv ?_ | refine Qw (by kernel_rfl) ?_ | refine Qx rfl (by kernel_rfl) ?_)
    refine awp_ret ?_
    refine ⟨_, rfl, ?_, ?_⟩
    · simp [hs, one, get_cons]
    · rfl
  · rename_i h9
    exfalso
    simp [he] at h9
end Go.Abs
namespace Go.Proofs.YtlndakkehobnpaaDoor
open Go.Abs Go.RowKit Go.ChangeShapes Go.WideShapes
set_option maxRecDepth 100000 in
theorem logSectorLifted (os : Os) (started : os.Started) (H : Type) (enc : TypeId × Value → H) :
    ReturnsInHanded {} Tryd.checked os 3 .any (fun w args => (Rows.logSectorSpec.pre enc Tryd.prog Tryd.f3 [] false w args ∧ laidMetH Tryd.prog [("flashcache/crc.table", Rows.laid_flashcache_crc_table)] w) ∧ sizedMet enc Tryd.prog Tryd.f3 (OpenSpec.ofChange Rows.logSectorSpec) false w args)
      (Rows.logSectorSpec.post enc Tryd.prog Tryd.f3 false Rows.logSectorRow.fresh Rows.logSectorRow.handsOn Rows.logSectorRow.again) := by
  refine returnsInHanded_of_change_and (C := Tryd.checked) (X := fun w _ => laidMetH Tryd.prog [("flashcache/crc.table", Rows.laid_flashcache_crc_table)] w) (fun _ _ _ hh h => h.of_heap hh) own0 started (by kernel_rfl) Tryd.func3
    (ChangeSpec.witness_shaped (enc := enc) (C := Tryd.checked) (os := os) (X := fun w _ => laidMetH Tryd.prog [("flashcache/crc.table", Rows.laid_flashcache_crc_table)] w) false (World.doorLaid Tryd.prog 400 os) #[.int .i64 0, .int .i64 0, .int .i64 0] 8 rfl (World.shaped_of_RefB (by kernel_rfl) (by kernel_rfl)) (by kernel_rfl) (by kernel_rfl) (by kernel_rfl) (door_met os _)) ?_
  intro W base args ds gs before hval0 hW _ _ hL _
  have hval : ∀ (j : Nat) t v, Tryd.f3.params[j]? = some t → args[j]? = some v → Value.okWide Tryd.prog W .any base t v := hval0
  have hW2 := hW
  obtain ⟨p, q, hA0, hV, _, _, _⟩ := hW2
  have hA : DataW.TrodAll enc Tryd.prog W 0 (fun _ => true) true [3, 3, 3] args.toList ds p := hA0
  obtain ⟨rfl, rfl⟩ := trodVars_none hV
  obtain ⟨v0, v1, v2, d0, d1, d2, p0, p1, p2, rfl, rfl, rfl, t0, t1, t2⟩ := trodAll_three hA
  obtain ⟨x0, r0, c0⟩ := arg_av (E := E0 fun _ => False) (E0_ok _) (fun _ h => h) (f := 1) rfl rfl (hval 0 3 v0 rfl rfl) t0
  obtain ⟨x1, r1, c1⟩ := arg_av (E := E0 fun _ => False) (E0_ok _) (fun _ h => h) (f := 1) rfl rfl (hval 1 3 v1 rfl rfl) t1
  obtain ⟨x2, r2, c2⟩ := arg_av (E := E0 fun _ => False) (E0_ok _) (fun _ h => h) (f := 1) rfl rfl (hval 2 3 v2 rfl rfl) t2
  obtain ⟨l0, rfl, g0, h0⟩ := int_of c0
  obtain ⟨l1, rfl, g1, h1⟩ := int_of c1
  obtain ⟨l2, rfl, g2, h2⟩ := int_of c2
  exact law_trueG (E := E0 fun _ => False) (avs := [.int .i64 l0, .int .i64 l1, .int .i64 l2]) (tb := 4) (E0_ok _) (glob_of_laid hL) (by kernel_rfl) rfl (by kernel_rfl) (by kernel_rfl) (by kernel_rfl) rfl rfl rfl hW (fun _ h => h)
    (RelL.cons r0 (RelL.cons r1 (RelL.cons r2 (by simp [Abs.RelL])))) (logSector_c _ l0 l1 l2 h0)
theorem logSector_holds : Rows.LogSectorSaid :=
  OpenClaim.holds_of_wide 3 Tryd.f3 rfl rfl rfl rfl rfl rfl rfl ⟨rfl, rfl, rfl, rfl, rfl⟩ rfl rfl rfl rfl rfl (by kernel_rfl) Tryd.func3 (by kernel_rfl)
    (of_decide_eq_true (by kernel_rfl)) (by unfold Func.isWrapper; rw [if_neg (of_decide_eq_false (by kernel_rfl))]; exact ⟨rfl, rfl⟩)
    (fun os started H enc _ => logSectorLifted os started H enc)
theorem logSector_card : Rows.LogSectorCardSaid :=
  Claim7.holds_tied_plain_at .later [] [.data] true (true, "ef1fa8f3014c6e3fe2b1907d4f734f2c932dc2d5fe76d3eb980f0835b0714608") false
    logSector_holds (fun _ h => by cases h) (by kernel_rfl) (fun _ h => by cases h) logSector_row_tie rfl ⟨rfl, rfl⟩ (by kernel_rfl) rfl
    (fun f fn hf hfn => by
      obtain rfl : f = 3 := Option.some.inj ((show Tryd.prog.funcNamed "flashcache/flashcachelaw11.LogSector" = some 3 by kernel_rfl).symm.trans hf) |>.symm
      obtain rfl : fn = Tryd.f3 := (Option.some.inj (Tryd.func3.symm.trans hfn)).symm
      exact ⟨by kernel_rfl, fun j t ht => by
        have ht : (#[3, 3, 3] : Array TypeId)[j]? = some t := ht
        have hm : t ∈ [3, 3, 3] := by simpa using Array.mem_of_getElem? ht
        have hall : ([3, 3, 3].all fun u => !Tryd.prog.wantsStandIn u) = true := by kernel_rfl
        exact (show Tryd.prog.wantsStandIn t = false by simpa using List.all_eq_true.1 hall t hm)⟩)
    (by kernel_rfl)
end Go.Proofs.YtlndakkehobnpaaDoor
