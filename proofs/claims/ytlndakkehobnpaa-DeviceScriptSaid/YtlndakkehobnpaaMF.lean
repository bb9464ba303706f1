/- The devices side by side. Joined texts, each with what its own name promises; no condition beyond those stated. -/
import Derived.Test.YtlndakkehobnpaaME
import Derived.Test.YtlndakkehobnpaaMC
import Derived.Test.YtlndakkehobnpaaMB
namespace Go.Abs
theorem oldS_ids (n : Nat) (l : List (Int × List UInt8)) : IdsLtL n ((l.map oldA).map (·.1)) ∧ IdsLtL n ((l.map oldA).map (·.2)) :=
  ⟨ids_mono (Nat.zero_le _) (old_ids l).1, ids_mono (Nat.zero_le _) (old_ids l).2⟩
/-- Both devices. -/
def twoH (v : Dv) (r : Rd) : Hp := devH v ++ rdS 3 r
theorem hok_two (v : Dv) (r : Rd) : HOk 7 (twoH v r) := fun j o ho => by
  match j, ho with
  | 0, ho => cases ho; exact ⟨by simp [IdsLt], by simp [IdsLt], trivial, trivial, trivial, trivial⟩
  | 1, ho => cases ho; exact idsL_map fun _ => u8A_ids
  | 2, ho => cases ho; exact oldS_ids _ _
  | 3, ho => cases ho; exact ⟨by simp [IdsLt], by simp [IdsLt], by simp [IdsLt], trivial, trivial, trivial, trivial, trivial⟩
  | 4, ho => cases ho; exact idsL_map fun _ => u8A_ids
  | 5, ho => cases ho; exact idsL_map fun _ => u8A_ids
  | 6, ho => cases ho; exact idsL_map fun _ => boA_ids
theorem devS0 (v : Dv) : devS 0 v = devH v := rfl
section
variable {X : Nat → Prop} {f : FuncId} {rest : List AV} {r0 : AV}
theorem dev_l {v v' : Dv} (hc : ∀ X, ACalls (E0 X) f (.ptr 0 0 :: rest) (devH v) (fun r H' => r = r0 ∧ H' = devH v')) (hrest : IdsLtL 0 rest) (hr : IdsLt 0 r0) (R : Hp) :
    ACalls (E0 X) f (.ptr 0 0 :: rest) (devH v ++ R) (fun r H' => r = r0 ∧ H' = devH v' ++ R) := dev_at hc hrest hr [] R 0 rfl
theorem rd_r {v v' : Rd} (hc : ∀ X, ACalls (E0 X) f (.ptr 0 0 :: rest) (rdH v) (fun r H' => r = r0 ∧ H' = rdH v')) (hrest : IdsLtL 0 rest) (hr : IdsLt 0 r0) (L : Hp) (s : Nat) (hs : L.length = s) :
    ACalls (E0 X) f (.ptr s 0 :: rest) (L ++ rdS s v) (fun r H' => r = r0 ∧ H' = L ++ rdS s v') := by
  have := rd_at (X := X) hc hrest hr L [] s hs
  simpa using this
end
/-- Image, its result as a value. -/
theorem image_v (X : Nat → Prop) (v : Dv) (hl : v.image.length ≤ 1073741824) : ACalls (E0 X) 12 [.ptr 0 0] (devH v) (fun r H' => r = .sl 1 (v.image.map u8A) ∧ H' = devH v) :=
  ACalls.froz 1 (image_c X v hl) (by simp) rfl rfl (hok_dev v) (idsL_map fun _ => u8A_ids)
theorem image_l (X : Nat → Prop) (v : Dv) (hl : v.image.length ≤ 1073741824) (R : Hp) :
    ACalls (E0 X) 12 [.ptr 0 0] (devH v ++ R) (fun r H' => r = .sl 1 (v.image.map u8A) ∧ H' = devH v ++ R) :=
  dev_l (fun X => image_v X v hl) trivial (idsL_map fun _ => u8A_ids) R
theorem eq_b (X : Nat → Prop) (H : Hp) (x y : AV) (a b : List UInt8) (ha : a.length ≤ 4611686018427387904) (hx : srcA (E0 X) H 1 x = some (a.map u8A)) (hy : srcA (E0 X) H 1 y = some (b.map u8A)) :
    ACalls (E0 X) 19 [x, y] H (fun r H' => r = .bool (decide (a = b)) ∧ H' = H) :=
  acalls_borrow (E := E0 X) (fun X => eqb_c X a b ha) rfl (Bor.sl (u8_ids _) hx (Bor.sl (u8_ids _) hy .nil))
def sameB (v : Dv) (r : Rd) : Bool := decide (((v.image.length / 64 : Nat) : Int) = r.dirt.length) && (decide ((v.old.length : Int) = cntB r.dirt) && (decide (v.dead = r.gone) && (decide (v.writes = r.wrote) && decide (v.image = r.new))))
attribute [local irreducible] AStep aops AWp Nx awM
set_option maxHeartbeats 0 in
set_option maxRecDepth 100000 in
theorem same_c (X : Nat → Prop) (v : Dv) (r : Rd) (hl : v.image.length ≤ 1073741824) (hd : r.dirt.length ≤ 1073741824) :
    ACalls (E0 X) 29 [.ptr 0 0, .ptr 3 0] (twoH v r) (fun q H' => q = .bool (sameB v r) ∧ H' = twoH v r) := by
  refine acalls_of Proofs.Try.func29 rfl Proofs.Try.ntmps29 (by kernel_rfl) rfl ?_
  intro hH hargs
  clear hH hargs
  repeat' (first | ((first | refine Qa rfl ?_ | refine Qc rfl rfl rfl ?_ | apply Qd rfl rfl rfl rfl | (apply Qe rfl rfl rfl rfl; intro H9)); (first | refine Q0 ?_ | refine Q1 ?_ | refine Q2 rfl ?_ | refine Q3 rfl rfl rfl ?_ | refine Q4 rfl rfl rfl rfl rfl ?_ | refine Q5 rfl ?_ | refine Q6 rfl ?_ | refine Q7 rfl rfl rfl ?_ | refine Q8 rfl rfl rfl ?_ | refine Q9 rfl rfl rfl rfl ?_ | refine QA rfl rfl (by decide) ?_ | refine QB rfl rfl (by decide) ?_ | refine QC rfl rfl ?_ | refine QD rfl ?_ | refine QE rfl rfl ?_ | refine QF rfl rfl ?_ | refine QG rfl rfl rfl rfl ?_ | refine QH rfl rfl rfl ?_ | refine QI rfl rfl rfl ?_ | refine QJ rfl rfl ?_ | refine QK rfl ?_ | refine QM rfl rfl rfl rfl rfl ?_ | refine QN ?_ | refine QO ?_ | refine QP rfl rfl rfl rfl rfl rfl ?_ | refine QQ rfl rfl rfl rfl rfl rfl rfl rfl rfl rfl rfl ?_ | refine QR rfl rfl rfl rfl rfl rfl rfl rfl rfl rfl rfl rfl ?_); (first | exact QX rfl rfl ⟨rfl, rfl⟩ | exact QY rfl ⟨rfl, rfl⟩ | exact QZ ⟨rfl, rfl⟩ | refine QX rfl rfl ?_ | refine QZ ?_)) | refine Qa rfl ?_ | (refine Qb rfl ?_; try (refine QS rfl rfl rfl rfl rfl rfl rfl ?_; (first | refine QX rfl rfl ?_ | refine QZ ?_))) | refine Qh ?_ | refine Qi rfl ?_ | refine Qj rfl ?_ | (refine Qf rfl rfl rfl ?_; refine QS rfl rfl rfl rfl rfl rfl rfl ?_; (first | refine QX rfl rfl ?_ | refine QZ ?_)) | apply Qg rfl rfl | refine Qk ?_ | refine Ql ?_ | refine Qm ?_ | refine Qn ?_ | refine Qo rfl ?_ | refine Qp rfl ?_ | refine Qq rfl ?_ | refine Qr ?_ | refine Qs ?_ | refine Qt ?_ | refine Qu ?_ | refine Qv ?_ | refine Qw (by kernel_rfl) ?_)
  refine awp_region_auto2 [] [] (by exact rfl) (by kernel_rfl) ?_
  repeat' (first | ((first | refine Qa rfl ?_ | refine Qc rfl rfl rfl ?_ | apply Qd rfl rfl rfl rfl | (apply Qe rfl rfl rfl rfl; intro H9)); (first | refine Q0 ?_ | refine Q1 ?_ | refine Q2 rfl ?_ | refine Q3 rfl rfl rfl ?_ | refine Q4 rfl rfl rfl rfl rfl ?_ | refine Q5 rfl ?_ | refine Q6 rfl ?_ | refine Q7 rfl rfl rfl ?_ | refine Q8 rfl rfl rfl ?_ | refine Q9 rfl rfl rfl rfl ?_ | refine QA rfl rfl (by decide) ?_ | refine QB rfl rfl (by decide) ?_ | refine QC rfl rfl ?_ | refine QD rfl ?_ | refine QE rfl rfl ?_ | refine QF rfl rfl ?_ | refine QG rfl rfl rfl rfl ?_ | refine QH rfl rfl rfl ?_ | refine QI rfl rfl rfl ?_ | refine QJ rfl rfl ?_ | refine QK rfl ?_ | refine QM rfl rfl rfl rfl rfl ?_ | refine QN ?_ | refine QO ?_ | refine QP rfl rfl rfl rfl rfl rfl ?_ | refine QQ rfl rfl rfl rfl rfl rfl rfl rfl rfl rfl rfl ?_ | refine QR rfl rfl rfl rfl rfl rfl rfl rfl rfl rfl rfl rfl ?_); (first | exact QX rfl rfl ⟨rfl, rfl⟩ | exact QY rfl ⟨rfl, rfl⟩ | exact QZ ⟨rfl, rfl⟩ | refine QX rfl rfl ?_ | refine QZ ?_)) | refine Qa rfl ?_ | (refine Qb rfl ?_; try (refine QS rfl rfl rfl rfl rfl rfl rfl ?_; (first | refine QX rfl rfl ?_ | refine QZ ?_))) | refine Qh ?_ | refine Qi rfl ?_ | refine Qj rfl ?_ | (refine Qf rfl rfl rfl ?_; refine QS rfl rfl rfl rfl rfl rfl rfl ?_; (first | refine QX rfl rfl ?_ | refine QZ ?_)) | apply Qg rfl rfl | refine Qk ?_ | refine Ql ?_ | refine Qm ?_ | refine Qn ?_ | refine Qo rfl ?_ | refine Qp rfl ?_ | refine Qq rfl ?_ | refine Qr ?_ | refine Qs ?_ | refine Qt ?_ | refine Qu ?_ | refine Qv ?_ | refine Qw (by kernel_rfl) ?_)
  apply ds rfl rfl rfl rfl
  · refine st_call (fun _ => rfl) rfl ?_
    refine ACalls.mono (dev_l (fun X => sectors_c X v) trivial trivial (rdS 3 r)) ?_
    rintro r H' ⟨rfl, rfl⟩
    first
    | exact nx rfl rfl ⟨rfl, rfl⟩
    | exact nx0 ⟨rfl, rfl⟩
  rw [len_div hl]
  repeat' (first | ((first | refine Qa rfl ?_ | refine Qc rfl rfl rfl ?_ | apply Qd rfl rfl rfl rfl | (apply Qe rfl rfl rfl rfl; intro H9)); (first | refine Q0 ?_ | refine Q1 ?_ | refine Q2 rfl ?_ | refine Q3 rfl rfl rfl ?_ | refine Q4 rfl rfl rfl rfl rfl ?_ | refine Q5 rfl ?_ | refine Q6 rfl ?_ | refine Q7 rfl rfl rfl ?_ | refine Q8 rfl rfl rfl ?_ | refine Q9 rfl rfl rfl rfl ?_ | refine QA rfl rfl (by decide) ?_ | refine QB rfl rfl (by decide) ?_ | refine QC rfl rfl ?_ | refine QD rfl ?_ | refine QE rfl rfl ?_ | refine QF rfl rfl ?_ | refine QG rfl rfl rfl rfl ?_ | refine QH rfl rfl rfl ?_ | refine QI rfl rfl rfl ?_ | refine QJ rfl rfl ?_ | refine QK rfl ?_ | refine QM rfl rfl rfl rfl rfl ?_ | refine QN ?_ | refine QO ?_ | refine QP rfl rfl rfl rfl rfl rfl ?_ | refine QQ rfl rfl rfl rfl rfl rfl rfl rfl rfl rfl rfl ?_ | refine QR rfl rfl rfl rfl rfl rfl rfl rfl rfl rfl rfl rfl ?_); (first | exact QX rfl rfl ⟨rfl, rfl⟩ | exact QY rfl ⟨rfl, rfl⟩ | exact QZ ⟨rfl, rfl⟩ | refine QX rfl rfl ?_ | refine QZ ?_)) | refine Qa rfl ?_ | (refine Qb rfl ?_; try (refine QS rfl rfl rfl rfl rfl rfl rfl ?_; (first | refine QX rfl rfl ?_ | refine QZ ?_))) | refine Qh ?_ | refine Qi rfl ?_ | refine Qj rfl ?_ | (refine Qf rfl rfl rfl ?_; refine QS rfl rfl rfl rfl rfl rfl rfl ?_; (first | refine QX rfl rfl ?_ | refine QZ ?_)) | apply Qg rfl rfl | refine Qk ?_ | refine Ql ?_ | refine Qm ?_ | refine Qn ?_ | refine Qo rfl ?_ | refine Qp rfl ?_ | refine Qq rfl ?_ | refine Qr ?_ | refine Qs ?_ | refine Qt ?_ | refine Qu ?_ | refine Qv ?_ | refine Qw (by kernel_rfl) ?_ | ((fail_if_success refine QV rfl ?_); first | refine Qy rfl rfl (fun _ => ?_) (fun _ => ?_) | refine Qz rfl rfl (fun _ => ?_) (fun _ => ?_)) | ((fail_if_success refine QW rfl rfl ?_); first | refine QT rfl rfl rfl (fun _ => ?_) (fun _ => ?_) | refine QU rfl rfl rfl (fun _ => ?_) (fun _ => ?_)))
  · rename_i h1
    apply ds rfl rfl rfl rfl
    · refine st_call (fun _ => rfl) rfl ?_
      refine ACalls.mono (dev_l (fun X => dirty_c X v) trivial trivial (rdS 3 r)) ?_
      rintro r H' ⟨rfl, rfl⟩
      first
      | exact nx rfl rfl ⟨rfl, rfl⟩
      | exact nx0 ⟨rfl, rfl⟩
    repeat' (first | ((first | refine Qa rfl ?_ | refine Qc rfl rfl rfl ?_ | apply Qd rfl rfl rfl rfl | (apply Qe rfl rfl rfl rfl; intro H9)); (first | refine Q0 ?_ | refine Q1 ?_ | refine Q2 rfl ?_ | refine Q3 rfl rfl rfl ?_ | refine Q4 rfl rfl rfl rfl rfl ?_ | refine Q5 rfl ?_ | refine Q6 rfl ?_ | refine Q7 rfl rfl rfl ?_ | refine Q8 rfl rfl rfl ?_ | refine Q9 rfl rfl rfl rfl ?_ | refine QA rfl rfl (by decide) ?_ | refine QB rfl rfl (by decide) ?_ | refine QC rfl rfl ?_ | refine QD rfl ?_ | refine QE rfl rfl ?_ | refine QF rfl rfl ?_ | refine QG rfl rfl rfl rfl ?_ | refine QH rfl rfl rfl ?_ | refine QI rfl rfl rfl ?_ | refine QJ rfl rfl ?_ | refine QK rfl ?_ | refine QM rfl rfl rfl rfl rfl ?_ | refine QN ?_ | refine QO ?_ | refine QP rfl rfl rfl rfl rfl rfl ?_ | refine QQ rfl rfl rfl rfl rfl rfl rfl rfl rfl rfl rfl ?_ | refine QR rfl rfl rfl rfl rfl rfl rfl rfl rfl rfl rfl rfl ?_); (first | exact QX rfl rfl ⟨rfl, rfl⟩ | exact QY rfl ⟨rfl, rfl⟩ | exact QZ ⟨rfl, rfl⟩ | refine QX rfl rfl ?_ | refine QZ ?_)) | refine Qa rfl ?_ | (refine Qb rfl ?_; try (refine QS rfl rfl rfl rfl rfl rfl rfl ?_; (first | refine QX rfl rfl ?_ | refine QZ ?_))) | refine Qh ?_ | refine Qi rfl ?_ | refine Qj rfl ?_ | (refine Qf rfl rfl rfl ?_; refine QS rfl rfl rfl rfl rfl rfl rfl ?_; (first | refine QX rfl rfl ?_ | refine QZ ?_)) | apply Qg rfl rfl | refine Qk ?_ | refine Ql ?_ | refine Qm ?_ | refine Qn ?_ | refine Qo rfl ?_ | refine Qp rfl ?_ | refine Qq rfl ?_ | refine Qr ?_ | refine Qs ?_ | refine Qt ?_ | refine Qu ?_ | refine Qv ?_ | refine Qw (by kernel_rfl) ?_ | ((fail_if_success refine QV rfl ?_); first | refine Qy rfl rfl (fun _ => ?_) (fun _ => ?_) | refine Qz rfl rfl (fun _ => ?_) (fun _ => ?_)) | ((fail_if_success refine QW rfl rfl ?_); first | refine QT rfl rfl rfl (fun _ => ?_) (fun _ => ?_) | refine QU rfl rfl rfl (fun _ => ?_) (fun _ => ?_)))
    apply ds rfl rfl rfl rfl
    · refine st_call (fun _ => rfl) rfl ?_
      refine ACalls.mono (rd_r (fun X => rdirty_c X r hd) trivial trivial (devH v) 3 rfl) ?_
      rintro r H' ⟨rfl, rfl⟩
      first
      | exact nx rfl rfl ⟨rfl, rfl⟩
      | exact nx0 ⟨rfl, rfl⟩
    repeat' (first | ((first | refine Qa rfl ?_ | refine Qc rfl rfl rfl ?_ | apply Qd rfl rfl rfl rfl | (apply Qe rfl rfl rfl rfl; intro H9)); (first | refine Q0 ?_ | refine Q1 ?_ | refine Q2 rfl ?_ | refine Q3 rfl rfl rfl ?_ | refine Q4 rfl rfl rfl rfl rfl ?_ | refine Q5 rfl ?_ | refine Q6 rfl ?_ | refine Q7 rfl rfl rfl ?_ | refine Q8 rfl rfl rfl ?_ | refine Q9 rfl rfl rfl rfl ?_ | refine QA rfl rfl (by decide) ?_ | refine QB rfl rfl (by decide) ?_ | refine QC rfl rfl ?_ | refine QD rfl ?_ | refine QE rfl rfl ?_ | refine QF rfl rfl ?_ | refine QG rfl rfl rfl rfl ?_ | refine QH rfl rfl rfl ?_ | refine QI rfl rfl rfl ?_ | refine QJ rfl rfl ?_ | refine QK rfl ?_ | refine QM rfl rfl rfl rfl rfl ?_ | refine QN ?_ | refine QO ?_ | refine QP rfl rfl rfl rfl rfl rfl ?_ | refine QQ rfl rfl rfl rfl rfl rfl rfl rfl rfl rfl rfl ?_ | refine QR rfl rfl rfl rfl rfl rfl rfl rfl rfl rfl rfl rfl ?_); (first | exact QX rfl rfl ⟨rfl, rfl⟩ | exact QY rfl ⟨rfl, rfl⟩ | exact QZ ⟨rfl, rfl⟩ | refine QX rfl rfl ?_ | refine QZ ?_)) | refine Qa rfl ?_ | (refine Qb rfl ?_; try (refine QS rfl rfl rfl rfl rfl rfl rfl ?_; (first | refine QX rfl rfl ?_ | refine QZ ?_))) | refine Qh ?_ | refine Qi rfl ?_ | refine Qj rfl ?_ | (refine Qf rfl rfl rfl ?_; refine QS rfl rfl rfl rfl rfl rfl rfl ?_; (first | refine QX rfl rfl ?_ | refine QZ ?_)) | apply Qg rfl rfl | refine Qk ?_ | refine Ql ?_ | refine Qm ?_ | refine Qn ?_ | refine Qo rfl ?_ | refine Qp rfl ?_ | refine Qq rfl ?_ | refine Qr ?_ | refine Qs ?_ | refine Qt ?_ | refine Qu ?_ | refine Qv ?_ | refine Qw (by kernel_rfl) ?_ | ((fail_if_success refine QV rfl ?_); first | refine Qy rfl rfl (fun _ => ?_) (fun _ => ?_) | refine Qz rfl rfl (fun _ => ?_) (fun _ => ?_)) | ((fail_if_success refine QW rfl rfl ?_); first | refine QT rfl rfl rfl (fun _ => ?_) (fun _ => ?_) | refine QU rfl rfl rfl (fun _ => ?_) (fun _ => ?_)))
    · rename_i h2
      apply ds rfl rfl rfl rfl
      · refine st_call (fun _ => rfl) rfl ?_
        refine ACalls.mono (dev_l (fun X => dead_c X v) trivial trivial (rdS 3 r)) ?_
        rintro r H' ⟨rfl, rfl⟩
        first
        | exact nx rfl rfl ⟨rfl, rfl⟩
        | exact nx0 ⟨rfl, rfl⟩
      repeat' (first | ((first | refine Qa rfl ?_ | refine Qc rfl rfl rfl ?_ | apply Qd rfl rfl rfl rfl | (apply Qe rfl rfl rfl rfl; intro H9)); (first | refine Q0 ?_ | refine Q1 ?_ | refine Q2 rfl ?_ | refine Q3 rfl rfl rfl ?_ | refine Q4 rfl rfl rfl rfl rfl ?_ | refine Q5 rfl ?_ | refine Q6 rfl ?_ | refine Q7 rfl rfl rfl ?_ | refine Q8 rfl rfl rfl ?_ | refine Q9 rfl rfl rfl rfl ?_ | refine QA rfl rfl (by decide) ?_ | refine QB rfl rfl (by decide) ?_ | refine QC rfl rfl ?_ | refine QD rfl ?_ | refine QE rfl rfl ?_ | refine QF rfl rfl ?_ | refine QG rfl rfl rfl rfl ?_ | refine QH rfl rfl rfl ?_ | refine QI rfl rfl rfl ?_ | refine QJ rfl rfl ?_ | refine QK rfl ?_ | refine QM rfl rfl rfl rfl rfl ?_ | refine QN ?_ | refine QO ?_ | refine QP rfl rfl rfl rfl rfl rfl ?_ | refine QQ rfl rfl rfl rfl rfl rfl rfl rfl rfl rfl rfl ?_ | refine QR rfl rfl rfl rfl rfl rfl rfl rfl rfl rfl rfl rfl ?_); (first | exact QX rfl rfl ⟨rfl, rfl⟩ | exact QY rfl ⟨rfl, rfl⟩ | exact QZ ⟨rfl, rfl⟩ | refine QX rfl rfl ?_ | refine QZ ?_)) | refine Qa rfl ?_ | (refine Qb rfl ?_; try (refine QS rfl rfl rfl rfl rfl rfl rfl ?_; (first | refine QX rfl rfl ?_ | refine QZ ?_))) | refine Qh ?_ | refine Qi rfl ?_ | refine Qj rfl ?_ | (refine Qf rfl rfl rfl ?_; refine QS rfl rfl rfl rfl rfl rfl rfl ?_; (first | refine QX rfl rfl ?_ | refine QZ ?_)) | apply Qg rfl rfl | refine Qk ?_ | refine Ql ?_ | refine Qm ?_ | refine Qn ?_ | refine Qo rfl ?_ | refine Qp rfl ?_ | refine Qq rfl ?_ | refine Qr ?_ | refine Qs ?_ | refine Qt ?_ | refine Qu ?_ | refine Qv ?_ | refine Qw (by kernel_rfl) ?_ | ((fail_if_success refine QV rfl ?_); first | refine Qy rfl rfl (fun _ => ?_) (fun _ => ?_) | refine Qz rfl rfl (fun _ => ?_) (fun _ => ?_)) | ((fail_if_success refine QW rfl rfl ?_); first | refine QT rfl rfl rfl (fun _ => ?_) (fun _ => ?_) | refine QU rfl rfl rfl (fun _ => ?_) (fun _ => ?_)))
      · rename_i h3
        apply ds rfl rfl rfl rfl
        · refine st_call (fun _ => rfl) rfl ?_
          refine ACalls.mono (dev_l (fun X => writes_c X v) trivial trivial (rdS 3 r)) ?_
          rintro r H' ⟨rfl, rfl⟩
          first
          | exact nx rfl rfl ⟨rfl, rfl⟩
          | exact nx0 ⟨rfl, rfl⟩
        repeat' (first | ((first | refine Qa rfl ?_ | refine Qc rfl rfl rfl ?_ | apply Qd rfl rfl rfl rfl | (apply Qe rfl rfl rfl rfl; intro H9)); (first | refine Q0 ?_ | refine Q1 ?_ | refine Q2 rfl ?_ | refine Q3 rfl rfl rfl ?_ | refine Q4 rfl rfl rfl rfl rfl ?_ | refine Q5 rfl ?_ | refine Q6 rfl ?_ | refine Q7 rfl rfl rfl ?_ | refine Q8 rfl rfl rfl ?_ | refine Q9 rfl rfl rfl rfl ?_ | refine QA rfl rfl (by decide) ?_ | refine QB rfl rfl (by decide) ?_ | refine QC rfl rfl ?_ | refine QD rfl ?_ | refine QE rfl rfl ?_ | refine QF rfl rfl ?_ | refine QG rfl rfl rfl rfl ?_ | refine QH rfl rfl rfl ?_ | refine QI rfl rfl rfl ?_ | refine QJ rfl rfl ?_ | refine QK rfl ?_ | refine QM rfl rfl rfl rfl rfl ?_ | refine QN ?_ | refine QO ?_ | refine QP rfl rfl rfl rfl rfl rfl ?_ | refine QQ rfl rfl rfl rfl rfl rfl rfl rfl rfl rfl rfl ?_ | refine QR rfl rfl rfl rfl rfl rfl rfl rfl rfl rfl rfl rfl ?_); (first | exact QX rfl rfl ⟨rfl, rfl⟩ | exact QY rfl ⟨rfl, rfl⟩ | exact QZ ⟨rfl, rfl⟩ | refine QX rfl rfl ?_ | refine QZ ?_)) | refine Qa rfl ?_ | (refine Qb rfl ?_; try (refine QS rfl rfl rfl rfl rfl rfl rfl ?_; (first | refine QX rfl rfl ?_ | refine QZ ?_))) | refine Qh ?_ | refine Qi rfl ?_ | refine Qj rfl ?_ | (refine Qf rfl rfl rfl ?_; refine QS rfl rfl rfl rfl rfl rfl rfl ?_; (first | refine QX rfl rfl ?_ | refine QZ ?_)) | apply Qg rfl rfl | refine Qk ?_ | refine Ql ?_ | refine Qm ?_ | refine Qn ?_ | refine Qo rfl ?_ | refine Qp rfl ?_ | refine Qq rfl ?_ | refine Qr ?_ | refine Qs ?_ | refine Qt ?_ | refine Qu ?_ | refine Qv ?_ | refine Qw (by kernel_rfl) ?_ | ((fail_if_success refine QV rfl ?_); first | refine Qy rfl rfl (fun _ => ?_) (fun _ => ?_) | refine Qz rfl rfl (fun _ => ?_) (fun _ => ?_)) | ((fail_if_success refine QW rfl rfl ?_); first | refine QT rfl rfl rfl (fun _ => ?_) (fun _ => ?_) | refine QU rfl rfl rfl (fun _ => ?_) (fun _ => ?_)))
        · rename_i h4
          apply ds rfl rfl rfl rfl
          · refine st_call (fun _ => rfl) rfl ?_
            refine ACalls.mono (image_l X v hl (rdS 3 r)) ?_
            rintro r H' ⟨rfl, rfl⟩
            first
            | exact nx rfl rfl ⟨rfl, rfl⟩
            | exact nx0 ⟨rfl, rfl⟩
          repeat' (first | ((first | refine Qa rfl ?_ | refine Qc rfl rfl rfl ?_ | apply Qd rfl rfl rfl rfl | (apply Qe rfl rfl rfl rfl; intro H9)); (first | refine Q0 ?_ | refine Q1 ?_ | refine Q2 rfl ?_ | refine Q3 rfl rfl rfl ?_ | refine Q4 rfl rfl rfl rfl rfl ?_ | refine Q5 rfl ?_ | refine Q6 rfl ?_ | refine Q7 rfl rfl rfl ?_ | refine Q8 rfl rfl rfl ?_ | refine Q9 rfl rfl rfl rfl ?_ | refine QA rfl rfl (by decide) ?_ | refine QB rfl rfl (by decide) ?_ | refine QC rfl rfl ?_ | refine QD rfl ?_ | refine QE rfl rfl ?_ | refine QF rfl rfl ?_ | refine QG rfl rfl rfl rfl ?_ | refine QH rfl rfl rfl ?_ | refine QI rfl rfl rfl ?_ | refine QJ rfl rfl ?_ | refine QK rfl ?_ | refine QM rfl rfl rfl rfl rfl ?_ | refine QN ?_ | refine QO ?_ | refine QP rfl rfl rfl rfl rfl rfl ?_ | refine QQ rfl rfl rfl rfl rfl rfl rfl rfl rfl rfl rfl ?_ | refine QR rfl rfl rfl rfl rfl rfl rfl rfl rfl rfl rfl rfl ?_); (first | exact QX rfl rfl ⟨rfl, rfl⟩ | exact QY rfl ⟨rfl, rfl⟩ | exact QZ ⟨rfl, rfl⟩ | refine QX rfl rfl ?_ | refine QZ ?_)) | refine Qa rfl ?_ | (refine Qb rfl ?_; try (refine QS rfl rfl rfl rfl rfl rfl rfl ?_; (first | refine QX rfl rfl ?_ | refine QZ ?_))) | refine Qh ?_ | refine Qi rfl ?_ | refine Qj rfl ?_ | (refine Qf rfl rfl rfl ?_; refine QS rfl rfl rfl rfl rfl rfl rfl ?_; (first | refine QX rfl rfl ?_ | refine QZ ?_)) | apply Qg rfl rfl | refine Qk ?_ | refine Ql ?_ | refine Qm ?_ | refine Qn ?_ | refine Qo rfl ?_ | refine Qp rfl ?_ | refine Qq rfl ?_ | refine Qr ?_ | refine Qs ?_ | refine Qt ?_ | refine Qu ?_ | refine Qv ?_ | refine Qw (by kernel_rfl) ?_ | ((fail_if_success refine QV rfl ?_); first | refine Qy rfl rfl (fun _ => ?_) (fun _ => ?_) | refine Qz rfl rfl (fun _ => ?_) (fun _ => ?_)) | ((fail_if_success refine QW rfl rfl ?_); first | refine QT rfl rfl rfl (fun _ => ?_) (fun _ => ?_) | refine QU rfl rfl rfl (fun _ => ?_) (fun _ => ?_)))
          apply ds rfl rfl rfl rfl
          · refine st_call (fun _ => rfl) rfl ?_
            refine ACalls.mono (eq_b X _ _ _ v.image r.new (by omega) rfl (src_ownm' rfl rfl rfl (by simp) (by simp))) ?_
            rintro r H' ⟨rfl, rfl⟩
            first
            | exact nx rfl rfl ⟨rfl, rfl⟩
            | exact nx0 ⟨rfl, rfl⟩
          repeat' (first | ((first | refine Qa rfl ?_ | refine Qc rfl rfl rfl ?_ | apply Qd rfl rfl rfl rfl | (apply Qe rfl rfl rfl rfl; intro H9)); (first | refine Q0 ?_ | refine Q1 ?_ | refine Q2 rfl ?_ | refine Q3 rfl rfl rfl ?_ | refine Q4 rfl rfl rfl rfl rfl ?_ | refine Q5 rfl ?_ | refine Q6 rfl ?_ | refine Q7 rfl rfl rfl ?_ | refine Q8 rfl rfl rfl ?_ | refine Q9 rfl rfl rfl rfl ?_ | refine QA rfl rfl (by decide) ?_ | refine QB rfl rfl (by decide) ?_ | refine QC rfl rfl ?_ | refine QD rfl ?_ | refine QE rfl rfl ?_ | refine QF rfl rfl ?_ | refine QG rfl rfl rfl rfl ?_ | refine QH rfl rfl rfl ?_ | refine QI rfl rfl rfl ?_ | refine QJ rfl rfl ?_ | refine QK rfl ?_ | refine QM rfl rfl rfl rfl rfl ?_ | refine QN ?_ | refine QO ?_ | refine QP rfl rfl rfl rfl rfl rfl ?_ | refine QQ rfl rfl rfl rfl rfl rfl rfl rfl rfl rfl rfl ?_ | refine QR rfl rfl rfl rfl rfl rfl rfl rfl rfl rfl rfl rfl ?_); (first | exact QX rfl rfl ⟨rfl, rfl⟩ | exact QY rfl ⟨rfl, rfl⟩ | exact QZ ⟨rfl, rfl⟩ | refine QX rfl rfl ?_ | refine QZ ?_)) | refine Qa rfl ?_ | (refine Qb rfl ?_; try (refine QS rfl rfl rfl rfl rfl rfl rfl ?_; (first | refine QX rfl rfl ?_ | refine QZ ?_))) | refine Qh ?_ | refine Qi rfl ?_ | refine Qj rfl ?_ | (refine Qf rfl rfl rfl ?_; refine QS rfl rfl rfl rfl rfl rfl rfl ?_; (first | refine QX rfl rfl ?_ | refine QZ ?_)) | apply Qg rfl rfl | refine Qk ?_ | refine Ql ?_ | refine Qm ?_ | refine Qn ?_ | refine Qo rfl ?_ | refine Qp rfl ?_ | refine Qq rfl ?_ | refine Qr ?_ | refine Qs ?_ | refine Qt ?_ | refine Qu ?_ | refine Qv ?_ | refine Qw (by kernel_rfl) ?_ | ((fail_if_success refine QV rfl ?_); first | refine Qy rfl rfl (fun _ => ?_) (fun _ => ?_) | refine Qz rfl rfl (fun _ => ?_) (fun _ => ?_)) | ((fail_if_success refine QW rfl rfl ?_); first | refine QT rfl rfl rfl (fun _ => ?_) (fun _ => ?_) | refine QU rfl rfl rfl (fun _ => ?_) (fun _ => ?_)))
          refine awp_ret ?_
          refine ⟨_, rfl, ?_, ?_⟩
          · have h3' : v.dead = r.gone := by simpa using h3
            have h2' : (v.old.length : Int) = cntB r.dirt := by simpa using h2
            simp [sameB, h1, h2', h3', h4] <;> rfl
          · rfl
        · rename_i h4
          refine awp_ret ?_
          refine ⟨_, rfl, ?_, ?_⟩
          · simp [sameB, h4] <;> rfl
          · rfl
      · rename_i h3
        refine awp_ret ?_
        refine ⟨_, rfl, ?_, ?_⟩
        · have h3' : ¬ v.dead = r.gone := by simpa using h3
          simp [sameB, h3'] <;> rfl
        · rfl
    · rename_i h2
      refine awp_ret ?_
      refine ⟨_, rfl, ?_, ?_⟩
      · have h2' : ¬ (v.old.length : Int) = cntB r.dirt := by simpa using h2
        simp only [sameB, h2'] <;> simp <;> rfl
      · rfl
  · rename_i h1
    refine awp_ret ?_
    refine ⟨_, rfl, ?_, ?_⟩
    · simp only [sameB, h1] <;> simp <;> rfl
    · rfl
end Go.Abs
namespace Go.Abs
theorem inv_burn {v : Dv} (h : v.Inv) : v.burn.Inv := ⟨h.load, h.nd, h.sz, h.keys, by have := h.fuse; unfold Dv.burn; simp only; split <;> omega⟩
theorem inv_put {v : Dv} (h : v.Inv) {k : Nat} {b : List UInt8} (hk : k * 64 + 64 ≤ v.image.length) (hb : b.length ≤ 64) : (v.put k b).Inv := by
  have hl : (v.put k b).image.length = v.image.length := by simp [Dv.put]; omega
  by_cases hm : (k : Int) ∈ v.old.map (·.1)
  · have e : (v.put k b).old = v.old := by simp only [Dv.put, if_pos hm]
    exact ⟨by rw [hl]; exact h.load, by rw [e]; exact h.nd, by rw [e]; exact h.sz, by rw [e, hl]; exact h.keys, h.fuse⟩
  · have e : (v.put k b).old = v.old ++ [((k : Int), v.sector k)] := by simp only [Dv.put, if_neg hm]
    refine ⟨by rw [hl]; exact h.load, ?_, ?_, ?_, h.fuse⟩
    · rw [e, List.map_append, List.nodup_append]
      refine ⟨h.nd, by simp, fun a ha b hb e => ?_⟩
      simp at hb
      subst hb; subst e
      exact hm ha
    · rw [e]
      intro p hp
      rcases List.mem_append.1 hp with hp | hp
      · exact h.sz p hp
      · simp at hp; subst hp; simp [Dv.sector]; omega
    · rw [e, hl]
      intro p hp
      rcases List.mem_append.1 hp with hp | hp
      · exact h.keys p hp
      · simp at hp; subst hp; simp only; omega
theorem check_eq {v : Dv} (h : v.Inv) (i : Int) : v.check i = if v.dead = true then 1 else if i < 0 ∨ ((v.image.length / 64 : Nat) : Int) ≤ i then 2 else 0 := by
  unfold Dv.check Dv.n
  rw [len_div (by have := h.load.2.2; omega)]
theorem check_in {v : Dv} (h : v.Inv) {i : Int} (hc : v.check i = 0) : v.dead = false ∧ ∃ k : Nat, i = k ∧ k * 64 + 64 ≤ v.image.length := by
  refine ⟨?_, check_zero (by have := h.load.2.2; omega) hc⟩
  rw [check_eq h] at hc
  split at hc
  · omega
  · rename_i hd; simpa using hd
theorem inv_write {v : Dv} (h : v.Inv) (i : Int) (b : List UInt8) : (v.write i b).2.Inv := by
  unfold Dv.write
  split
  · exact h
  · rename_i hc
    obtain ⟨_, k, rfl, hk⟩ := check_in h (Decidable.not_not.1 hc)
    split
    · exact h
    · split
      · exact inv_burn h
      · exact inv_put (inv_burn h) (by show _ ≤ v.image.length; simpa using hk) (by omega)
theorem inv_barrier {v : Dv} (h : v.Inv) : v.barrier.2.Inv := by
  unfold Dv.barrier
  split
  · exact h
  · split
    · exact inv_burn h
    · exact ⟨h.load, by simp, by simp, by simp, (inv_burn h).fuse⟩
theorem inv_fuse {v : Dv} (h : v.Inv) {n : Int} (hn : n ≤ 9223372036854775807) : ({ v with fuse := max n (-1) } : Dv).Inv := ⟨h.load, h.nd, h.sz, h.keys, by simp only; omega⟩
theorem inv_fresh {img : List UInt8} (h : LoadOk img.length) : (Dv.fresh img).Inv := ⟨h, by simp [Dv.fresh], by simp [Dv.fresh], by simp [Dv.fresh], by simp [Dv.fresh]⟩
theorem inv_crash {v : Dv} (h : v.Inv) (keep : List Bool) (ts : List Tr) : (v.crash keep ts).Inv := inv_fresh (by rw [pcRun_len h]; exact h.load)
theorem ACalls.weak {E : Env} {f : FuncId} {args args' : List AV} {H : Hp} {R : AV → Hp → Prop} (h : ACalls E f args' H R) (hw : ∀ m w vs, E.RelL m w args vs → E.RelL m w args' vs) : ACalls E f args H R :=
  ⟨h.1, fun m w vs h1 h2 h3 h4 => h.2 m w vs h1 h2 (hw m w vs h3) h4⟩
theorem rel_nils {E : Env} {m : Mu} {w : World} {v : Value} (k : Nat) (h : E.Rel m w .nils v) : E.Rel m w (.sl k []) v := by
  simp only [Env.Rel, Abs.Rel] at h ⊢
  subst h
  exact ⟨none, 0, [], rfl, Nat.le_refl _, Nat.zero_le _, by simp [Abs.RelL], by simp, by simp [Fz, flat]⟩
theorem mapH_new (s q : Nat) (v : Dv) : mapH (sh s q 3) (devS 3 v) = devS (3 + s + q) v := by
  simp [mapH, devS, rnO, rnL, rnA, sh, rnL_map (f := u8A) (fun _ => rfl)]
  have := rnMap_old (g := sh s q 3) v.old
  refine ⟨⟨by omega, by omega⟩, by simpa using this⟩
theorem hok_crashed (v c : Dv) : HOk 6 (devH v ++ devS 3 c) := fun j o ho => by
  match j, ho with
  | 0, ho => cases ho; exact ⟨by simp [IdsLt], by simp [IdsLt], trivial, trivial, trivial, trivial⟩
  | 1, ho => cases ho; exact idsL_map fun _ => u8A_ids
  | 2, ho => cases ho; exact oldS_ids _ _
  | 3, ho => cases ho; exact ⟨by simp [IdsLt], by simp [IdsLt], trivial, trivial, trivial, trivial⟩
  | 4, ho => cases ho; exact idsL_map fun _ => u8A_ids
  | 5, ho => cases ho; exact oldS_ids _ _
theorem crash_v (X : Nat → Prop) (v : Dv) (hv : v.Inv) (keep : List Bool) (ts : List Tr) (hts : ts.length ≤ 1073741824) :
    ACalls (E0 X) 13 [.ptr 0 0, .sl 1 (keep.map boA), .sl 2 (ts.map trA)] (devH v) (fun r H' => r = .ptr 3 0 ∧ H' = devH v ++ devS 3 (v.crash keep ts)) :=
  ACalls.imp (crash_c X v hv keep ts hts) fun r H' ⟨h1, h2⟩ => by
    subst h1
    have hl : 6 ≤ H'.length := by
      have := congrArg List.length h2
      rw [List.length_take] at this
      have e : (devH v ++ devS 3 (v.crash keep ts)).length = 6 := rfl
      omega
    exact ⟨_, _, ⟨rfl, rfl⟩, imp_cutk 6 (by simp [devH]) (hok_crashed _ _) h2 hl (fa_cons ⟨rfl, by simp [IdsLt]⟩ fa_nil)⟩
theorem crash_at (X : Nat → Prop) (v : Dv) (hv : v.Inv) (keep : List Bool) (ts : List Tr) (hts : ts.length ≤ 1073741824) (L R : Hp) (s : Nat) (hs : L.length = s) :
    ACalls (E0 X) 13 [.ptr s 0, .sl 1 (keep.map boA), .sl 2 (ts.map trA)] (L ++ devS s v ++ R) (fun r H' => r = .ptr (3 + s + R.length) 0 ∧ H' = L ++ devS s v ++ R ++ devS (3 + s + R.length) (v.crash keep ts)) := by
  refine (dev_gen (fun X => crash_v X v hv keep ts hts) ⟨idsL_map fun _ => boA_ids, idsL_map fun _ => trA_ids, trivial⟩ L R s hs).mono ?_
  rintro r H' ⟨r1, h', ⟨rfl, rfl⟩, rfl, rfl⟩
  refine ⟨by simp [rnA, sh], ?_⟩
  show L ++ mapH (sh s R.length 3) (devH v) ++ R ++ mapH (sh s R.length 3) (devS 3 _) = _
  rw [mapH_devQ, mapH_new]
theorem read_at (X : Nat → Prop) (v : Dv) (i : Int) (hl : v.image.length ≤ 1073741824) (L R : Hp) (s : Nat) (hs : L.length = s) :
    ACalls (E0 X) 17 [.ptr s 0, .int .i64 i] (L ++ devS s v ++ R) (fun r H' => (v.check i ≠ 0 ∧ r = .tup [.nils, .int .i64 (v.check i)] ∧ H' = L ++ devS s v ++ R) ∨
      (v.check i = 0 ∧ r = .tup [.own (3 + s + R.length) 0 64, .int .i64 0] ∧ H' = L ++ devS s v ++ R ++ [some (.arr (((v.image.drop (i.toNat * 64)).take 64).map u8A) 5)])) := by
  refine (dev_gen (fun X => read_c X v i hl) ⟨trivial, trivial⟩ L R s hs).mono ?_
  rintro r H' ⟨r1, h', h, rfl, rfl⟩
  rcases h with ⟨h1, rfl, rfl⟩ | ⟨h1, rfl, rfl⟩
  · refine .inl ⟨h1, rfl, ?_⟩
    show L ++ mapH (sh s R.length 3) (devH v) ++ R ++ [] = _
    rw [mapH_devQ, List.append_nil]
  · refine .inr ⟨h1, by simp [rnA, rnL, sh], ?_⟩
    show L ++ mapH (sh s R.length 3) (devH v) ++ R ++ [some (.arr (rnL _ (List.map u8A _)) _)] = _
    rw [mapH_devQ, rnL_map (fun _ => rfl)]
theorem put_len {v : Dv} {k : Nat} {b : List UInt8} (hk : k * 64 + 64 ≤ v.image.length) (hb : b.length ≤ 64) : (v.put k b).image.length = v.image.length := by simp [Dv.put]; omega
theorem write_ok {v : Dv} (h : v.Inv) (hd : v.dead = false) (hf : v.fuse = -1) {k : Nat} {b : List UInt8} (hk : k * 64 + 64 ≤ v.image.length) (hb : b.length ≤ 64) : v.write (k : Int) b = (0, v.put k b) := by
  have hc : v.check (k : Int) = 0 := by
    rw [check_eq h, hd]
    simp only [Bool.false_eq_true, if_false]
    rw [if_neg (by omega)]
  have hbn : v.burn = v := by
    obtain ⟨a, b, c, d, e⟩ := v
    simp only at hd hf
    subst hd; subst hf
    simp [Dv.burn]
  unfold Dv.write
  rw [if_neg (by rw [hc]; simp), if_neg (by omega), hbn, if_neg (by rw [hd]; simp)]
  rfl
theorem barrier_ok {v : Dv} (hd : v.dead = false) (hf : v.fuse = -1) : v.barrier = (0, { v with old := [] }) := by
  have hbn : v.burn = v := by
    obtain ⟨a, b, c, d, e⟩ := v
    simp only at hd hf
    subst hd; subst hf
    simp [Dv.burn]
  unfold Dv.barrier
  rw [hbn]; simp [hd]
end Go.Abs
namespace Go.Abs
def awZ : List UInt8 := List.replicate ((3 : Int).toNat * 64) 0
def aw1 : Dv := (Dv.fresh awZ).put 1 [97, 97]
def aw2 : Dv := { aw1 with old := [] }
def aw3 : Dv := aw2.put 1 [98, 98]
theorem awZ_len : (Dv.fresh awZ).image.length = 192 := by
  show (List.replicate _ _).length = 192
  rw [List.length_replicate]; rfl
theorem aw0_inv : (Dv.fresh awZ).Inv := inv_fresh (by rw [show awZ.length = 192 from awZ_len]; exact ⟨rfl, by decide, by decide⟩)
theorem aw1_inv : aw1.Inv := inv_put aw0_inv (by rw [awZ_len]; decide) (by decide)
theorem aw2_inv : aw2.Inv := ⟨aw1_inv.load, by simp [aw2], by simp [aw2], by simp [aw2], aw1_inv.fuse⟩
theorem aw2_len : aw2.image.length = 192 := (put_len (by rw [awZ_len]; decide) (by decide)).trans awZ_len
theorem aw3_inv : aw3.Inv := inv_put aw2_inv (by rw [aw2_len]; decide) (by decide)
def awT : List Tr := [⟨0, 1⟩]
def awC : Dv := aw3.crash [] awT
theorem aw_keys : keysS aw3.old = [1] := by
  have : aw3.old = [(((1 : Nat) : Int), aw2.sector 1)] := rfl
  rw [this]
  simp [keysS]
theorem aw_img : awC.image = bkN aw3.image (lookO aw3.old 1) 1 1 := by
  show pcRun aw3.image aw3.old [] awT 1 = _
  have : pcRun aw3.image aw3.old [] awT 1 = pcStep aw3.old [] awT aw3.image 0 := rfl
  rw [this]
  unfold pcStep
  rw [aw_keys]
  rfl
def awL : List UInt8 := (awC.image.drop ((1 : Int).toNat * 64)).take 64
theorem awL_len : awL.length = 64 := by
  unfold awL
  rw [aw_img]
  kernel_rfl
theorem awL_0 : awL[0]? = some 98 := by
  unfold awL
  rw [aw_img]
  kernel_rfl
theorem awL_1 : awL[1]? = some 97 := by
  unfold awL
  rw [aw_img]
  kernel_rfl
theorem awC_len : awC.image.length = 192 := by rw [aw_img]; kernel_rfl
theorem awC_check : awC.check 1 = 0 := by
  have h : awC.Inv := inv_crash aw3_inv _ _
  rw [check_eq h]
  rw [awC_len]
  rfl
theorem aw_crash : aw3.crash [] awT = awC := rfl
theorem aw_L : (awC.image.drop ((1 : Int).toNat * 64)).take 64 = awL := rfl
theorem aw_new : Dv.fresh (List.replicate ((3 : Int).toNat * 64) 0) = Dv.fresh awZ := rfl
theorem aw_e1 : (Dv.fresh awZ).write 1 [97, 97] = (0, aw1) := write_ok aw0_inv rfl rfl (k := 1) (by rw [awZ_len]; decide) (by decide)
theorem aw_e2 : aw1.barrier = (0, aw2) := barrier_ok rfl rfl
theorem aw_e3 : aw2.write 1 [98, 98] = (0, aw3) := write_ok aw2_inv rfl rfl (k := 1) (by rw [aw2_len]; decide) (by decide)
attribute [local irreducible] aw1 aw2 aw3 awC awL awZ
attribute [local irreducible] AStep aops AWp Nx awM
set_option maxHeartbeats 0 in
set_option maxRecDepth 100000 in
theorem awake_c (X : Nat → Prop) : ACalls (E0 X) 14 [] [] (fun r H' => r = .bool true ∧ H' = []) := by
  refine acalls_of Proofs.Try.func14 rfl Proofs.Try.ntmps14 (by kernel_rfl) rfl ?_
  intro hH hargs
  clear hH hargs
  repeat' (first | ((first | refine Qa rfl ?_ | refine Qc rfl rfl rfl ?_ | apply Qd rfl rfl rfl rfl | (apply Qe rfl rfl rfl rfl; intro H9)); (first | refine Q0 ?_ | refine Q1 ?_ | refine Q2 rfl ?_ | refine Q3 rfl rfl rfl ?_ | refine Q4 rfl rfl rfl rfl rfl ?_ | refine Q5 rfl ?_ | refine Q6 rfl ?_ | refine Q7 rfl rfl rfl ?_ | refine Q8 rfl rfl rfl ?_ | refine Q9 rfl rfl rfl rfl ?_ | refine QA rfl rfl (by decide) ?_ | refine QB rfl rfl (by decide) ?_ | refine QC rfl rfl ?_ | refine QD rfl ?_ | refine QE rfl rfl ?_ | refine QF rfl rfl ?_ | refine QG rfl rfl rfl rfl ?_ | refine QH rfl rfl rfl ?_ | refine QI rfl rfl rfl ?_ | refine QJ rfl rfl ?_ | refine QK rfl ?_ | refine QM rfl rfl rfl rfl rfl ?_ | refine QN ?_ | refine QO ?_ | refine QP rfl rfl rfl rfl rfl rfl ?_ | refine QQ rfl rfl rfl rfl rfl rfl rfl rfl rfl rfl rfl ?_ | refine QR rfl rfl rfl rfl rfl rfl rfl rfl rfl rfl rfl rfl ?_); (first | exact QX rfl rfl ⟨rfl, rfl⟩ | exact QY rfl ⟨rfl, rfl⟩ | exact QZ ⟨rfl, rfl⟩ | refine QX rfl rfl ?_ | refine QZ ?_)) | refine Qa rfl ?_ | (refine Qb rfl ?_; try (refine QS rfl rfl rfl rfl rfl rfl rfl ?_; (first | refine QX rfl rfl ?_ | refine QZ ?_))) | refine Qh ?_ | refine Qi rfl ?_ | refine Qj rfl ?_ | (refine Qf rfl rfl rfl ?_; refine QS rfl rfl rfl rfl rfl rfl rfl ?_; (first | refine QX rfl rfl ?_ | refine QZ ?_)) | apply Qg rfl rfl | refine Qk ?_ | refine Ql ?_ | refine Qm ?_ | refine Qn ?_ | refine Qo rfl ?_ | refine Qp rfl ?_ | refine Qq rfl ?_ | refine Qr ?_ | refine Qs ?_ | refine Qt ?_ | refine Qu ?_ | refine Qv ?_ | refine Qw (by kernel_rfl) ?_ | refine Qx rfl (by kernel_rfl) ?_)
  refine st_call (fun _ => rfl) rfl ?_
  refine ACalls.mono (new_c X 3) ?_
  rintro r H' (⟨-, -, rfl, rfl⟩ | ⟨hn, -, -⟩)
  rotate_left
  · exact absurd ⟨by decide, by decide⟩ hn
  rw [aw_new]
  refine nx0 ?_
  repeat' (first | ((first | refine Qa rfl ?_ | refine Qc rfl rfl rfl ?_ | apply Qd rfl rfl rfl rfl | (apply Qe rfl rfl rfl rfl; intro H9)); (first | refine Q0 ?_ | refine Q1 ?_ | refine Q2 rfl ?_ | refine Q3 rfl rfl rfl ?_ | refine Q4 rfl rfl rfl rfl rfl ?_ | refine Q5 rfl ?_ | refine Q6 rfl ?_ | refine Q7 rfl rfl rfl ?_ | refine Q8 rfl rfl rfl ?_ | refine Q9 rfl rfl rfl rfl ?_ | refine QA rfl rfl (by decide) ?_ | refine QB rfl rfl (by decide) ?_ | refine QC rfl rfl ?_ | refine QD rfl ?_ | refine QE rfl rfl ?_ | refine QF rfl rfl ?_ | refine QG rfl rfl rfl rfl ?_ | refine QH rfl rfl rfl ?_ | refine QI rfl rfl rfl ?_ | refine QJ rfl rfl ?_ | refine QK rfl ?_ | refine QM rfl rfl rfl rfl rfl ?_ | refine QN ?_ | refine QO ?_ | refine QP rfl rfl rfl rfl rfl rfl ?_); (first | exact QX rfl rfl ⟨rfl, rfl⟩ | exact QY rfl ⟨rfl, rfl⟩ | exact QZ ⟨rfl, rfl⟩ | refine QX rfl rfl ?_ | refine QZ ?_)) | refine Qa rfl ?_ | (refine Qb rfl ?_; try (refine QS rfl rfl rfl rfl rfl rfl rfl ?_; (first | refine QX rfl rfl ?_ | refine QZ ?_))) | refine Qh ?_ | refine Qi rfl ?_ | refine Qj rfl ?_ | (refine Qf rfl rfl rfl ?_; refine QS rfl rfl rfl rfl rfl rfl rfl ?_; (first | refine QX rfl rfl ?_ | refine QZ ?_)) | apply Qg rfl rfl | refine Qk ?_ | refine Ql ?_ | refine Qm ?_ | refine Qn ?_ | refine Qo rfl ?_ | refine Qp rfl ?_ | refine Qq rfl ?_ | refine Qr ?_ | refine Qs ?_ | refine Qt ?_ | refine Qu ?_ | refine Qv ?_ | refine Qw (by kernel_rfl) ?_)
  refine st_buildSlice_own rfl rfl rfl rfl rfl rfl rfl (.inr rfl) rfl (.inr rfl) ?_
  first | refine nx rfl rfl ?_ | refine nx0 ?_
  repeat' (first | ((first | refine Qa rfl ?_ | refine Qc rfl rfl rfl ?_ | apply Qd rfl rfl rfl rfl | (apply Qe rfl rfl rfl rfl; intro H9)); (first | refine Q0 ?_ | refine Q1 ?_ | refine Q2 rfl ?_ | refine Q3 rfl rfl rfl ?_ | refine Q4 rfl rfl rfl rfl rfl ?_ | refine Q5 rfl ?_ | refine Q6 rfl ?_ | refine Q7 rfl rfl rfl ?_ | refine Q8 rfl rfl rfl ?_ | refine Q9 rfl rfl rfl rfl ?_ | refine QA rfl rfl (by decide) ?_ | refine QB rfl rfl (by decide) ?_ | refine QC rfl rfl ?_ | refine QD rfl ?_ | refine QE rfl rfl ?_ | refine QF rfl rfl ?_ | refine QG rfl rfl rfl rfl ?_ | refine QH rfl rfl rfl ?_ | refine QI rfl rfl rfl ?_ | refine QJ rfl rfl ?_ | refine QK rfl ?_ | refine QM rfl rfl rfl rfl rfl ?_ | refine QN ?_ | refine QO ?_ | refine QP rfl rfl rfl rfl rfl rfl ?_); (first | exact QX rfl rfl ⟨rfl, rfl⟩ | exact QY rfl ⟨rfl, rfl⟩ | exact QZ ⟨rfl, rfl⟩ | refine QX rfl rfl ?_ | refine QZ ?_)) | refine Qa rfl ?_ | (refine Qb rfl ?_; try (refine QS rfl rfl rfl rfl rfl rfl rfl ?_; (first | refine QX rfl rfl ?_ | refine QZ ?_))) | refine Qh ?_ | refine Qi rfl ?_ | refine Qj rfl ?_ | (refine Qf rfl rfl rfl ?_; refine QS rfl rfl rfl rfl rfl rfl rfl ?_; (first | refine QX rfl rfl ?_ | refine QZ ?_)) | apply Qg rfl rfl | refine Qk ?_ | refine Ql ?_ | refine Qm ?_ | refine Qn ?_ | refine Qo rfl ?_ | refine Qp rfl ?_ | refine Qq rfl ?_ | refine Qr ?_ | refine Qs ?_ | refine Qt ?_ | refine Qu ?_ | refine Qv ?_ | refine Qw (by kernel_rfl) ?_)
  refine st_conv_mark (k := 1) (lo := 0) (n := 2) (es := [97, 97].map u8A) (out := [97, 97].map u8A) (by decide) (by decide) rfl rfl rfl rfl rfl rfl rfl rfl rfl ?_
  first | refine nx rfl rfl ?_ | refine nx0 ?_
  repeat' (first | ((first | refine Qa rfl ?_ | refine Qc rfl rfl rfl ?_ | apply Qd rfl rfl rfl rfl | (apply Qe rfl rfl rfl rfl; intro H9)); (first | refine Q0 ?_ | refine Q1 ?_ | refine Q2 rfl ?_ | refine Q3 rfl rfl rfl ?_ | refine Q4 rfl rfl rfl rfl rfl ?_ | refine Q5 rfl ?_ | refine Q6 rfl ?_ | refine Q7 rfl rfl rfl ?_ | refine Q8 rfl rfl rfl ?_ | refine Q9 rfl rfl rfl rfl ?_ | refine QA rfl rfl (by decide) ?_ | refine QB rfl rfl (by decide) ?_ | refine QC rfl rfl ?_ | refine QD rfl ?_ | refine QE rfl rfl ?_ | refine QF rfl rfl ?_ | refine QG rfl rfl rfl rfl ?_ | refine QH rfl rfl rfl ?_ | refine QI rfl rfl rfl ?_ | refine QJ rfl rfl ?_ | refine QK rfl ?_ | refine QM rfl rfl rfl rfl rfl ?_ | refine QN ?_ | refine QO ?_ | refine QP rfl rfl rfl rfl rfl rfl ?_); (first | exact QX rfl rfl ⟨rfl, rfl⟩ | exact QY rfl ⟨rfl, rfl⟩ | exact QZ ⟨rfl, rfl⟩ | refine QX rfl rfl ?_ | refine QZ ?_)) | refine Qa rfl ?_ | (refine Qb rfl ?_; try (refine QS rfl rfl rfl rfl rfl rfl rfl ?_; (first | refine QX rfl rfl ?_ | refine QZ ?_))) | refine Qh ?_ | refine Qi rfl ?_ | refine Qj rfl ?_ | (refine Qf rfl rfl rfl ?_; refine QS rfl rfl rfl rfl rfl rfl rfl ?_; (first | refine QX rfl rfl ?_ | refine QZ ?_)) | apply Qg rfl rfl | refine Qk ?_ | refine Ql ?_ | refine Qm ?_ | refine Qn ?_ | refine Qo rfl ?_ | refine Qp rfl ?_ | refine Qq rfl ?_ | refine Qr ?_ | refine Qs ?_ | refine Qt ?_ | refine Qu ?_ | refine Qv ?_ | refine Qw (by kernel_rfl) ?_)
  refine st_call (fun _ => rfl) rfl ?_
  refine ACalls.mono (dev_l (fun X => write_c X _ aw0_inv.ok 1 [97, 97] (by decide)) ⟨trivial, idsL_map fun _ => u8A_ids, trivial⟩ trivial [none]) ?_
  rintro r H' ⟨rfl, rfl⟩
  rw [aw_e1]
  first | refine nx rfl rfl ?_ | refine nx0 ?_
  repeat' (first | ((first | refine Qa rfl ?_ | refine Qc rfl rfl rfl ?_ | apply Qd rfl rfl rfl rfl | (apply Qe rfl rfl rfl rfl; intro H9)); (first | refine Q0 ?_ | refine Q1 ?_ | refine Q2 rfl ?_ | refine Q3 rfl rfl rfl ?_ | refine Q4 rfl rfl rfl rfl rfl ?_ | refine Q5 rfl ?_ | refine Q6 rfl ?_ | refine Q7 rfl rfl rfl ?_ | refine Q8 rfl rfl rfl ?_ | refine Q9 rfl rfl rfl rfl ?_ | refine QA rfl rfl (by decide) ?_ | refine QB rfl rfl (by decide) ?_ | refine QC rfl rfl ?_ | refine QD rfl ?_ | refine QE rfl rfl ?_ | refine QF rfl rfl ?_ | refine QG rfl rfl rfl rfl ?_ | refine QH rfl rfl rfl ?_ | refine QI rfl rfl rfl ?_ | refine QJ rfl rfl ?_ | refine QK rfl ?_ | refine QM rfl rfl rfl rfl rfl ?_ | refine QN ?_ | refine QO ?_ | refine QP rfl rfl rfl rfl rfl rfl ?_); (first | exact QX rfl rfl ⟨rfl, rfl⟩ | exact QY rfl ⟨rfl, rfl⟩ | exact QZ ⟨rfl, rfl⟩ | refine QX rfl rfl ?_ | refine QZ ?_)) | refine Qa rfl ?_ | (refine Qb rfl ?_; try (refine QS rfl rfl rfl rfl rfl rfl rfl ?_; (first | refine QX rfl rfl ?_ | refine QZ ?_))) | refine Qh ?_ | refine Qi rfl ?_ | refine Qj rfl ?_ | (refine Qf rfl rfl rfl ?_; refine QS rfl rfl rfl rfl rfl rfl rfl ?_; (first | refine QX rfl rfl ?_ | refine QZ ?_)) | apply Qg rfl rfl | refine Qk ?_ | refine Ql ?_ | refine Qm ?_ | refine Qn ?_ | refine Qo rfl ?_ | refine Qp rfl ?_ | refine Qq rfl ?_ | refine Qr ?_ | refine Qs ?_ | refine Qt ?_ | refine Qu ?_ | refine Qv ?_ | refine Qw (by kernel_rfl) ?_)
  refine st_call (fun _ => rfl) rfl ?_
  refine ACalls.mono (dev_l (fun X => barrier_c X aw1 aw1_inv.fuse) trivial trivial [none]) ?_
  rintro r H' ⟨rfl, rfl⟩
  rw [aw_e2]
  first | refine nx rfl rfl ?_ | refine nx0 ?_
  repeat' (first | ((first | refine Qa rfl ?_ | refine Qc rfl rfl rfl ?_ | apply Qd rfl rfl rfl rfl | (apply Qe rfl rfl rfl rfl; intro H9)); (first | refine Q0 ?_ | refine Q1 ?_ | refine Q2 rfl ?_ | refine Q3 rfl rfl rfl ?_ | refine Q4 rfl rfl rfl rfl rfl ?_ | refine Q5 rfl ?_ | refine Q6 rfl ?_ | refine Q7 rfl rfl rfl ?_ | refine Q8 rfl rfl rfl ?_ | refine Q9 rfl rfl rfl rfl ?_ | refine QA rfl rfl (by decide) ?_ | refine QB rfl rfl (by decide) ?_ | refine QC rfl rfl ?_ | refine QD rfl ?_ | refine QE rfl rfl ?_ | refine QF rfl rfl ?_ | refine QG rfl rfl rfl rfl ?_ | refine QH rfl rfl rfl ?_ | refine QI rfl rfl rfl ?_ | refine QJ rfl rfl ?_ | refine QK rfl ?_ | refine QM rfl rfl rfl rfl rfl ?_ | refine QN ?_ | refine QO ?_ | refine QP rfl rfl rfl rfl rfl rfl ?_); (first | exact QX rfl rfl ⟨rfl, rfl⟩ | exact QY rfl ⟨rfl, rfl⟩ | exact QZ ⟨rfl, rfl⟩ | refine QX rfl rfl ?_ | refine QZ ?_)) | refine Qa rfl ?_ | (refine Qb rfl ?_; try (refine QS rfl rfl rfl rfl rfl rfl rfl ?_; (first | refine QX rfl rfl ?_ | refine QZ ?_))) | refine Qh ?_ | refine Qi rfl ?_ | refine Qj rfl ?_ | (refine Qf rfl rfl rfl ?_; refine QS rfl rfl rfl rfl rfl rfl rfl ?_; (first | refine QX rfl rfl ?_ | refine QZ ?_)) | apply Qg rfl rfl | refine Qk ?_ | refine Ql ?_ | refine Qm ?_ | refine Qn ?_ | refine Qo rfl ?_ | refine Qp rfl ?_ | refine Qq rfl ?_ | refine Qr ?_ | refine Qs ?_ | refine Qt ?_ | refine Qu ?_ | refine Qv ?_ | refine Qw (by kernel_rfl) ?_)
  refine st_buildSlice_own rfl rfl rfl rfl rfl rfl rfl (.inr rfl) rfl (.inr rfl) ?_
  first | refine nx rfl rfl ?_ | refine nx0 ?_
  repeat' (first | ((first | refine Qa rfl ?_ | refine Qc rfl rfl rfl ?_ | apply Qd rfl rfl rfl rfl | (apply Qe rfl rfl rfl rfl; intro H9)); (first | refine Q0 ?_ | refine Q1 ?_ | refine Q2 rfl ?_ | refine Q3 rfl rfl rfl ?_ | refine Q4 rfl rfl rfl rfl rfl ?_ | refine Q5 rfl ?_ | refine Q6 rfl ?_ | refine Q7 rfl rfl rfl ?_ | refine Q8 rfl rfl rfl ?_ | refine Q9 rfl rfl rfl rfl ?_ | refine QA rfl rfl (by decide) ?_ | refine QB rfl rfl (by decide) ?_ | refine QC rfl rfl ?_ | refine QD rfl ?_ | refine QE rfl rfl ?_ | refine QF rfl rfl ?_ | refine QG rfl rfl rfl rfl ?_ | refine QH rfl rfl rfl ?_ | refine QI rfl rfl rfl ?_ | refine QJ rfl rfl ?_ | refine QK rfl ?_ | refine QM rfl rfl rfl rfl rfl ?_ | refine QN ?_ | refine QO ?_ | refine QP rfl rfl rfl rfl rfl rfl ?_); (first | exact QX rfl rfl ⟨rfl, rfl⟩ | exact QY rfl ⟨rfl, rfl⟩ | exact QZ ⟨rfl, rfl⟩ | refine QX rfl rfl ?_ | refine QZ ?_)) | refine Qa rfl ?_ | (refine Qb rfl ?_; try (refine QS rfl rfl rfl rfl rfl rfl rfl ?_; (first | refine QX rfl rfl ?_ | refine QZ ?_))) | refine Qh ?_ | refine Qi rfl ?_ | refine Qj rfl ?_ | (refine Qf rfl rfl rfl ?_; refine QS rfl rfl rfl rfl rfl rfl rfl ?_; (first | refine QX rfl rfl ?_ | refine QZ ?_)) | apply Qg rfl rfl | refine Qk ?_ | refine Ql ?_ | refine Qm ?_ | refine Qn ?_ | refine Qo rfl ?_ | refine Qp rfl ?_ | refine Qq rfl ?_ | refine Qr ?_ | refine Qs ?_ | refine Qt ?_ | refine Qu ?_ | refine Qv ?_ | refine Qw (by kernel_rfl) ?_)
  refine st_conv_mark (k := 1) (lo := 0) (n := 2) (es := [98, 98].map u8A) (out := [98, 98].map u8A) (by decide) (by decide) rfl rfl rfl rfl rfl rfl rfl rfl rfl ?_
  first | refine nx rfl rfl ?_ | refine nx0 ?_
  repeat' (first | ((first | refine Qa rfl ?_ | refine Qc rfl rfl rfl ?_ | apply Qd rfl rfl rfl rfl | (apply Qe rfl rfl rfl rfl; intro H9)); (first | refine Q0 ?_ | refine Q1 ?_ | refine Q2 rfl ?_ | refine Q3 rfl rfl rfl ?_ | refine Q4 rfl rfl rfl rfl rfl ?_ | refine Q5 rfl ?_ | refine Q6 rfl ?_ | refine Q7 rfl rfl rfl ?_ | refine Q8 rfl rfl rfl ?_ | refine Q9 rfl rfl rfl rfl ?_ | refine QA rfl rfl (by decide) ?_ | refine QB rfl rfl (by decide) ?_ | refine QC rfl rfl ?_ | refine QD rfl ?_ | refine QE rfl rfl ?_ | refine QF rfl rfl ?_ | refine QG rfl rfl rfl rfl ?_ | refine QH rfl rfl rfl ?_ | refine QI rfl rfl rfl ?_ | refine QJ rfl rfl ?_ | refine QK rfl ?_ | refine QM rfl rfl rfl rfl rfl ?_ | refine QN ?_ | refine QO ?_ | refine QP rfl rfl rfl rfl rfl rfl ?_); (first | exact QX rfl rfl ⟨rfl, rfl⟩ | exact QY rfl ⟨rfl, rfl⟩ | exact QZ ⟨rfl, rfl⟩ | refine QX rfl rfl ?_ | refine QZ ?_)) | refine Qa rfl ?_ | (refine Qb rfl ?_; try (refine QS rfl rfl rfl rfl rfl rfl rfl ?_; (first | refine QX rfl rfl ?_ | refine QZ ?_))) | refine Qh ?_ | refine Qi rfl ?_ | refine Qj rfl ?_ | (refine Qf rfl rfl rfl ?_; refine QS rfl rfl rfl rfl rfl rfl rfl ?_; (first | refine QX rfl rfl ?_ | refine QZ ?_)) | apply Qg rfl rfl | refine Qk ?_ | refine Ql ?_ | refine Qm ?_ | refine Qn ?_ | refine Qo rfl ?_ | refine Qp rfl ?_ | refine Qq rfl ?_ | refine Qr ?_ | refine Qs ?_ | refine Qt ?_ | refine Qu ?_ | refine Qv ?_ | refine Qw (by kernel_rfl) ?_)
  refine st_call (fun _ => rfl) rfl ?_
  refine ACalls.mono (dev_l (fun X => write_c X _ aw2_inv.ok 1 [98, 98] (by decide)) ⟨trivial, idsL_map fun _ => u8A_ids, trivial⟩ trivial [none, none]) ?_
  rintro r H' ⟨rfl, rfl⟩
  rw [aw_e3]
  first | refine nx rfl rfl ?_ | refine nx0 ?_
  repeat' (first | ((first | refine Qa rfl ?_ | refine Qc rfl rfl rfl ?_ | apply Qd rfl rfl rfl rfl | (apply Qe rfl rfl rfl rfl; intro H9)); (first | refine Q0 ?_ | refine Q1 ?_ | refine Q2 rfl ?_ | refine Q3 rfl rfl rfl ?_ | refine Q4 rfl rfl rfl rfl rfl ?_ | refine Q5 rfl ?_ | refine Q6 rfl ?_ | refine Q7 rfl rfl rfl ?_ | refine Q8 rfl rfl rfl ?_ | refine Q9 rfl rfl rfl rfl ?_ | refine QA rfl rfl (by decide) ?_ | refine QB rfl rfl (by decide) ?_ | refine QC rfl rfl ?_ | refine QD rfl ?_ | refine QE rfl rfl ?_ | refine QF rfl rfl ?_ | refine QG rfl rfl rfl rfl ?_ | refine QH rfl rfl rfl ?_ | refine QI rfl rfl rfl ?_ | refine QJ rfl rfl ?_ | refine QK rfl ?_ | refine QM rfl rfl rfl rfl rfl ?_ | refine QN ?_ | refine QO ?_ | refine QP rfl rfl rfl rfl rfl rfl ?_ | refine QQ rfl rfl rfl rfl rfl rfl rfl rfl rfl rfl rfl ?_ | refine QR rfl rfl rfl rfl rfl rfl rfl rfl rfl rfl rfl rfl ?_); (first | exact QX rfl rfl ⟨rfl, rfl⟩ | exact QY rfl ⟨rfl, rfl⟩ | exact QZ ⟨rfl, rfl⟩ | refine QX rfl rfl ?_ | refine QZ ?_)) | refine Qa rfl ?_ | (refine Qb rfl ?_; try (refine QS rfl rfl rfl rfl rfl rfl rfl ?_; (first | refine QX rfl rfl ?_ | refine QZ ?_))) | refine Qh ?_ | refine Qi rfl ?_ | refine Qj rfl ?_ | (refine Qf rfl rfl rfl ?_; refine QS rfl rfl rfl rfl rfl rfl rfl ?_; (first | refine QX rfl rfl ?_ | refine QZ ?_)) | apply Qg rfl rfl | refine Qk ?_ | refine Ql ?_ | refine Qm ?_ | refine Qn ?_ | refine Qo rfl ?_ | refine Qp rfl ?_ | refine Qq rfl ?_ | refine Qr ?_ | refine Qs ?_ | refine Qt ?_ | refine Qu ?_ | refine Qv ?_ | refine Qw (by kernel_rfl) ?_ | refine Qx rfl (by kernel_rfl) ?_)
  refine st_call (fun _ => rfl) rfl ?_
  refine ACalls.mono (ACalls.weak (crash_at X aw3 aw3_inv [] awT (by decide) [] [none, none] 0 rfl) (fun m w vs h => ?_)) ?_
  · obtain ⟨u1, r1, rfl, h1, h⟩ := relL_cons.1 h
    obtain ⟨u2, r2, rfl, h2, h⟩ := relL_cons.1 h
    exact RelL.cons h1 (RelL.cons (rel_nils 1 h2) h)
  rintro r H' ⟨rfl, rfl⟩
  rw [aw_crash]
  first | refine nx rfl rfl ?_ | refine nx0 ?_
  repeat' (first | ((first | refine Qa rfl ?_ | refine Qc rfl rfl rfl ?_ | apply Qd rfl rfl rfl rfl | (apply Qe rfl rfl rfl rfl; intro H9)); (first | refine Q0 ?_ | refine Q1 ?_ | refine Q2 rfl ?_ | refine Q3 rfl rfl rfl ?_ | refine Q4 rfl rfl rfl rfl rfl ?_ | refine Q5 rfl ?_ | refine Q6 rfl ?_ | refine Q7 rfl rfl rfl ?_ | refine Q8 rfl rfl rfl ?_ | refine Q9 rfl rfl rfl rfl ?_ | refine QA rfl rfl (by decide) ?_ | refine QB rfl rfl (by decide) ?_ | refine QC rfl rfl ?_ | refine QD rfl ?_ | refine QE rfl rfl ?_ | refine QF rfl rfl ?_ | refine QG rfl rfl rfl rfl ?_ | refine QH rfl rfl rfl ?_ | refine QI rfl rfl rfl ?_ | refine QJ rfl rfl ?_ | refine QK rfl ?_ | refine QM rfl rfl rfl rfl rfl ?_ | refine QN ?_ | refine QO ?_ | refine QP rfl rfl rfl rfl rfl rfl ?_ | refine QQ rfl rfl rfl rfl rfl rfl rfl rfl rfl rfl rfl ?_ | refine QR rfl rfl rfl rfl rfl rfl rfl rfl rfl rfl rfl rfl ?_); (first | exact QX rfl rfl ⟨rfl, rfl⟩ | exact QY rfl ⟨rfl, rfl⟩ | exact QZ ⟨rfl, rfl⟩ | refine QX rfl rfl ?_ | refine QZ ?_)) | refine Qa rfl ?_ | (refine Qb rfl ?_; try (refine QS rfl rfl rfl rfl rfl rfl rfl ?_; (first | refine QX rfl rfl ?_ | refine QZ ?_))) | refine Qh ?_ | refine Qi rfl ?_ | refine Qj rfl ?_ | (refine Qf rfl rfl rfl ?_; refine QS rfl rfl rfl rfl rfl rfl rfl ?_; (first | refine QX rfl rfl ?_ | refine QZ ?_)) | apply Qg rfl rfl | refine Qk ?_ | refine Ql ?_ | refine Qm ?_ | refine Qn ?_ | refine Qo rfl ?_ | refine Qp rfl ?_ | refine Qq rfl ?_ | refine Qr ?_ | refine Qs ?_ | refine Qt ?_ | refine Qu ?_ | refine Qv ?_ | refine Qw (by kernel_rfl) ?_ | refine Qx rfl (by kernel_rfl) ?_)
  refine st_call (fun _ => rfl) rfl ?_
  have hrd := read_at X awC 1 (by rw [awC_len]; decide) (devH aw3 ++ [none, none]) [] 5 rfl
  refine ACalls.mono (ACalls.conv hrd (args' := _) (H' := _) (by rfl) (by
    show [_, _, _, _, _, _, _, _] = _
    rfl) (fun _ _ h => h)) ?_
  rintro r H' (⟨hn, -, -⟩ | ⟨-, rfl, rfl⟩)
  · exact absurd awC_check hn
  rw [aw_L]
  have hL0 : (awL.map u8A)[0]? = some (u8A 98) := by rw [List.getElem?_map, awL_0]; rfl
  have hL1 : (awL.map u8A)[1]? = some (u8A 97) := by rw [List.getElem?_map, awL_1]; rfl
  first | refine nx rfl rfl ?_ | refine nx0 ?_
  repeat' (first | ((first | refine Qa rfl ?_ | refine Qc rfl rfl rfl ?_ | apply Qd rfl rfl rfl rfl | (apply Qe rfl rfl rfl rfl; intro H9)); (first | refine Q0 ?_ | refine Q1 ?_ | refine Q2 rfl ?_ | refine Q3 rfl rfl rfl ?_ | refine Q4 rfl rfl rfl rfl rfl ?_ | refine Q5 rfl ?_ | refine Q6 rfl ?_ | refine Q7 rfl rfl rfl ?_ | refine Q8 rfl rfl rfl ?_ | refine Q9 rfl rfl rfl rfl ?_ | refine QA rfl rfl (by decide) ?_ | refine QB rfl rfl (by decide) ?_ | refine QC rfl rfl ?_ | refine QD rfl ?_ | refine QE rfl rfl ?_ | refine QF rfl rfl ?_ | refine QG rfl rfl rfl rfl ?_ | refine QH rfl rfl rfl ?_ | refine QI rfl rfl rfl ?_ | refine QJ rfl rfl ?_ | refine QK rfl ?_ | refine QM rfl rfl rfl rfl rfl ?_ | refine QN ?_ | refine QO ?_ | refine QP rfl rfl rfl rfl rfl rfl ?_ | refine QQ rfl rfl rfl rfl rfl rfl rfl rfl rfl rfl rfl ?_ | refine QR rfl rfl rfl rfl rfl rfl rfl rfl rfl rfl rfl rfl ?_); (first | exact QX rfl rfl ⟨rfl, rfl⟩ | exact QY rfl ⟨rfl, rfl⟩ | exact QZ ⟨rfl, rfl⟩ | refine QX rfl rfl ?_ | refine QZ ?_)) | refine Qa rfl ?_ | (refine Qb rfl ?_; try (refine QS rfl rfl rfl rfl rfl rfl rfl ?_; (first | refine QX rfl rfl ?_ | refine QZ ?_))) | refine Qh ?_ | refine Qi rfl ?_ | refine Qj rfl ?_ | (refine Qf rfl rfl rfl ?_; refine QS rfl rfl rfl rfl rfl rfl rfl ?_; (first | refine QX rfl rfl ?_ | refine QZ ?_)) | apply Qg rfl rfl | refine Qk ?_ | refine Ql ?_ | refine Qm ?_ | refine Qn ?_ | refine Qo rfl ?_ | refine Qp rfl ?_ | refine Qq rfl ?_ | refine Qr ?_ | refine Qs ?_ | refine Qt ?_ | refine Qu ?_ | refine Qv ?_ | refine Qw (by kernel_rfl) ?_ | refine Qx rfl (by kernel_rfl) ?_)
  refine st_ixo (j := 0) (p := 0) (rfl) (by first | omega | assumption | (simp; omega)) (by omega) rfl rfl rfl rfl rfl rfl rfl rfl ?_
  first | refine nx rfl rfl ?_ | refine nx0 ?_
  repeat' (first | ((first | refine Qa rfl ?_ | refine Qc rfl rfl rfl ?_ | apply Qd rfl rfl rfl rfl | (apply Qe rfl rfl rfl rfl; intro H9)); (first | refine Q0 ?_ | refine Q1 ?_ | refine Q2 rfl ?_ | refine Q3 rfl rfl rfl ?_ | refine Q4 rfl rfl rfl rfl rfl ?_ | refine Q5 rfl ?_ | refine Q6 rfl ?_ | refine Q7 rfl rfl rfl ?_ | refine Q8 rfl rfl rfl ?_ | refine Q9 rfl rfl rfl rfl ?_ | refine QA rfl rfl (by decide) ?_ | refine QB rfl rfl (by decide) ?_ | refine QC rfl rfl ?_ | refine QD rfl ?_ | refine QE rfl rfl ?_ | refine QF rfl rfl ?_ | refine QG rfl rfl rfl rfl ?_ | refine QH rfl rfl rfl ?_ | refine QI rfl rfl rfl ?_ | refine QJ rfl rfl ?_ | refine QK rfl ?_ | refine QM rfl rfl rfl rfl rfl ?_ | refine QN ?_ | refine QO ?_ | refine QP rfl rfl rfl rfl rfl rfl ?_ | refine QQ rfl rfl rfl rfl rfl rfl rfl rfl rfl rfl rfl ?_ | refine QR rfl rfl rfl rfl rfl rfl rfl rfl rfl rfl rfl rfl ?_); (first | exact QX rfl rfl ⟨rfl, rfl⟩ | exact QY rfl ⟨rfl, rfl⟩ | exact QZ ⟨rfl, rfl⟩ | refine QX rfl rfl ?_ | refine QZ ?_)) | refine Qa rfl ?_ | (refine Qb rfl ?_; try (refine QS rfl rfl rfl rfl rfl rfl rfl ?_; (first | refine QX rfl rfl ?_ | refine QZ ?_))) | refine Qh ?_ | refine Qi rfl ?_ | refine Qj rfl ?_ | (refine Qf rfl rfl rfl ?_; refine QS rfl rfl rfl rfl rfl rfl rfl ?_; (first | refine QX rfl rfl ?_ | refine QZ ?_)) | apply Qg rfl rfl | refine Qk ?_ | refine Ql ?_ | refine Qm ?_ | refine Qn ?_ | refine Qo rfl ?_ | refine Qp rfl ?_ | refine Qq rfl ?_ | refine Qr ?_ | refine Qs ?_ | refine Qt ?_ | refine Qu ?_ | refine Qv ?_ | refine Qw (by kernel_rfl) ?_ | refine Qx rfl (by kernel_rfl) ?_)
  refine st_load_pe rfl rfl hL0 rfl rfl rfl ?_
  first | refine nx rfl rfl ?_ | refine nx0 ?_
  repeat' (first | ((first | refine Qa rfl ?_ | refine Qc rfl rfl rfl ?_ | apply Qd rfl rfl rfl rfl | (apply Qe rfl rfl rfl rfl; intro H9)); (first | refine Q0 ?_ | refine Q1 ?_ | refine Q2 rfl ?_ | refine Q3 rfl rfl rfl ?_ | refine Q4 rfl rfl rfl rfl rfl ?_ | refine Q5 rfl ?_ | refine Q6 rfl ?_ | refine Q7 rfl rfl rfl ?_ | refine Q8 rfl rfl rfl ?_ | refine Q9 rfl rfl rfl rfl ?_ | refine QA rfl rfl (by decide) ?_ | refine QB rfl rfl (by decide) ?_ | refine QC rfl rfl ?_ | refine QD rfl ?_ | refine QE rfl rfl ?_ | refine QF rfl rfl ?_ | refine QG rfl rfl rfl rfl ?_ | refine QH rfl rfl rfl ?_ | refine QI rfl rfl rfl ?_ | refine QJ rfl rfl ?_ | refine QK rfl ?_ | refine QM rfl rfl rfl rfl rfl ?_ | refine QN ?_ | refine QO ?_ | refine QP rfl rfl rfl rfl rfl rfl ?_ | refine QQ rfl rfl rfl rfl rfl rfl rfl rfl rfl rfl rfl ?_ | refine QR rfl rfl rfl rfl rfl rfl rfl rfl rfl rfl rfl rfl ?_); (first | exact QX rfl rfl ⟨rfl, rfl⟩ | exact QY rfl ⟨rfl, rfl⟩ | exact QZ ⟨rfl, rfl⟩ | refine QX rfl rfl ?_ | refine QZ ?_)) | refine Qa rfl ?_ | (refine Qb rfl ?_; try (refine QS rfl rfl rfl rfl rfl rfl rfl ?_; (first | refine QX rfl rfl ?_ | refine QZ ?_))) | refine Qh ?_ | refine Qi rfl ?_ | refine Qj rfl ?_ | (refine Qf rfl rfl rfl ?_; refine QS rfl rfl rfl rfl rfl rfl rfl ?_; (first | refine QX rfl rfl ?_ | refine QZ ?_)) | apply Qg rfl rfl | refine Qk ?_ | refine Ql ?_ | refine Qm ?_ | refine Qn ?_ | refine Qo rfl ?_ | refine Qp rfl ?_ | refine Qq rfl ?_ | refine Qr ?_ | refine Qs ?_ | refine Qt ?_ | refine Qu ?_ | refine Qv ?_ | refine Qw (by kernel_rfl) ?_ | refine Qx rfl (by kernel_rfl) ?_)
  refine st_ixo (j := 1) (p := 1) (rfl) (by first | omega | assumption | (simp; omega)) (by omega) rfl rfl rfl rfl rfl rfl rfl rfl ?_
  first | refine nx rfl rfl ?_ | refine nx0 ?_
  repeat' (first | ((first | refine Qa rfl ?_ | refine Qc rfl rfl rfl ?_ | apply Qd rfl rfl rfl rfl | (apply Qe rfl rfl rfl rfl; intro H9)); (first | refine Q0 ?_ | refine Q1 ?_ | refine Q2 rfl ?_ | refine Q3 rfl rfl rfl ?_ | refine Q4 rfl rfl rfl rfl rfl ?_ | refine Q5 rfl ?_ | refine Q6 rfl ?_ | refine Q7 rfl rfl rfl ?_ | refine Q8 rfl rfl rfl ?_ | refine Q9 rfl rfl rfl rfl ?_ | refine QA rfl rfl (by decide) ?_ | refine QB rfl rfl (by decide) ?_ | refine QC rfl rfl ?_ | refine QD rfl ?_ | refine QE rfl rfl ?_ | refine QF rfl rfl ?_ | refine QG rfl rfl rfl rfl ?_ | refine QH rfl rfl rfl ?_ | refine QI rfl rfl rfl ?_ | refine QJ rfl rfl ?_ | refine QK rfl ?_ | refine QM rfl rfl rfl rfl rfl ?_ | refine QN ?_ | refine QO ?_ | refine QP rfl rfl rfl rfl rfl rfl ?_ | refine QQ rfl rfl rfl rfl rfl rfl rfl rfl rfl rfl rfl ?_ | refine QR rfl rfl rfl rfl rfl rfl rfl rfl rfl rfl rfl rfl ?_); (first | exact QX rfl rfl ⟨rfl, rfl⟩ | exact QY rfl ⟨rfl, rfl⟩ | exact QZ ⟨rfl, rfl⟩ | refine QX rfl rfl ?_ | refine QZ ?_)) | refine Qa rfl ?_ | (refine Qb rfl ?_; try (refine QS rfl rfl rfl rfl rfl rfl rfl ?_; (first | refine QX rfl rfl ?_ | refine QZ ?_))) | refine Qh ?_ | refine Qi rfl ?_ | refine Qj rfl ?_ | (refine Qf rfl rfl rfl ?_; refine QS rfl rfl rfl rfl rfl rfl rfl ?_; (first | refine QX rfl rfl ?_ | refine QZ ?_)) | apply Qg rfl rfl | refine Qk ?_ | refine Ql ?_ | refine Qm ?_ | refine Qn ?_ | refine Qo rfl ?_ | refine Qp rfl ?_ | refine Qq rfl ?_ | refine Qr ?_ | refine Qs ?_ | refine Qt ?_ | refine Qu ?_ | refine Qv ?_ | refine Qw (by kernel_rfl) ?_ | refine Qx rfl (by kernel_rfl) ?_)
  refine st_load_pe rfl rfl hL1 rfl rfl rfl ?_
  first | refine nx rfl rfl ?_ | refine nx0 ?_
  repeat' (first | ((first | refine Qa rfl ?_ | refine Qc rfl rfl rfl ?_ | apply Qd rfl rfl rfl rfl | (apply Qe rfl rfl rfl rfl; intro H9)); (first | refine Q0 ?_ | refine Q1 ?_ | refine Q2 rfl ?_ | refine Q3 rfl rfl rfl ?_ | refine Q4 rfl rfl rfl rfl rfl ?_ | refine Q5 rfl ?_ | refine Q6 rfl ?_ | refine Q7 rfl rfl rfl ?_ | refine Q8 rfl rfl rfl ?_ | refine Q9 rfl rfl rfl rfl ?_ | refine QA rfl rfl (by decide) ?_ | refine QB rfl rfl (by decide) ?_ | refine QC rfl rfl ?_ | refine QD rfl ?_ | refine QE rfl rfl ?_ | refine QF rfl rfl ?_ | refine QG rfl rfl rfl rfl ?_ | refine QH rfl rfl rfl ?_ | refine QI rfl rfl rfl ?_ | refine QJ rfl rfl ?_ | refine QK rfl ?_ | refine QM rfl rfl rfl rfl rfl ?_ | refine QN ?_ | refine QO ?_ | refine QP rfl rfl rfl rfl rfl rfl ?_ | refine QQ rfl rfl rfl rfl rfl rfl rfl rfl rfl rfl rfl ?_ | refine QR rfl rfl rfl rfl rfl rfl rfl rfl rfl rfl rfl rfl ?_); (first | exact QX rfl rfl ⟨rfl, rfl⟩ | exact QY rfl ⟨rfl, rfl⟩ | exact QZ ⟨rfl, rfl⟩ | refine QX rfl rfl ?_ | refine QZ ?_)) | refine Qa rfl ?_ | (refine Qb rfl ?_; try (refine QS rfl rfl rfl rfl rfl rfl rfl ?_; (first | refine QX rfl rfl ?_ | refine QZ ?_))) | refine Qh ?_ | refine Qi rfl ?_ | refine Qj rfl ?_ | (refine Qf rfl rfl rfl ?_; refine QS rfl rfl rfl rfl rfl rfl rfl ?_; (first | refine QX rfl rfl ?_ | refine QZ ?_)) | apply Qg rfl rfl | refine Qk ?_ | refine Ql ?_ | refine Qm ?_ | refine Qn ?_ | refine Qo rfl ?_ | refine Qp rfl ?_ | refine Qq rfl ?_ | refine Qr ?_ | refine Qs ?_ | refine Qt ?_ | refine Qu ?_ | refine Qv ?_ | refine Qw (by kernel_rfl) ?_ | refine Qx rfl (by kernel_rfl) ?_)
  refine awp_pre (imp_cutk 0 (Nat.le_refl _) hok_nil rfl (by simp) (sl' := [(0, .bool true)]) ?_) ?_
  · repeat' (first | exact fa_nil | refine fa_cons ⟨?_, ?_⟩ ?_)
    all_goals (try first | exact rfl | exact trivial | (simp [IdsLt, IdsLtL]; done) | (simp [get_cons]; done) | (simp [get_cons, *]; done) | (refine congrArg (AV.int .i64) (wrap_eq ?_ ?_ ?_) <;> (first | omega | (simp; omega))))
  refine awp_ret ?_
  refine ⟨_, rfl, ?_, ?_⟩
  · rfl
  · rfl
end Go.Abs
namespace Go.Abs
theorem bk_get {img o : List UInt8} {i n p : Nat} (h : i * 64 + 64 ≤ img.length) (ho : o.length = 64) (hn : n ≤ 64) : (bkN img o i n)[p]? = if p / 64 = i ∧ n ≤ p % 64 then o[p % 64]? else img[p]? := by
  have hp := Nat.div_add_mod p 64
  have hm := Nat.mod_lt p (show 64 > 0 by decide)
  unfold bkN
  rcases Nat.lt_or_ge p (i * 64 + n) with h1 | h1
  · rw [if_neg (by omega), List.append_assoc, List.getElem?_append_left (by simp; omega), List.getElem?_take, if_pos h1]
  · rcases Nat.lt_or_ge p (i * 64 + 64) with h2 | h2
    · rw [if_pos ⟨by omega, by omega⟩, List.append_assoc, List.getElem?_append_right (by simp; omega), List.getElem?_append_left (by simp; omega), List.getElem?_drop]
      congr 1
      simp; omega
    · rw [if_neg (by omega), List.getElem?_append_right (by simp; omega), List.getElem?_drop]
      congr 1
      simp; omega
/-- The device's durable contents are o. -/
structure Dv.Gh (v : Dv) (o : List UInt8) : Prop where
  len : o.length = v.image.length
  sec : ∀ p ∈ v.old, p.2 = (o.drop (p.1.toNat * 64)).take 64
  same : ∀ p : Nat, ((p / 64 : Nat) : Int) ∉ v.old.map (·.1) → v.image[p]? = o[p]?
def crHit (v : Dv) (keep : List Bool) (ts : List Tr) (k p : Nat) : Prop := ∃ j, j < k ∧ (keysS v.old)[j]? = some ((p / 64 : Nat) : Int) ∧ keptN j keep ts ≤ ((p % 64 : Nat) : Int)
open Classical in
theorem pcRun_get {v : Dv} {o : List UInt8} (hv : v.Inv) (hg : v.Gh o) (keep : List Bool) (ts : List Tr) (p : Nat) : ∀ k, (pcRun v.image v.old keep ts k)[p]? = if crHit v keep ts k p then o[p]? else v.image[p]?
  | 0 => by
    rw [if_neg]
    · rfl
    · rintro ⟨j, hj, _⟩; omega
  | k + 1 => by
    have ih := pcRun_get hv hg keep ts p k
    rw [pcRun_succ]
    unfold pcStep
    split
    · rename_i i hi
      obtain ⟨q, rfl, hq, hl, jj, h1, h2⟩ := keysS_at hv hi
      have hb := kept_bound k keep ts
      obtain ⟨n, hn⟩ := Int.eq_ofNat_of_zero_le hb.1
      have hm := Nat.mod_lt p (show 64 > 0 by decide)
      rw [bk_get (by rw [pcRun_len hv]; simpa using hq) hl (by omega), ih]
      have hat := hg.sec _ (List.mem_of_getElem? h2)
      simp only [Int.toNat_natCast] at hat
      by_cases hc : p / 64 = q ∧ (keptN k keep ts).toNat ≤ p % 64
      · rw [if_pos (by simpa using hc), if_pos ⟨k, by omega, by rw [hi, hc.1], by omega⟩, hat, List.getElem?_take, if_pos hm, List.getElem?_drop]
        congr 1
        omega
      · rw [if_neg (by simpa using hc)]
        have e : crHit v keep ts (k + 1) p ↔ crHit v keep ts k p := by
          constructor
          · rintro ⟨j, h3, h4, h5⟩
            rcases Nat.lt_or_ge j k with h6 | h6
            · exact ⟨j, h6, h4, h5⟩
            · have : j = k := by omega
              subst this
              rw [hi] at h4
              simp only [Option.some.injEq] at h4
              exact absurd ⟨by omega, by omega⟩ hc
          · rintro ⟨j, h3, h4, h5⟩; exact ⟨j, by omega, h4, h5⟩
        simp only [e]
    · rename_i hi
      have e : crHit v keep ts (k + 1) p ↔ crHit v keep ts k p := by
        constructor
        · rintro ⟨j, h3, h4, h5⟩
          rcases Nat.lt_or_ge j k with h6 | h6
          · exact ⟨j, h6, h4, h5⟩
          · have : j = k := by omega
            subst this
            rw [hi] at h4; cases h4
        · rintro ⟨j, h3, h4, h5⟩; exact ⟨j, by omega, h4, h5⟩
      simp only [e]
      exact ih
open Classical in
theorem crash_get {v : Dv} {o : List UInt8} (hv : v.Inv) (hg : v.Gh o) (keep : List Bool) (ts : List Tr) (p : Nat) : (v.crash keep ts).image[p]? = if crHit v keep ts v.old.length p then o[p]? else v.image[p]? :=
  pcRun_get hv hg keep ts p _
theorem crash_len {v : Dv} (hv : v.Inv) (keep : List Bool) (ts : List Tr) : (v.crash keep ts).image.length = v.image.length := pcRun_len hv _
/-- The ghost of a device without dirty sectors. -/
theorem gh_clean {v : Dv} (h : v.old = []) : v.Gh v.image := ⟨rfl, by simp [h], fun _ _ => rfl⟩
theorem gh_burn {v : Dv} {o : List UInt8} (h : v.Gh o) : v.burn.Gh o := ⟨h.len, h.sec, h.same⟩
theorem gh_put {v : Dv} {o : List UInt8} (hv : v.Inv) (h : v.Gh o) {k : Nat} {b : List UInt8} (hk : k * 64 + 64 ≤ v.image.length) (hb : b.length ≤ 64) : (v.put k b).Gh o := by
  have hother : ∀ p : Nat, p / 64 ≠ k → (v.put k b).image[p]? = v.image[p]? := fun p hp => by
    have hpd := Nat.div_add_mod p 64
    have hm := Nat.mod_lt p (show 64 > 0 by decide)
    simp only [Dv.put]
    rcases Nat.lt_or_ge p (k * 64) with h1 | h1
    · simp only [List.append_assoc]
      rw [List.getElem?_append_left (by simp; omega), List.getElem?_take, if_pos h1]
    · rw [List.getElem?_append_right (by simp; omega), List.getElem?_drop]
      congr 1
      simp; omega
  by_cases hm : (k : Int) ∈ v.old.map (·.1)
  · have e : (v.put k b).old = v.old := by simp only [Dv.put, if_pos hm]
    refine ⟨by rw [put_len hk hb]; exact h.len, by rw [e]; exact h.sec, fun p hp => ?_⟩
    rw [e] at hp
    rw [hother p (fun e => hp (e ▸ hm))]
    exact h.same p hp
  · have e : (v.put k b).old = v.old ++ [((k : Int), v.sector k)] := by simp only [Dv.put, if_neg hm]
    refine ⟨by rw [put_len hk hb]; exact h.len, ?_, fun p hp => ?_⟩
    · rw [e]
      intro p hp
      rcases List.mem_append.1 hp with hp | hp
      · exact h.sec p hp
      · simp at hp; subst hp
        simp only [Int.toNat_natCast, Dv.sector]
        apply List.ext_getElem?
        intro i
        simp only [List.getElem?_take, List.getElem?_drop]
        split
        · rename_i hi
          refine h.same _ ?_
          have : (k * 64 + i) / 64 = k := by omega
          rw [this]; exact hm
        · rfl
    · rw [e] at hp
      simp only [List.map_append, List.mem_append, not_or] at hp
      rw [hother p (fun e => hp.2 (by simp [e]))]
      exact h.same p hp.1
/-- Keeping all is the image, keeping none the durable contents. -/
theorem crash_all {v : Dv} {o : List UInt8} (hv : v.Inv) (hg : v.Gh o) {keep : List Bool} {ts : List Tr} (h : ∀ k, k < v.old.length → keptN k keep ts = 64) : (v.crash keep ts).image = v.image := by
  apply List.ext_getElem?
  intro p
  rw [crash_get hv hg, if_neg]
  rintro ⟨j, h1, _, h3⟩
  rw [h j h1] at h3
  have := Nat.mod_lt p (show 64 > 0 by decide)
  omega
theorem crash_none {v : Dv} {o : List UInt8} (hv : v.Inv) (hg : v.Gh o) {keep : List Bool} {ts : List Tr} (h : ∀ k, k < v.old.length → keptN k keep ts = 0) : (v.crash keep ts).image = o := by
  apply List.ext_getElem?
  intro p
  rw [crash_get hv hg]
  split
  · rfl
  · rename_i hn
    refine hg.same p fun hm => hn ?_
    have h1 := (keysS_perm v.old).mem_iff.2 hm
    obtain ⟨j, hj, he⟩ := List.getElem_of_mem h1
    rw [keysS_len] at hj
    exact ⟨j, hj, by rw [List.getElem?_eq_getElem (by rw [keysS_len]; exact hj), he], by rw [h j hj]; exact Int.natCast_nonneg _⟩
theorem crash_clean {v : Dv} {keep : List Bool} {ts : List Tr} (h : v.old = []) : (v.crash keep ts).image = v.image := by
  simp [Dv.crash, Dv.fresh, h, pcRun]
theorem kept_nil (k : Nat) : keptN k [] [] = 0 := by simp [keptN, firstFit]
end Go.Abs
namespace Go.Abs
structure FuI (n i : Nat) (v : Dv) : Prop where
  inv : v.Inv
  len : v.image.length = 128
  st : (i ≤ n ∧ v.dead = false ∧ v.fuse = ((n - i : Nat) : Int)) ∨ (n < i ∧ v.dead = true)
theorem check_ok {v : Dv} (h : v.Inv) (hd : v.dead = false) {k : Nat} (hk : k * 64 + 64 ≤ v.image.length) : v.check (k : Int) = 0 := by
  rw [check_eq h, hd]
  simp only [Bool.false_eq_true, if_false]
  rw [if_neg (by omega)]
theorem check_dead {v : Dv} (hd : v.dead = true) (i : Int) : v.check i = 1 := by simp [Dv.check, hd]
theorem bar_len (v : Dv) : v.barrier.2.image = v.image := by
  unfold Dv.barrier
  split
  · rfl
  · split <;> rfl
theorem fu_barrier {n i : Nat} {v : Dv} (h : FuI n i v) : v.barrier.1 = (if n ≤ i then 1 else 0) ∧ v.barrier.2.dead = decide (n ≤ i) ∧ FuI n (i + 1) v.barrier.2 := by
  have hi := inv_barrier h.inv
  have hl : v.barrier.2.image.length = 128 := by rw [bar_len]; exact h.len
  rcases h.st with ⟨h1, h2, h3⟩ | ⟨h1, h2⟩
  · by_cases he : n = i
    · have e : v.barrier = (1, v.burn) := by
        unfold Dv.barrier
        rw [if_neg (by rw [h2]; simp), if_pos]
        simp [Dv.burn]; left; omega
      have hd : v.burn.dead = true := by simp [Dv.burn]; left; omega
      rw [e] at hi hl ⊢
      refine ⟨by rw [if_pos (by omega)], by simp [hd]; omega, hi, hl, .inr ⟨by omega, hd⟩⟩
    · have hd : v.burn.dead = false := by simp [Dv.burn, h2]; omega
      have e : v.barrier = (0, { v.burn with old := [] }) := by
        unfold Dv.barrier
        rw [if_neg (by rw [h2]; simp), if_neg (by rw [hd]; simp)]
      rw [e] at hi hl ⊢
      refine ⟨by rw [if_neg (by omega)], by simp [hd]; omega, hi, hl, .inl ⟨by omega, hd, ?_⟩⟩
      simp only [Dv.burn]
      split <;> omega
  · have e : v.barrier = (1, v) := by
      unfold Dv.barrier
      rw [if_pos h2]
    rw [e]
    refine ⟨by rw [if_pos (by omega)], by simp [h2]; omega, h.inv, h.len, .inr ⟨by omega, h2⟩⟩
theorem fu_write {n i : Nat} {v : Dv} (h : FuI n i v) {k : Nat} {b : List UInt8} (hk : k ≤ 1) (hb : b.length ≤ 64) : (v.write k b).1 = (if n ≤ i then 1 else 0) ∧ (v.write k b).2.dead = decide (n ≤ i) ∧ FuI n (i + 1) (v.write k b).2 := by
  have hi := inv_write h.inv k b
  have hlen := h.len
  rcases h.st with ⟨h1, h2, h3⟩ | ⟨h1, h2⟩
  · have hc := check_ok h.inv h2 (k := k) (by omega)
    by_cases he : n = i
    · have hd : v.burn.dead = true := by simp [Dv.burn]; left; omega
      have e : v.write k b = (1, v.burn) := by
        unfold Dv.write
        rw [if_neg (by rw [hc]; simp), if_neg (by omega), if_pos hd]
      rw [e] at hi ⊢
      refine ⟨by rw [if_pos (by omega)], by simp [hd]; omega, hi, h.len, .inr ⟨by omega, hd⟩⟩
    · have hd : v.burn.dead = false := by simp [Dv.burn, h2]; omega
      have e : v.write k b = (0, v.burn.put k b) := by
        unfold Dv.write
        rw [if_neg (by rw [hc]; simp), if_neg (by omega), if_neg (by rw [hd]; simp)]
        simp
      rw [e] at hi ⊢
      refine ⟨by rw [if_neg (by omega)], ?_, hi, ?_, .inl ⟨by omega, hd, ?_⟩⟩
      · show v.burn.dead = _
        simp [hd]; omega
      · show (v.burn.put k b).image.length = 128
        rw [put_len (by show _ ≤ v.image.length; omega) hb]; exact h.len
      · show v.burn.fuse = _
        simp only [Dv.burn]
        split <;> omega
  · have hc := check_dead h2 k
    have e : v.write k b = (1, v) := by
      unfold Dv.write
      rw [if_pos (by rw [hc]; simp), hc]
    rw [e]
    refine ⟨by rw [if_pos (by omega)], by simp [h2]; omega, h.inv, h.len, .inr ⟨by omega, h2⟩⟩
theorem list_of {α : Type} {f : α → AV} : ∀ {es : List AV}, (∀ y ∈ es, ∃ a, y = f a) → ∃ l : List α, es = l.map f
  | [], _ => ⟨[], rfl⟩
  | y :: es, h => by
    obtain ⟨a, rfl⟩ := h y (by simp)
    obtain ⟨l, rfl⟩ := list_of fun z hz => h z (List.mem_cons_of_mem _ hz)
    exact ⟨a :: l, rfl⟩
section
variable {X : Nat → Prop} {x : AV}
theorem int_of (h : hasC (E0 X) 1 3 [x]) : ∃ n, x = .int .i64 n ∧ -9223372036854775808 ≤ n ∧ n ≤ 9223372036854775807 := by
  have h1 : ∃ n, [x] = [.int .i64 n] ∧ IntKind.i64.min ≤ n ∧ n ≤ IntKind.i64.max := h
  obtain ⟨n, h2, h3, h4⟩ := h1
  simp only [List.cons.injEq, and_true] at h2
  exact ⟨n, h2, h3, h4⟩
theorem bools_of (h : hasC (E0 X) 2 23 [x]) : ∃ l : List Bool, x = .sl 1 (l.map boA) ∧ l.length ≤ maxLen := by
  have h1 : ∃ es, [x] = [.sl 1 es] ∧ es.length ≤ maxLen ∧ ∀ y ∈ es, ∃ ys, y = elA false ys ∧ ∃ b, ys = [.bool b] := h
  obtain ⟨es, h2, hlen, h3⟩ := h1
  simp only [List.cons.injEq, and_true] at h2
  subst h2
  obtain ⟨l, rfl⟩ := list_of (f := boA) fun y hy => by
    obtain ⟨ys, rfl, b, rfl⟩ := h3 y hy
    exact ⟨b, rfl⟩
  exact ⟨l, rfl, by simpa using hlen⟩
theorem bytes_of (h : hasC (E0 X) 2 29 [x]) : ∃ l : List UInt8, x = .sl 1 (l.map u8A) ∧ l.length ≤ maxLen := by
  have h1 : ∃ es, [x] = [.sl 1 es] ∧ es.length ≤ maxLen ∧ ∀ y ∈ es, ∃ ys, y = elA false ys ∧ ∃ n, ys = [.int .u8 n] ∧ IntKind.u8.min ≤ n ∧ n ≤ IntKind.u8.max := h
  obtain ⟨es, h2, hlen, h3⟩ := h1
  simp only [List.cons.injEq, and_true] at h2
  subst h2
  obtain ⟨l, rfl⟩ := list_of (f := u8A) fun y hy => by
    obtain ⟨ys, rfl, n, rfl, h4, h5⟩ := h3 y hy
    have h4' : 0 ≤ n := h4
    have h5' : n ≤ 255 := h5
    refine ⟨UInt8.ofNat n.toNat, ?_⟩
    simp only [elA, u8A, List.headD_cons, Bool.false_eq_true, if_false]
    congr 1
    rw [UInt8.toNat_ofNat']
    omega
  exact ⟨l, rfl, by simpa using hlen⟩
theorem tears_of (h : hasC (E0 X) 3 24 [x]) : ∃ l : List Tr, x = .sl 2 (l.map trA) ∧ l.length ≤ maxLen := by
  have h1 : ∃ es, [x] = [.sl 2 es] ∧ es.length ≤ maxLen ∧ ∀ y ∈ es, ∃ ys, y = elA true ys ∧ hasF (E0 X) (hasC (E0 X) 1) [(0, 3), (1, 3)] ys := h
  obtain ⟨es, h2, hlen, h3⟩ := h1
  simp only [List.cons.injEq, and_true] at h2
  subst h2
  obtain ⟨l, rfl⟩ := list_of (f := trA) fun y hy => by
    obtain ⟨ys, rfl, a, b, rfl, ⟨n0, rfl, _⟩, c, d, rfl, ⟨n1, rfl, _⟩, rfl⟩ := h3 y hy
    exact ⟨⟨n0, n1⟩, rfl⟩
  exact ⟨l, rfl, by simpa using hlen⟩
end
structure Opv where
  kind : Int
  i : Int
  b : List UInt8
  keep : List Bool
  ts : List Tr
def opA (o : Opv) : AV := .agg [.int .i64 o.kind, .int .i64 o.i, .sl 1 (o.b.map u8A), .sl 1 (o.keep.map boA), .sl 2 (o.ts.map trA)]
theorem ops_of {X : Nat → Prop} {x : AV} (h : hasC (E0 X) 5 22 [x]) : ∃ l : List Opv, x = .sl 5 (l.map opA) ∧ l.length ≤ maxLen := by
  have h1 : ∃ es, [x] = [.sl 5 es] ∧ es.length ≤ maxLen ∧ ∀ y ∈ es, ∃ ys, y = elA true ys ∧ hasF (E0 X) (hasC (E0 X) 3) [(0, 3), (1, 3), (2, 29), (3, 23), (4, 24)] ys := h
  obtain ⟨es, h2, hlen, h3⟩ := h1
  simp only [List.cons.injEq, and_true] at h2
  subst h2
  obtain ⟨l, rfl⟩ := list_of (f := opA) fun y hy => by
    obtain ⟨ys, rfl, _, _, rfl, ⟨n0, rfl, _⟩, _, _, rfl, ⟨n1, rfl, _⟩, a, r, rfl, ha, b, r, rfl, hb, c, r, rfl, hc, rfl⟩ := h3 y hy
    have ha2 : ∃ es, a = [.sl 1 es] ∧ es.length ≤ maxLen ∧ ∀ y ∈ es, ∃ ys, y = elA false ys ∧ ∃ n, ys = [.int .u8 n] ∧ IntKind.u8.min ≤ n ∧ n ≤ IntKind.u8.max := ha
    have hb2 : ∃ es, b = [.sl 1 es] ∧ es.length ≤ maxLen ∧ ∀ y ∈ es, ∃ ys, y = elA false ys ∧ ∃ b, ys = [.bool b] := hb
    have hc2 : ∃ es, c = [.sl 2 es] ∧ es.length ≤ maxLen ∧ ∀ y ∈ es, ∃ ys, y = elA true ys ∧ hasF (E0 X) (hasC (E0 X) 1) [(0, 3), (1, 3)] ys := hc
    obtain ⟨ea, rfl, ha3, ha4⟩ := ha2
    obtain ⟨eb, rfl, hb3, hb4⟩ := hb2
    obtain ⟨ec, rfl, hc3, hc4⟩ := hc2
    obtain ⟨la, hla, _⟩ := bytes_of (X := X) (x := .sl 1 ea) ⟨ea, rfl, ha3, ha4⟩
    obtain ⟨lb, hlb, _⟩ := bools_of (X := X) (x := .sl 1 eb) ⟨eb, rfl, hb3, hb4⟩
    obtain ⟨lc, hlc, _⟩ := tears_of (X := X) (x := .sl 2 ec) ⟨ec, rfl, hc3, hc4⟩
    rw [hla, hlb, hlc]
    exact ⟨⟨n0, n1, la, lb, lc⟩, rfl⟩
  exact ⟨l, rfl, by simpa using hlen⟩
end Go.Abs
namespace Go.Abs
theorem perm_nodup {α : Type} [BEq α] [LawfulBEq α] : ∀ {l1 l2 : List α}, l1.Nodup → l2.Nodup → (∀ x, x ∈ l1 ↔ x ∈ l2) → l1.Perm l2
  | [], l2, _, _, h => by
    cases l2 with
    | nil => exact .nil
    | cons x l => exact absurd ((h x).2 (by simp)) (by simp)
  | a :: l1, l2, h1, h2, h => by
    have ha : a ∈ l2 := (h a).1 (by simp)
    have h1' := List.nodup_cons.1 h1
    refine .trans (.cons a (perm_nodup h1'.2 (h2.erase a) fun x => ?_)) (List.perm_cons_erase ha).symm
    rw [h2.mem_erase_iff, ← h x]
    constructor
    · intro hx; exact ⟨fun e => h1'.1 (e ▸ hx), List.mem_cons_of_mem _ hx⟩
    · rintro ⟨hx, hm⟩
      rcases List.mem_cons.1 hm with h9 | h9
      · exact absurd h9 hx
      · exact h9
def dirtL (d : List Bool) (n : Nat) : List Nat := (List.range n).filter fun k => d[k]? == some true
theorem dirtL_succ (d : List Bool) (n : Nat) : dirtL d (n + 1) = dirtL d n ++ (if d[n]? = some true then [n] else []) := by
  unfold dirtL
  rw [List.range_succ, List.filter_append]
  congr 1
  by_cases h : d[n]? = some true
  · rw [if_pos h]; simp [h]
  · rw [if_neg h]; simp [h]
theorem cnt_dirtL (d : List Bool) : ∀ n, n ≤ d.length → cntB (d.take n) = (dirtL d n).length
  | 0, _ => rfl
  | n + 1, h => by
    have ih := cnt_dirtL d n (by omega)
    have hy : d[n]? = some d[n] := List.getElem?_eq_getElem (by omega)
    rw [cnt_next hy, dirtL_succ, ih, List.length_append, hy]
    cases d[n] <;> simp
theorem dirtL_mem (d : List Bool) (n k : Nat) : k ∈ dirtL d n ↔ k < n ∧ d[k]? = some true := by
  simp [dirtL]
theorem dirtL_get {d : List Bool} : ∀ {n k s : Nat}, (dirtL d n)[k]? = some s → s < n ∧ d[s]? = some true ∧ (dirtL d s).length = k
  | 0, _, _, h => by simp [dirtL] at h
  | n + 1, k, s, h => by
    rw [dirtL_succ] at h
    rcases Nat.lt_or_ge k (dirtL d n).length with h1 | h1
    · rw [List.getElem?_append_left h1] at h
      obtain ⟨h2, h3⟩ := dirtL_get h
      exact ⟨by omega, h3⟩
    · rw [List.getElem?_append_right h1] at h
      split at h
      · rename_i hd
        have hk : k - (dirtL d n).length = 0 := by
          rcases Nat.eq_zero_or_pos (k - (dirtL d n).length) with h9 | h9
          · exact h9
          · rw [List.getElem?_eq_none (by simp only [List.length_cons, List.length_nil]; omega)] at h; cases h
        rw [hk] at h
        simp at h
        subst h
        exact ⟨by omega, hd, by omega⟩
      · simp at h
theorem dirtL_at {d : List Bool} {s : Nat} (hs : d[s]? = some true) : ∀ {n : Nat}, s < n → (dirtL d n)[(dirtL d s).length]? = some s
  | 0, h => by omega
  | n + 1, h => by
    rw [dirtL_succ]
    rcases Nat.lt_or_ge s n with h1 | h1
    · have h2 := dirtL_at hs h1
      rw [List.getElem?_append_left (List.getElem?_eq_some_iff.1 h2).1]
      exact h2
    · have : s = n := by omega
      subst this
      rw [if_pos hs, List.getElem?_append_right (Nat.le_refl _), Nat.sub_self]; rfl
structure Agr (v : Dv) (r : Rd) : Prop where
  inv : v.Inv
  img : v.image = r.new
  lo : r.old.length = r.new.length
  ld : r.dirt.length * 64 = r.new.length
  gone : v.dead = r.gone
  wr : v.writes = r.wrote
  fuse : (r.has = false ∧ v.fuse = -1) ∨ (r.has = true ∧ v.fuse = r.left ∧ 0 ≤ r.left)
  gh : v.Gh r.old
  dirt : ∀ k : Nat, (k : Int) ∈ v.old.map (·.1) ↔ r.dirt[k]? = some true
section
variable {v : Dv} {r : Rd}
theorem Agr.small (h : Agr v r) : r.new.length ≤ 67108864 := by rw [← h.img]; exact h.inv.load.2.2
theorem Agr.keys (h : Agr v r) : keysS v.old = (dirtL r.dirt r.dirt.length).map Int.ofNat := by
  have hp : (v.old.map (·.1)).Perm ((dirtL r.dirt r.dirt.length).map Int.ofNat) := by
    refine perm_nodup h.inv.nd ?_ fun x => ?_
    · exact List.pairwise_map.2 ((List.nodup_range.filter _).imp fun hne e => hne (Int.ofNat.inj e))
    · constructor
      · intro hx
        obtain ⟨p, hp, rfl⟩ := List.mem_map.1 hx
        have h0 := (h.inv.keys p hp).1
        obtain ⟨k, hk⟩ := Int.eq_ofNat_of_zero_le h0
        rw [hk] at hx ⊢
        have h1 := (h.dirt k).1 hx
        exact List.mem_map.2 ⟨k, (dirtL_mem _ _ _).2 ⟨(List.getElem?_eq_some_iff.1 h1).1, h1⟩, rfl⟩
      · intro hx
        obtain ⟨k, hk, rfl⟩ := List.mem_map.1 hx
        exact (h.dirt k).2 ((dirtL_mem _ _ _).1 hk).2
  have h1 := mergeSort_of_perm_i hp
  unfold keysS
  have h2 : (fun x y : Int => decide (x ≤ y)) = leI := rfl
  rw [h2, h1]
  apply List.mergeSort_of_pairwise
  refine List.pairwise_map.2 ((List.Pairwise.filter _ List.pairwise_lt_range).imp fun {a b} hab => ?_)
  have : (Int.ofNat a) ≤ Int.ofNat b := by simp; omega
  simpa [leI] using this
theorem Agr.cnt (h : Agr v r) : v.old.length = cntB r.dirt := by
  have h1 := cnt_dirtL r.dirt r.dirt.length (Nat.le_refl _)
  rw [List.take_length] at h1
  have h2 := congrArg List.length h.keys
  rw [keysS_len, List.length_map] at h2
  omega
theorem Agr.same (h : Agr v r) : sameB v r = true := by
  have h1 := h.cnt
  have h2 := h.ld
  have h3 := h.img
  simp only [sameB, Bool.and_eq_true, decide_eq_true_eq]
  refine ⟨?_, ?_, h.gone, h.wr, h3⟩
  · rw [h3]; omega
  · rw [h1]
theorem Agr.check (h : Agr v r) (i : Int) : v.check i = r.check i := by
  have hl := h.ld
  rw [check_eq h.inv, h.img, ← hl, Nat.mul_div_cancel _ (by decide), h.gone]
  rfl
theorem Agr.dies (h : Agr v r) (hd : v.dead = false) : v.burn.dead = r.dies := by
  rcases h.fuse with ⟨h1, h2⟩ | ⟨h1, h2, h3⟩
  · simp [Dv.burn, Rd.dies, h1, h2, hd]
  · simp [Dv.burn, Rd.dies, h1, h2, hd]
theorem Agr.burn (h : Agr v r) (hd : v.dead = false) : Agr v.burn r.burn := by
  have hdi := h.dies hd
  have hb := inv_burn h.inv
  have hf := h.inv.fuse
  by_cases hr : r.dies = true
  · have e : r.burn = { r with gone := true } := by simp [Rd.burn, hr]
    rw [e]
    refine ⟨hb, h.img, h.lo, h.ld, by rw [hdi, hr], h.wr, ?_, gh_burn h.gh, h.dirt⟩
    rcases h.fuse with ⟨h1, h2⟩ | ⟨h1, h2, h3⟩
    · simp [Rd.dies, h1] at hr
    · right
      simp [Rd.dies, h1] at hr
      refine ⟨h1, ?_, h3⟩
      simp only [Dv.burn]; split <;> omega
  · have hr' : r.dies = false := by simpa using hr
    have e : r.burn = { r with left := IntKind.i64.wrap (r.left - 1) } := by simp [Rd.burn, hr']
    have hg : r.gone = false := by rw [← h.gone]; exact hd
    rw [e]
    refine ⟨hb, h.img, h.lo, h.ld, by rw [hdi, hr']; exact hg.symm, h.wr, ?_, gh_burn h.gh, h.dirt⟩
    rcases h.fuse with ⟨h1, h2⟩ | ⟨h1, h2, h3⟩
    · left
      refine ⟨h1, ?_⟩
      simp only [Dv.burn]; split <;> omega
    · right
      simp [Rd.dies, h1] at hr'
      have hw : IntKind.i64.wrap (r.left - 1) = r.left - 1 := wrap_in (by omega) (by omega)
      refine ⟨h1, ?_, ?_⟩
      · show v.burn.fuse = IntKind.i64.wrap (r.left - 1)
        rw [hw]
        simp only [Dv.burn]; split <;> omega
      · show 0 ≤ IntKind.i64.wrap (r.left - 1)
        rw [hw]; omega
theorem Agr.put (h : Agr v r) {k : Nat} {b : List UInt8} (hk : k * 64 + 64 ≤ v.image.length) (hb : b.length ≤ 64) : Agr (v.put k b) (r.put k b) := by
  have hi := h.img
  have hl := h.ld
  have hkd : k < r.dirt.length := by rw [hi] at hk; omega
  refine ⟨inv_put h.inv hk hb, ?_, ?_, ?_, h.gone, ?_, h.fuse, gh_put h.inv h.gh hk hb, fun j => ?_⟩
  · have hp : (padB b).take 64 = b ++ List.replicate (64 - b.length) 0 := by
      rw [List.take_of_length_le (by rw [pad_len hb]; exact Nat.le_refl _)]; rfl
    simp only [Dv.put, Rd.put, fillN, hp, hi]
  · simp only [Rd.put]
    rw [fill_len hb (by rw [hi] at hk; omega) (Nat.le_refl _)]; exact h.lo
  · simp only [Rd.put, List.length_set]
    rw [fill_len hb (by rw [hi] at hk; omega) (Nat.le_refl _)]; exact hl
  · simp only [Dv.put, Rd.put, h.wr]
  · simp only [Rd.put, List.getElem?_set]
    have hj := h.dirt j
    have hkk := h.dirt k
    by_cases hm : (k : Int) ∈ v.old.map (·.1)
    · have e : (v.put k b).old = v.old := by simp only [Dv.put, if_pos hm]
      rw [e, hj]
      by_cases hjk : k = j
      · subst hjk; rw [hkk.1 hm, if_pos rfl, if_pos hkd]
      · simp [hjk]
    · have e : (v.put k b).old = v.old ++ [((k : Int), v.sector k)] := by simp only [Dv.put, if_neg hm]
      rw [e, List.map_append, List.mem_append, hj]
      by_cases hjk : k = j
      · subst hjk; simp [hkd]
      · simp only [List.map_cons, List.map_nil, List.mem_singleton, if_neg hjk]
        constructor
        · rintro (h9 | h9)
          · exact h9
          · exact absurd (by omega) hjk
        · exact .inl
theorem Agr.write (h : Agr v r) (i : Int) (b : List UInt8) : (v.write i b).1 = (r.write i b).1 ∧ Agr (v.write i b).2 (r.write i b).2 := by
  have hc := h.check i
  unfold Dv.write Rd.write
  rw [← hc]
  split
  · exact ⟨rfl, h⟩
  · rename_i h1
    obtain ⟨hd, k, rfl, hk⟩ := check_in h.inv (Decidable.not_not.1 h1)
    split
    · exact ⟨rfl, h⟩
    · rename_i h2
      rw [h.dies hd]
      split
      · exact ⟨rfl, h.burn hd⟩
      · exact ⟨rfl, (h.burn hd).put (by show _ ≤ v.image.length; simpa using hk) (by omega)⟩
theorem Agr.barrier (h : Agr v r) : v.barrier.1 = r.barrier.1 ∧ Agr v.barrier.2 r.barrier.2 := by
  unfold Dv.barrier Rd.barrier
  rw [← h.gone]
  split
  · exact ⟨rfl, h⟩
  · rename_i h1
    have hd : v.dead = false := by simpa using h1
    have hb := h.burn hd
    rw [h.dies hd]
    split
    · exact ⟨rfl, hb⟩
    · refine ⟨rfl, ⟨⟨hb.inv.load, by simp, by simp, by simp, hb.inv.fuse⟩, hb.img, rfl, ?_, hb.gone, hb.wr, hb.fuse, ?_, fun k => ?_⟩⟩
      · simp only [List.length_replicate]; exact hb.ld
      · refine ⟨by rw [← hb.img], by simp, fun p _ => by rw [← hb.img]⟩
      · simp only [List.map_nil, List.not_mem_nil, false_iff, List.getElem?_replicate]
        split <;> simp
theorem Agr.fuseN (h : Agr v r) {n : Int} (hn : n ≤ 9223372036854775807) : Agr { v with fuse := max n (-1) } (r.fuse n) := by
  refine ⟨inv_fuse h.inv hn, h.img, h.lo, h.ld, h.gone, h.wr, ?_, ⟨h.gh.len, h.gh.sec, h.gh.same⟩, h.dirt⟩
  by_cases h0 : 0 ≤ n
  · right
    simp only [Rd.fuse, h0, decide_true, true_and]
    omega
  · left
    simp only [Rd.fuse, h0, decide_false, true_and]
    omega
theorem cr_get {old new : List UInt8} {dirt keep : List Bool} {ts : List Tr} (hl : new.length = old.length) (hd : dirt.length * 64 = old.length) (p : Nat) : ∀ {j : Nat}, j ≤ dirt.length →
    (crRun old new dirt keep ts j).1 = cntB (dirt.take j) ∧ (crRun old new dirt keep ts j).2[p]? = if p / 64 < j ∧ dirt[p / 64]? = some true ∧ ((p % 64 : Nat) : Int) < keptN (cntB (dirt.take (p / 64))) keep ts then new[p]? else old[p]?
  | 0, _ => ⟨rfl, by rw [if_neg (by omega)]; rfl⟩
  | j + 1, h => by
    obtain ⟨h1, h2⟩ := cr_get (keep := keep) (ts := ts) hl hd p (j := j) (by omega)
    obtain ⟨_, h4⟩ := crRun_ok (keep := keep) (ts := ts) hl hd (j := j) (by omega)
    have hy : dirt[j]? = some dirt[j] := List.getElem?_eq_getElem (by omega)
    have hm := Nat.mod_lt p (show 64 > 0 by decide)
    have hpd := Nat.div_add_mod p 64
    rw [crRun_succ]
    unfold crStep
    by_cases hc : dirt[j]? = some true
    · rw [if_pos hc]
      have hb := kept_bound (crRun old new dirt keep ts j).1 keep ts
      refine ⟨by rw [cnt_next hy]; rw [hy] at hc; simp at hc; simp [hc, h1], ?_⟩
      simp only
      have hget : (cpyN (crRun old new dirt keep ts j).2 new j (keptN (crRun old new dirt keep ts j).1 keep ts).toNat)[p]? =
          if p / 64 = j ∧ p % 64 < (keptN (crRun old new dirt keep ts j).1 keep ts).toNat then new[p]? else (crRun old new dirt keep ts j).2[p]? := by
        generalize hn : (keptN (crRun old new dirt keep ts j).1 keep ts).toNat = n
        have hn64 : n ≤ 64 := by omega
        unfold cpyN
        rcases Nat.lt_or_ge p (j * 64) with g1 | g1
        · rw [if_neg (by omega), List.append_assoc, List.getElem?_append_left (by simp; omega), List.getElem?_take, if_pos g1]
        · rcases Nat.lt_or_ge p (j * 64 + n) with g2 | g2
          · rw [if_pos ⟨by omega, by omega⟩, List.append_assoc, List.getElem?_append_right (by simp; omega), List.getElem?_append_left (by simp; omega), List.getElem?_take, if_pos (by simp; omega), List.getElem?_drop]
            congr 1
            simp; omega
          · rw [if_neg (by omega), List.getElem?_append_right (by simp; omega), List.getElem?_drop]
            congr 1
            simp; omega
      rw [hget, h2, h1]
      by_cases hpj : p / 64 = j
      · subst hpj
        have hb2 := kept_bound (cntB (dirt.take (p / 64))) keep ts
        by_cases hk : ((p % 64 : Nat) : Int) < keptN (cntB (dirt.take (p / 64))) keep ts
        · rw [if_pos ⟨rfl, by omega⟩, if_pos ⟨by omega, hc, hk⟩]
        · rw [if_neg (by omega), if_neg (by omega), if_neg (by omega)]
      · rw [if_neg (by omega)]
        have e : (p / 64 < j + 1) ↔ p / 64 < j := by omega
        simp only [e]
    · rw [if_neg hc]
      refine ⟨by rw [cnt_next hy, if_neg (by rw [hy] at hc; simpa using hc), h1]; rfl, ?_⟩
      rw [h2]
      by_cases hpj : p / 64 = j
      · subst hpj
        rw [if_neg (by omega), if_neg (fun h => hc h.2.1)]
      · have e : (p / 64 < j + 1) ↔ p / 64 < j := by omega
        simp only [e]
theorem Agr.crash (h : Agr v r) (keep : List Bool) (ts : List Tr) : Agr (v.crash keep ts) (r.crash keep ts) := by
  have hlen := crash_len h.inv keep ts
  have hnl : r.new.length = r.old.length := h.lo.symm
  have hdl : r.dirt.length * 64 = r.old.length := by rw [h.lo]; exact h.ld
  have hcl := (crRun_ok (keep := keep) (ts := ts) hnl hdl (j := r.dirt.length) (Nat.le_refl _)).2
  have himg : (v.crash keep ts).image = (crRun r.old r.new r.dirt keep ts r.dirt.length).2 := by
    apply List.ext_getElem?
    intro p
    rw [crash_get h.inv h.gh, (cr_get hnl hdl p (Nat.le_refl _)).2]
    by_cases hd : r.dirt[p / 64]? = some true
    · have hp : p / 64 < r.dirt.length := (List.getElem?_eq_some_iff.1 hd).1
      have hc := cnt_dirtL r.dirt (p / 64) (by omega)
      have hat := dirtL_at hd hp
      have e : crHit v keep ts v.old.length p ↔ keptN (cntB (r.dirt.take (p / 64))) keep ts ≤ ((p % 64 : Nat) : Int) := by
        rw [hc]
        constructor
        · rintro ⟨j, h1, h2, h3⟩
          rw [h.keys, List.getElem?_map] at h2
          obtain ⟨s, h4, h5⟩ := Option.map_eq_some_iff.1 h2
          have h6 : s = p / 64 := Int.ofNat.inj h5
          subst h6
          rw [(dirtL_get h4).2.2]
          exact h3
        · intro h3
          refine ⟨(dirtL r.dirt (p / 64)).length, ?_, ?_, h3⟩
          · have h7 := (List.getElem?_eq_some_iff.1 hat).1
            have h8 := congrArg List.length h.keys
            rw [keysS_len, List.length_map] at h8
            omega
          · rw [h.keys, List.getElem?_map, hat]; rfl
      by_cases hh : crHit v keep ts v.old.length p
      · rw [if_pos hh, if_neg]
        rintro ⟨_, _, h9⟩
        have := e.1 hh
        omega
      · have h10 : ¬ keptN (cntB (r.dirt.take (p / 64))) keep ts ≤ ((p % 64 : Nat) : Int) := fun h9 => hh (e.2 h9)
        rw [if_neg hh, if_pos ⟨hp, hd, by omega⟩, h.img]
    · rw [if_neg (c := _ ∧ _) (fun h9 => hd h9.2.1), if_neg, h.gh.same p fun hm => hd ((h.dirt _).1 hm)]
      rintro ⟨j, h1, h2, h3⟩
      rw [h.keys, List.getElem?_map] at h2
      obtain ⟨s, h4, h5⟩ := Option.map_eq_some_iff.1 h2
      have h6 : s = p / 64 := Int.ofNat.inj h5
      subst h6
      exact hd (dirtL_get h4).2.1
  have hold : (v.crash keep ts).old = [] := rfl
  have hdr : (r.crash keep ts).dirt = List.replicate (r.old.length / 64) false := rfl
  refine ⟨inv_crash h.inv _ _, himg, rfl, ?_, rfl, rfl, .inl ⟨rfl, rfl⟩, ⟨?_, by rw [hold]; simp, fun p _ => by rw [himg]; rfl⟩, fun k => ?_⟩
  · rw [hdr, List.length_replicate]
    show _ = (crRun r.old r.new r.dirt keep ts r.dirt.length).2.length
    rw [hcl]; omega
  · rw [himg]; rfl
  · rw [hold, hdr]
    simp only [List.map_nil, List.not_mem_nil, false_iff, List.getElem?_replicate]
    split <;> simp
end
theorem agr_fresh {img : List UInt8} (h : LoadOk img.length) : Agr (Dv.fresh img) (Rd.fresh img) := by
  refine ⟨inv_fresh h, rfl, rfl, ?_, rfl, rfl, .inl ⟨rfl, rfl⟩, gh_clean rfl, fun k => ?_⟩
  · have := h.1
    simp only [Rd.fresh, List.length_replicate]; omega
  · simp only [Dv.fresh, Rd.fresh, List.map_nil, List.not_mem_nil, false_iff, List.getElem?_replicate]
    split <;> simp
end Go.Abs
namespace Go.Abs
attribute [local irreducible] AStep aops AWp Nx awM
set_option maxHeartbeats 0 in
theorem write_nil (X : Nat → Prop) (i : Int) : ACalls (E0 X) 10 [.nilp, .int .i64 i, .nils] [] (fun r H' => r = .int .i64 1 ∧ H' = []) := by
  refine acalls_of Proofs.Try.func10 rfl Proofs.Try.ntmps10 (by kernel_rfl) rfl ?_
  intro hH hargs
  clear hH hargs
  repeat' (first | ((first | refine Qa rfl ?_ | refine Qc rfl rfl rfl ?_ | apply Qd rfl rfl rfl rfl | (apply Qe rfl rfl rfl rfl; intro H9)); (first | refine Q0 ?_ | refine Q1 ?_ | refine Q2 rfl ?_ | refine Q3 rfl rfl rfl ?_ | refine Q4 rfl rfl rfl rfl rfl ?_ | refine Q5 rfl ?_ | refine Q6 rfl ?_ | refine Q7 rfl rfl rfl ?_ | refine Q8 rfl rfl rfl ?_ | refine Q9 rfl rfl rfl rfl ?_ | refine QA rfl rfl (by decide) ?_ | refine QB rfl rfl (by decide) ?_ | refine QC rfl rfl ?_ | refine QD rfl ?_ | refine QE rfl rfl ?_ | refine QF rfl rfl ?_ | refine QG rfl rfl rfl rfl ?_ | refine QH rfl rfl rfl ?_ | refine QI rfl rfl rfl ?_ | refine QJ rfl rfl ?_ | refine QK rfl ?_ | refine QM rfl rfl rfl rfl rfl ?_ | refine QN ?_ | refine QO ?_ | refine QP rfl rfl rfl rfl rfl rfl ?_ | refine QQ rfl rfl rfl rfl rfl rfl rfl rfl rfl rfl rfl ?_ | refine QR rfl rfl rfl rfl rfl rfl rfl rfl rfl rfl rfl rfl ?_); (first | exact QX rfl rfl ⟨rfl, rfl⟩ | exact QY rfl ⟨rfl, rfl⟩ | exact QZ ⟨rfl, rfl⟩ | refine QX rfl rfl ?_ | refine QZ ?_)) | refine Qa rfl ?_ | (refine Qb rfl ?_; try (refine QS rfl rfl rfl rfl rfl rfl rfl ?_; (first | refine QX rfl rfl ?_ | refine QZ ?_))) | refine Qh ?_ | refine Qi rfl ?_ | refine Qj rfl ?_ | (refine Qf rfl rfl rfl ?_; refine QS rfl rfl rfl rfl rfl rfl rfl ?_; (first | refine QX rfl rfl ?_ | refine QZ ?_)) | apply Qg rfl rfl | refine Qk ?_ | refine Ql ?_ | refine Qm ?_ | refine Qn ?_ | refine Qo rfl ?_ | refine Qp rfl ?_ | refine Qq rfl ?_ | refine Qr ?_ | refine Qs ?_ | refine Qt ?_ | refine Qu ?_ | refine Qv ?_ | refine Qw (by kernel_rfl) ?_ | refine Qx rfl (by kernel_rfl) ?_)
  refine st_call (fun _ => rfl) rfl ?_
  refine ACalls.mono (check_nil X i) ?_
  rintro r H' ⟨rfl, rfl⟩
  first | refine nx rfl rfl ?_ | refine nx0 ?_
  repeat' (first | ((first | refine Qa rfl ?_ | refine Qc rfl rfl rfl ?_ | apply Qd rfl rfl rfl rfl | (apply Qe rfl rfl rfl rfl; intro H9)); (first | refine Q0 ?_ | refine Q1 ?_ | refine Q2 rfl ?_ | refine Q3 rfl rfl rfl ?_ | refine Q4 rfl rfl rfl rfl rfl ?_ | refine Q5 rfl ?_ | refine Q6 rfl ?_ | refine Q7 rfl rfl rfl ?_ | refine Q8 rfl rfl rfl ?_ | refine Q9 rfl rfl rfl rfl ?_ | refine QA rfl rfl (by decide) ?_ | refine QB rfl rfl (by decide) ?_ | refine QC rfl rfl ?_ | refine QD rfl ?_ | refine QE rfl rfl ?_ | refine QF rfl rfl ?_ | refine QG rfl rfl rfl rfl ?_ | refine QH rfl rfl rfl ?_ | refine QI rfl rfl rfl ?_ | refine QJ rfl rfl ?_ | refine QK rfl ?_ | refine QM rfl rfl rfl rfl rfl ?_ | refine QN ?_ | refine QO ?_ | refine QP rfl rfl rfl rfl rfl rfl ?_ | refine QQ rfl rfl rfl rfl rfl rfl rfl rfl rfl rfl rfl ?_ | refine QR rfl rfl rfl rfl rfl rfl rfl rfl rfl rfl rfl rfl ?_); (first | exact QX rfl rfl ⟨rfl, rfl⟩ | exact QY rfl ⟨rfl, rfl⟩ | exact QZ ⟨rfl, rfl⟩ | refine QX rfl rfl ?_ | refine QZ ?_)) | refine Qa rfl ?_ | (refine Qb rfl ?_; try (refine QS rfl rfl rfl rfl rfl rfl rfl ?_; (first | refine QX rfl rfl ?_ | refine QZ ?_))) | refine Qh ?_ | refine Qi rfl ?_ | refine Qj rfl ?_ | (refine Qf rfl rfl rfl ?_; refine QS rfl rfl rfl rfl rfl rfl rfl ?_; (first | refine QX rfl rfl ?_ | refine QZ ?_)) | apply Qg rfl rfl | refine Qk ?_ | refine Ql ?_ | refine Qm ?_ | refine Qn ?_ | refine Qo rfl ?_ | refine Qp rfl ?_ | refine Qq rfl ?_ | refine Qr ?_ | refine Qs ?_ | refine Qt ?_ | refine Qu ?_ | refine Qv ?_ | refine Qw (by kernel_rfl) ?_ | refine Qx rfl (by kernel_rfl) ?_)
  refine awp_ret ?_
  refine ⟨_, rfl, ?_, ?_⟩
  · rfl
  · rfl
set_option maxHeartbeats 0 in
theorem crash_nil (X : Nat → Prop) : ACalls (E0 X) 13 [.nilp, .nils, .nils] [] (fun r H' => r = .nilp ∧ H' = []) := by
  refine acalls_of Proofs.Try.func13 rfl Proofs.Try.ntmps13 (by kernel_rfl) rfl ?_
  intro hH hargs
  clear hH hargs
  repeat' (first | ((first | refine Qa rfl ?_ | refine Qc rfl rfl rfl ?_ | apply Qd rfl rfl rfl rfl | (apply Qe rfl rfl rfl rfl; intro H9)); (first | refine Q0 ?_ | refine Q1 ?_ | refine Q2 rfl ?_ | refine Q3 rfl rfl rfl ?_ | refine Q4 rfl rfl rfl rfl rfl ?_ | refine Q5 rfl ?_ | refine Q6 rfl ?_ | refine Q7 rfl rfl rfl ?_ | refine Q8 rfl rfl rfl ?_ | refine Q9 rfl rfl rfl rfl ?_ | refine QA rfl rfl (by decide) ?_ | refine QB rfl rfl (by decide) ?_ | refine QC rfl rfl ?_ | refine QD rfl ?_ | refine QE rfl rfl ?_ | refine QF rfl rfl ?_ | refine QG rfl rfl rfl rfl ?_ | refine QH rfl rfl rfl ?_ | refine QI rfl rfl rfl ?_ | refine QJ rfl rfl ?_ | refine QK rfl ?_ | refine QM rfl rfl rfl rfl rfl ?_ | refine QN ?_ | refine QO ?_ | refine QP rfl rfl rfl rfl rfl rfl ?_ | refine QQ rfl rfl rfl rfl rfl rfl rfl rfl rfl rfl rfl ?_ | refine QR rfl rfl rfl rfl rfl rfl rfl rfl rfl rfl rfl rfl ?_); (first | exact QX rfl rfl ⟨rfl, rfl⟩ | exact QY rfl ⟨rfl, rfl⟩ | exact QZ ⟨rfl, rfl⟩ | refine QX rfl rfl ?_ | refine QZ ?_)) | refine Qa rfl ?_ | (refine Qb rfl ?_; try (refine QS rfl rfl rfl rfl rfl rfl rfl ?_; (first | refine QX rfl rfl ?_ | refine QZ ?_))) | refine Qh ?_ | refine Qi rfl ?_ | refine Qj rfl ?_ | (refine Qf rfl rfl rfl ?_; refine QS rfl rfl rfl rfl rfl rfl rfl ?_; (first | refine QX rfl rfl ?_ | refine QZ ?_)) | apply Qg rfl rfl | refine Qk ?_ | refine Ql ?_ | refine Qm ?_ | refine Qn ?_ | refine Qo rfl ?_ | refine Qp rfl ?_ | refine Qq rfl ?_ | refine Qr ?_ | refine Qs ?_ | refine Qt ?_ | refine Qu ?_ | refine Qv ?_ | refine Qw (by kernel_rfl) ?_ | refine Qx rfl (by kernel_rfl) ?_)
  refine awp_ret ?_
  refine ⟨_, rfl, ?_, ?_⟩
  · rfl
  · rfl
set_option maxHeartbeats 0 in
theorem image_nil (X : Nat → Prop) : ACalls (E0 X) 12 [.nilp] [] (fun r H' => r = .nils ∧ H' = []) := by
  refine acalls_of Proofs.Try.func12 rfl Proofs.Try.ntmps12 (by kernel_rfl) rfl ?_
  intro hH hargs
  clear hH hargs
  repeat' (first | ((first | refine Qa rfl ?_ | refine Qc rfl rfl rfl ?_ | apply Qd rfl rfl rfl rfl | (apply Qe rfl rfl rfl rfl; intro H9)); (first | refine Q0 ?_ | refine Q1 ?_ | refine Q2 rfl ?_ | refine Q3 rfl rfl rfl ?_ | refine Q4 rfl rfl rfl rfl rfl ?_ | refine Q5 rfl ?_ | refine Q6 rfl ?_ | refine Q7 rfl rfl rfl ?_ | refine Q8 rfl rfl rfl ?_ | refine Q9 rfl rfl rfl rfl ?_ | refine QA rfl rfl (by decide) ?_ | refine QB rfl rfl (by decide) ?_ | refine QC rfl rfl ?_ | refine QD rfl ?_ | refine QE rfl rfl ?_ | refine QF rfl rfl ?_ | refine QG rfl rfl rfl rfl ?_ | refine QH rfl rfl rfl ?_ | refine QI rfl rfl rfl ?_ | refine QJ rfl rfl ?_ | refine QK rfl ?_ | refine QM rfl rfl rfl rfl rfl ?_ | refine QN ?_ | refine QO ?_ | refine QP rfl rfl rfl rfl rfl rfl ?_ | refine QQ rfl rfl rfl rfl rfl rfl rfl rfl rfl rfl rfl ?_ | refine QR rfl rfl rfl rfl rfl rfl rfl rfl rfl rfl rfl rfl ?_); (first | exact QX rfl rfl ⟨rfl, rfl⟩ | exact QY rfl ⟨rfl, rfl⟩ | exact QZ ⟨rfl, rfl⟩ | refine QX rfl rfl ?_ | refine QZ ?_)) | refine Qa rfl ?_ | (refine Qb rfl ?_; try (refine QS rfl rfl rfl rfl rfl rfl rfl ?_; (first | refine QX rfl rfl ?_ | refine QZ ?_))) | refine Qh ?_ | refine Qi rfl ?_ | refine Qj rfl ?_ | (refine Qf rfl rfl rfl ?_; refine QS rfl rfl rfl rfl rfl rfl rfl ?_; (first | refine QX rfl rfl ?_ | refine QZ ?_)) | apply Qg rfl rfl | refine Qk ?_ | refine Ql ?_ | refine Qm ?_ | refine Qn ?_ | refine Qo rfl ?_ | refine Qp rfl ?_ | refine Qq rfl ?_ | refine Qr ?_ | refine Qs ?_ | refine Qt ?_ | refine Qu ?_ | refine Qv ?_ | refine Qw (by kernel_rfl) ?_ | refine Qx rfl (by kernel_rfl) ?_)
  refine awp_ret ?_
  refine ⟨_, rfl, ?_, ?_⟩
  · rfl
  · rfl
theorem hok_crd (r c : Rd) : HOk 8 (rdH r ++ rdS 4 c) := hok_rds r c
theorem mapH_newR (s q : Nat) (r : Rd) : mapH (sh s q 4) (rdS 4 r) = rdS (4 + s + q) r := by
  simp [mapH, rdS, rnO, rnL, rnA, sh, rnL_map (f := u8A) (fun _ => rfl), rnL_map (f := boA) (fun _ => rfl)]
  omega
theorem rcrash_at (X : Nat → Prop) (r : Rd) (keep : List Bool) (ts : List Tr) (hts : ts.length ≤ 1073741824) (hd : r.dirt.length * 64 = r.new.length) (ho : r.old.length = r.new.length) (hl : r.new.length ≤ 1073741824) (L R : Hp) (s : Nat) (hs : L.length = s) :
    ACalls (E0 X) 28 [.ptr s 0, .sl 1 (keep.map boA), .sl 2 (ts.map trA)] (L ++ rdS s r ++ R) (fun v H' => v = .ptr (4 + s + R.length) 0 ∧ H' = L ++ rdS s r ++ R ++ rdS (4 + s + R.length) (r.crash keep ts)) := by
  refine (rd_new (fun X => rcrash_c X r keep ts hts hd ho hl) ⟨idsL_map fun _ => boA_ids, idsL_map fun _ => trA_ids, trivial⟩ (fun r1 H' h => ⟨r, _, h.2⟩) L R s hs).mono ?_
  rintro v H' ⟨r1, v', n, ⟨rfl, h2⟩, rfl, rfl⟩
  have h3 : rdH v' = rdH r ∧ n = rdS 4 (r.crash keep ts) := List.append_inj h2 rfl
  have h4 : rdS s v' = rdS s r := by
    have := congrArg (mapH (· + s)) h3.1
    rwa [mapH_rd, mapH_rd] at this
  refine ⟨by simp [rnA, sh], ?_⟩
  rw [h4, h3.2, mapH_newR]
theorem rread_at (X : Nat → Prop) (r : Rd) (i : Int) (hd : r.dirt.length * 64 = r.new.length) (hl : r.new.length ≤ 1073741824) (L R : Hp) (s : Nat) (hs : L.length = s) :
    ACalls (E0 X) 25 [.ptr s 0, .int .i64 i] (L ++ rdS s r ++ R) (fun v H' => (r.check i ≠ 0 ∧ v = .tup [.nils, .int .i64 (r.check i)] ∧ H' = L ++ rdS s r ++ R) ∨
      (r.check i = 0 ∧ v = .tup [.own (4 + s + R.length) 0 64, .int .i64 0] ∧ H' = L ++ rdS s r ++ R ++ [some (.arr (((r.new.drop (i.toNat * 64)).take 64).map u8A) 5)])) := by
  refine (rd_new (fun X => rread_c X r i hd hl) ⟨trivial, trivial⟩ (fun r1 H' h => ?_) L R s hs).mono ?_
  · rcases h with ⟨_, _, h⟩ | ⟨_, _, h⟩
    · exact ⟨r, [], by rw [h, List.append_nil]⟩
    · exact ⟨r, _, h⟩
  rintro v H' ⟨r1, v', n, h, rfl, rfl⟩
  have key : ∀ {m : Hp}, rdH v' ++ n = rdH r ++ m → rdS s v' = rdS s r ∧ n = m := fun {m} h2 => by
    have h3 := List.append_inj h2 rfl
    refine ⟨?_, h3.2⟩
    have := congrArg (mapH (· + s)) h3.1
    rwa [mapH_rd, mapH_rd] at this
  rcases h with ⟨h1, rfl, h2⟩ | ⟨h1, rfl, h2⟩
  · obtain ⟨h4, rfl⟩ := key (m := []) (by rw [h2, List.append_nil])
    refine .inl ⟨h1, rfl, ?_⟩
    rw [h4]; exact List.append_nil _
  · obtain ⟨h4, rfl⟩ := key h2
    refine .inr ⟨h1, by simp [rnA, rnL, sh], ?_⟩
    rw [h4]
    show _ ++ [some (AO.arr (rnL _ (List.map u8A _)) _)] = _
    rw [rnL_map (fun _ => rfl)]
end Go.Abs
