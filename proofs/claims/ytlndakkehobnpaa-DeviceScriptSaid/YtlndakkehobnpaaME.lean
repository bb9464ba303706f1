/- The reference's device: Of, Blank. Joined texts, each with what its own name promises; no condition beyond those stated. -/
import Derived.Test.YtlndakkehobnpaaMD
import Derived.Test.YtlndakkehobnpaaMC
import Derived.Shelf.SlIterI.Nil
import Derived.Shelf.SortM.Plain
import Derived.Shelf.SortM.SortNone
import Derived.Test.YtlndakkehobnpaaProg
import Derived.KernelRfl
namespace Go.Abs
def Rd.fresh (img : List UInt8) : Rd := { old := img, new := img, dirt := List.replicate (img.length / 64) false, has := false, left := 0, gone := false, wrote := 0 }
theorem rdH_fresh (img : List UInt8) : rdH (Rd.fresh img) = [some (.cells [.own 1 0 img.length, .own 2 0 img.length, .own 3 0 (img.length / 64), .bool false, .int .i64 0, .bool false, .int .i64 0] 70),
   some (.arr (img.map u8A) 5), some (.arr (img.map u8A) 5), some (.arr (List.replicate (img.length / 64) (boA false)) 4)] := by
  simp [rdH, Rd.fresh]
theorem div64 (n : Nat) : IntKind.i64.wrap ((n : Int).tdiv 64) = ((n / 64 : Nat) : Int) ∨ 1073741824 < n := by
  rcases Nat.lt_or_ge 1073741824 n with h | h
  · exact .inr h
  · left
    rw [Int.tdiv_eq_ediv_of_nonneg (by omega)]
    exact wrap_eq (by omega) (by omega) (by omega)
attribute [local irreducible] AStep aops AWp Nx awM
set_option maxHeartbeats 0 in
theorem rof_c (X : Nat → Prop) (img : List UInt8) (hl : img.length ≤ 1073741824) : ACalls (E0 X) 37 [.sl 1 (img.map u8A)] [] (fun v H' => v = .ptr 0 0 ∧ H' = rdH (Rd.fresh img)) := by
  refine acalls_of Proofs.Try.func37 rfl Proofs.Try.ntmps37 (by kernel_rfl) rfl ?_
  intro hH hargs
  clear hH hargs
  have hd : IntKind.i64.wrap (((img.map u8A).length : Int).tdiv 64) = ((img.length / 64 : Nat) : Int) := by
    rw [List.length_map]; exact (div64 img.length).resolve_right (by omega)
  repeat' (first | ((first | refine Qa rfl ?_ | refine Qc rfl rfl rfl ?_ | apply Qd rfl rfl rfl rfl | (apply Qe rfl rfl rfl rfl; intro H9)); (first | refine Q0 ?_ | refine Q1 ?_ | refine Q2 rfl ?_ | refine Q3 rfl rfl rfl ?_ | refine Q4 rfl rfl rfl rfl rfl ?_ | refine Q5 rfl ?_ | refine Q6 rfl ?_ | refine Q7 rfl rfl rfl ?_ | refine Q8 rfl rfl rfl ?_ | refine Q9 rfl rfl rfl rfl ?_ | refine QA rfl rfl (by decide) ?_ | refine QB rfl rfl (by decide) ?_ | refine QC rfl rfl ?_ | refine QD rfl ?_ | refine QE rfl rfl ?_ | refine QF rfl rfl ?_ | refine QG rfl rfl rfl rfl ?_ | refine QH rfl rfl rfl ?_ | refine QI rfl rfl rfl ?_ | refine QJ rfl rfl ?_ | refine QK rfl ?_ | refine QM rfl rfl rfl rfl rfl ?_ | refine QN ?_ | refine QO ?_ | refine QP rfl rfl rfl rfl rfl rfl ?_ | refine QQ rfl rfl rfl rfl rfl rfl rfl rfl rfl rfl rfl ?_ | refine QR rfl rfl rfl rfl rfl rfl rfl rfl rfl rfl rfl rfl ?_); (first | exact QX rfl rfl ⟨rfl, rfl⟩ | exact QY rfl ⟨rfl, rfl⟩ | exact QZ ⟨rfl, rfl⟩ | refine QX rfl rfl ?_ | refine QZ ?_)) | refine Qa rfl ?_ | (refine Qb rfl ?_; try (refine QS rfl rfl rfl rfl rfl rfl rfl ?_; (first | refine QX rfl rfl ?_ | refine QZ ?_))) | refine Qh ?_ | refine Qi rfl ?_ | refine Qj rfl ?_ | (refine Qf rfl rfl rfl ?_; refine QS rfl rfl rfl rfl rfl rfl rfl ?_; (first | refine QX rfl rfl ?_ | refine QZ ?_)) | apply Qg rfl rfl | refine Qk ?_ | refine Ql ?_ | refine Qm ?_ | refine Qn ?_ | refine Qo rfl ?_ | refine Qp rfl ?_ | refine Qq rfl ?_ | refine Qr ?_ | refine Qs ?_ | refine Qt ?_ | refine Qu ?_ | refine Qv ?_ | refine Qw (by kernel_rfl) ?_)
  refine awp_region_any [1, 3, 7, 9] [0, 2, 4, 5, 6] (by exact rfl) ?_
  refine any_lin (fuel := 6) [0, 2, 4, 5, 6] (by exact rfl) (by kernel_rfl) (by kernel_rfl) ?_
  repeat' (first | ((first | refine Qa rfl ?_ | refine Qc rfl rfl rfl ?_ | apply Qd rfl rfl rfl rfl | (apply Qe rfl rfl rfl rfl; intro H9)); (first | refine Q0 ?_ | refine Q1 ?_ | refine Q2 rfl ?_ | refine Q3 rfl rfl rfl ?_ | refine Q4 rfl rfl rfl rfl rfl ?_ | refine Q5 rfl ?_ | refine Q6 rfl ?_ | refine Q7 rfl rfl rfl ?_ | refine Q8 rfl rfl rfl ?_ | refine Q9 rfl rfl rfl rfl ?_ | refine QA rfl rfl (by decide) ?_ | refine QB rfl rfl (by decide) ?_ | refine QC rfl rfl ?_ | refine QD rfl ?_ | refine QE rfl rfl ?_ | refine QF rfl rfl ?_ | refine QG rfl rfl rfl rfl ?_ | refine QH rfl rfl rfl ?_ | refine QI rfl rfl rfl ?_ | refine QJ rfl rfl ?_ | refine QK rfl ?_ | refine QM rfl rfl rfl rfl rfl ?_ | refine QN ?_ | refine QO ?_ | refine QP rfl rfl rfl rfl rfl rfl ?_ | refine QQ rfl rfl rfl rfl rfl rfl rfl rfl rfl rfl rfl ?_ | refine QR rfl rfl rfl rfl rfl rfl rfl rfl rfl rfl rfl rfl ?_); (first | exact QX rfl rfl ⟨rfl, rfl⟩ | exact QY rfl ⟨rfl, rfl⟩ | exact QZ ⟨rfl, rfl⟩ | refine QX rfl rfl ?_ | refine QZ ?_)) | refine Qa rfl ?_ | (refine Qb rfl ?_; try (refine QS rfl rfl rfl rfl rfl rfl rfl ?_; (first | refine QX rfl rfl ?_ | refine QZ ?_))) | refine Qh ?_ | refine Qi rfl ?_ | refine Qj rfl ?_ | (refine Qf rfl rfl rfl ?_; refine QS rfl rfl rfl rfl rfl rfl rfl ?_; (first | refine QX rfl rfl ?_ | refine QZ ?_)) | apply Qg rfl rfl | refine Qk ?_ | refine Ql ?_ | refine Qm ?_ | refine Qn ?_ | refine Qo rfl ?_ | refine Qp rfl ?_ | refine Qq rfl ?_ | refine Qr ?_ | refine Qs ?_ | refine Qt ?_ | refine Qu ?_ | refine Qv ?_ | refine Qw (by kernel_rfl) ?_ | refine Qx rfl (by kernel_rfl) ?_)
  refine any_br [1, 7] (by kernel_rfl) (br2 ?_ ?_)
  · refine mop_ef rfl rfl rfl ?_
    refine st_append (oid := none) (es := []) (new := img.map u8A) rfl rfl rfl rfl rfl rfl rfl rfl (rfl) (rfl) (oneEs_u8 _) ?_ ?_ ?_
    · first
      | (simp [maxLen]; done)
      | (simp [maxLen]; omega)
    · show _ * 1 ≤ _
      first
      | (simp; done)
      | (simp; omega)
    first | refine nx rfl rfl ?_ | refine nx0 ?_
    try simp only [List.length_nil, Nat.zero_add, List.length_map, List.nil_append, dropId]
    refine any_br [3, 7] (by kernel_rfl) (br2 ?_ ?_)
    · refine mop_ef rfl rfl rfl ?_
      refine st_append (oid := none) (es := []) (new := img.map u8A) rfl rfl rfl rfl rfl rfl rfl rfl (rfl) (rfl) (oneEs_u8 _) ?_ ?_ ?_
      · first
        | (simp [maxLen]; done)
        | (simp [maxLen]; omega)
      · show _ * 1 ≤ _
        first
        | (simp; done)
        | (simp; omega)
      first | refine nx rfl rfl ?_ | refine nx0 ?_
      try simp only [List.length_nil, Nat.zero_add, List.length_map, List.nil_append, dropId]
      refine any_br [7] (by kernel_rfl) (br1 ?_)
      refine mop_ef rfl rfl rfl ?_
      refine st_mko (n := img.length / 64) (el := boA false) rfl (by simpa using hd) (by simpa using hd) ?_ ?_ rfl rfl rfl rfl rfl rfl (.inr rfl) (.inr rfl) rfl rfl ?_
      · show 1 * _ ≤ 281474976710656
        first
        | omega
        | (simp; omega)
      · show _ ≤ 9223372036854775807
        omega
      first | refine nx rfl rfl ?_ | refine nx0 ?_
      refine any_lin (fuel := 0) [8, 9, 10] (by exact rfl) (by kernel_rfl) (by kernel_rfl) ?_
      repeat' (first | ((first | refine Qa rfl ?_ | refine Qc rfl rfl rfl ?_ | apply Qd rfl rfl rfl rfl | (apply Qe rfl rfl rfl rfl; intro H9)); (first | refine Q0 ?_ | refine Q1 ?_ | refine Q2 rfl ?_ | refine Q3 rfl rfl rfl ?_ | refine Q4 rfl rfl rfl rfl rfl ?_ | refine Q5 rfl ?_ | refine Q6 rfl ?_ | refine Q7 rfl rfl rfl ?_ | refine Q8 rfl rfl rfl ?_ | refine Q9 rfl rfl rfl rfl ?_ | refine QA rfl rfl (by decide) ?_ | refine QB rfl rfl (by decide) ?_ | refine QC rfl rfl ?_ | refine QD rfl ?_ | refine QE rfl rfl ?_ | refine QF rfl rfl ?_ | refine QG rfl rfl rfl rfl ?_ | refine QH rfl rfl rfl ?_ | refine QI rfl rfl rfl ?_ | refine QJ rfl rfl ?_ | refine QK rfl ?_ | refine QM rfl rfl rfl rfl rfl ?_ | refine QN ?_ | refine QO ?_ | refine QP rfl rfl rfl rfl rfl rfl ?_ | refine QQ rfl rfl rfl rfl rfl rfl rfl rfl rfl rfl rfl ?_ | refine QR rfl rfl rfl rfl rfl rfl rfl rfl rfl rfl rfl rfl ?_); (first | exact QX rfl rfl ⟨rfl, rfl⟩ | exact QY rfl ⟨rfl, rfl⟩ | exact QZ ⟨rfl, rfl⟩ | refine QX rfl rfl ?_ | refine QZ ?_)) | refine Qa rfl ?_ | (refine Qb rfl ?_; try (refine QS rfl rfl rfl rfl rfl rfl rfl ?_; (first | refine QX rfl rfl ?_ | refine QZ ?_))) | refine Qh ?_ | refine Qi rfl ?_ | refine Qj rfl ?_ | (refine Qf rfl rfl rfl ?_; refine QS rfl rfl rfl rfl rfl rfl rfl ?_; (first | refine QX rfl rfl ?_ | refine QZ ?_)) | apply Qg rfl rfl | refine Qk ?_ | refine Ql ?_ | refine Qm ?_ | refine Qn ?_ | refine Qo rfl ?_ | refine Qp rfl ?_ | refine Qq rfl ?_ | refine Qr ?_ | refine Qs ?_ | refine Qt ?_ | refine Qu ?_ | refine Qv ?_ | refine Qw (by kernel_rfl) ?_ | refine Qx rfl (by kernel_rfl) ?_)
      refine awp_pre (imp_tid 0 [3, 0, 1, 2] (sl' := [(2, .ptr 0 0)]) (H' := rdH (Rd.fresh img))
        (os := [.cells [.own 1 0 img.length, .own 2 0 img.length, .own 3 0 (img.length / 64), .bool false, .int .i64 0, .bool false, .int .i64 0] 70, .arr (img.map u8A) 5, .arr (img.map u8A) 5, .arr (List.replicate (img.length / 64) (boA false)) 4])
        (Nat.le_refl _) (Nat.zero_le _) (by simp) (by simp) (by simp [HOk]) rfl (by rw [rdH_fresh]; rfl) ?_ ?_) ?_
      · repeat' (first
          | exact fa_nil
          | exact os_nil
          | exact RenL.nil
          | refine fa_cons ?_ ?_
          | refine os_cons rfl (renO_cells ?_) ?_
          | refine os_cons rfl (renO_old 0 (fun i h => absurd h (Nat.not_lt_zero i)) (by simp [IdsLtO, IdsLtL, IdsLt])) ?_
          | refine RenL.cons ?_ ?_
          | exact ren_own rfl
          | exact ren_ptr rfl
          | exact ren_mp rfl
          | exact ren_lt rfl (by first | trivial | (simp [IdsLt, IdsLtL]; done)))
      · repeat' (first
          | exact fa_nil
          | exact os_nil
          | exact RenL.nil
          | refine fa_cons ?_ ?_
          | refine os_cons rfl (renO_cells ?_) ?_
          | refine os_cons rfl (renO_old 0 (fun i h => absurd h (Nat.not_lt_zero i)) (by simp [IdsLtO, IdsLtL, IdsLt])) ?_
          | refine RenL.cons ?_ ?_
          | exact ren_own rfl
          | exact ren_ptr rfl
          | exact ren_mp rfl
          | exact ren_lt rfl (by first | trivial | (simp [IdsLt, IdsLtL]; done)))
      refine awp_ret ?_
      refine ⟨_, rfl, ?_, ?_⟩
      · rfl
      · rfl
    · refine mop_ef rfl rfl rfl ?_
      refine st_mko (n := img.length / 64) (el := boA false) rfl (by simpa using hd) (by simpa using hd) ?_ ?_ rfl rfl rfl rfl rfl rfl (.inr rfl) (.inr rfl) rfl rfl ?_
      · show 1 * _ ≤ 281474976710656
        first
        | omega
        | (simp; omega)
      · show _ ≤ 9223372036854775807
        omega
      first | refine nx rfl rfl ?_ | refine nx0 ?_
      refine any_br [3] (by kernel_rfl) (br1 ?_)
      refine mop_ef rfl rfl rfl ?_
      refine st_append (oid := none) (es := []) (new := img.map u8A) rfl rfl rfl rfl rfl rfl rfl rfl (rfl) (rfl) (oneEs_u8 _) ?_ ?_ ?_
      · first
        | (simp [maxLen]; done)
        | (simp [maxLen]; omega)
      · show _ * 1 ≤ _
        first
        | (simp; done)
        | (simp; omega)
      first | refine nx rfl rfl ?_ | refine nx0 ?_
      try simp only [List.length_nil, Nat.zero_add, List.length_map, List.nil_append, dropId]
      refine any_lin (fuel := 0) [8, 9, 10] (by exact rfl) (by kernel_rfl) (by kernel_rfl) ?_
      repeat' (first | ((first | refine Qa rfl ?_ | refine Qc rfl rfl rfl ?_ | apply Qd rfl rfl rfl rfl | (apply Qe rfl rfl rfl rfl; intro H9)); (first | refine Q0 ?_ | refine Q1 ?_ | refine Q2 rfl ?_ | refine Q3 rfl rfl rfl ?_ | refine Q4 rfl rfl rfl rfl rfl ?_ | refine Q5 rfl ?_ | refine Q6 rfl ?_ | refine Q7 rfl rfl rfl ?_ | refine Q8 rfl rfl rfl ?_ | refine Q9 rfl rfl rfl rfl ?_ | refine QA rfl rfl (by decide) ?_ | refine QB rfl rfl (by decide) ?_ | refine QC rfl rfl ?_ | refine QD rfl ?_ | refine QE rfl rfl ?_ | refine QF rfl rfl ?_ | refine QG rfl rfl rfl rfl ?_ | refine QH rfl rfl rfl ?_ | refine QI rfl rfl rfl ?_ | refine QJ rfl rfl ?_ | refine QK rfl ?_ | refine QM rfl rfl rfl rfl rfl ?_ | refine QN ?_ | refine QO ?_ | refine QP rfl rfl rfl rfl rfl rfl ?_ | refine QQ rfl rfl rfl rfl rfl rfl rfl rfl rfl rfl rfl ?_ | refine QR rfl rfl rfl rfl rfl rfl rfl rfl rfl rfl rfl rfl ?_); (first | exact QX rfl rfl ⟨rfl, rfl⟩ | exact QY rfl ⟨rfl, rfl⟩ | exact QZ ⟨rfl, rfl⟩ | refine QX rfl rfl ?_ | refine QZ ?_)) | refine Qa rfl ?_ | (refine Qb rfl ?_; try (refine QS rfl rfl rfl rfl rfl rfl rfl ?_; (first | refine QX rfl rfl ?_ | refine QZ ?_))) | refine Qh ?_ | refine Qi rfl ?_ | refine Qj rfl ?_ | (refine Qf rfl rfl rfl ?_; refine QS rfl rfl rfl rfl rfl rfl rfl ?_; (first | refine QX rfl rfl ?_ | refine QZ ?_)) | apply Qg rfl rfl | refine Qk ?_ | refine Ql ?_ | refine Qm ?_ | refine Qn ?_ | refine Qo rfl ?_ | refine Qp rfl ?_ | refine Qq rfl ?_ | refine Qr ?_ | refine Qs ?_ | refine Qt ?_ | refine Qu ?_ | refine Qv ?_ | refine Qw (by kernel_rfl) ?_ | refine Qx rfl (by kernel_rfl) ?_)
      refine awp_pre (imp_tid 0 [3, 0, 2, 1] (sl' := [(2, .ptr 0 0)]) (H' := rdH (Rd.fresh img))
        (os := [.cells [.own 1 0 img.length, .own 2 0 img.length, .own 3 0 (img.length / 64), .bool false, .int .i64 0, .bool false, .int .i64 0] 70, .arr (img.map u8A) 5, .arr (img.map u8A) 5, .arr (List.replicate (img.length / 64) (boA false)) 4])
        (Nat.le_refl _) (Nat.zero_le _) (by simp) (by simp) (by simp [HOk]) rfl (by rw [rdH_fresh]; rfl) ?_ ?_) ?_
      · repeat' (first
          | exact fa_nil
          | exact os_nil
          | exact RenL.nil
          | refine fa_cons ?_ ?_
          | refine os_cons rfl (renO_cells ?_) ?_
          | refine os_cons rfl (renO_old 0 (fun i h => absurd h (Nat.not_lt_zero i)) (by simp [IdsLtO, IdsLtL, IdsLt])) ?_
          | refine RenL.cons ?_ ?_
          | exact ren_own rfl
          | exact ren_ptr rfl
          | exact ren_mp rfl
          | exact ren_lt rfl (by first | trivial | (simp [IdsLt, IdsLtL]; done)))
      · repeat' (first
          | exact fa_nil
          | exact os_nil
          | exact RenL.nil
          | refine fa_cons ?_ ?_
          | refine os_cons rfl (renO_cells ?_) ?_
          | refine os_cons rfl (renO_old 0 (fun i h => absurd h (Nat.not_lt_zero i)) (by simp [IdsLtO, IdsLtL, IdsLt])) ?_
          | refine RenL.cons ?_ ?_
          | exact ren_own rfl
          | exact ren_ptr rfl
          | exact ren_mp rfl
          | exact ren_lt rfl (by first | trivial | (simp [IdsLt, IdsLtL]; done)))
      refine awp_ret ?_
      refine ⟨_, rfl, ?_, ?_⟩
      · rfl
      · rfl
  · refine mop_ef rfl rfl rfl ?_
    refine st_mko (n := img.length / 64) (el := boA false) rfl (by simpa using hd) (by simpa using hd) ?_ ?_ rfl rfl rfl rfl rfl rfl (.inr rfl) (.inr rfl) rfl rfl ?_
    · show 1 * _ ≤ 281474976710656
      first
      | omega
      | (simp; omega)
    · show _ ≤ 9223372036854775807
      omega
    first | refine nx rfl rfl ?_ | refine nx0 ?_
    refine any_br [1] (by kernel_rfl) (br1 ?_)
    refine mop_ef rfl rfl rfl ?_
    refine st_append (oid := none) (es := []) (new := img.map u8A) rfl rfl rfl rfl rfl rfl rfl rfl (rfl) (rfl) (oneEs_u8 _) ?_ ?_ ?_
    · first
      | (simp [maxLen]; done)
      | (simp [maxLen]; omega)
    · show _ * 1 ≤ _
      first
      | (simp; done)
      | (simp; omega)
    first | refine nx rfl rfl ?_ | refine nx0 ?_
    try simp only [List.length_nil, Nat.zero_add, List.length_map, List.nil_append, dropId]
    refine any_br [3] (by kernel_rfl) (br1 ?_)
    refine mop_ef rfl rfl rfl ?_
    refine st_append (oid := none) (es := []) (new := img.map u8A) rfl rfl rfl rfl rfl rfl rfl rfl (rfl) (rfl) (oneEs_u8 _) ?_ ?_ ?_
    · first
      | (simp [maxLen]; done)
      | (simp [maxLen]; omega)
    · show _ * 1 ≤ _
      first
      | (simp; done)
      | (simp; omega)
    first | refine nx rfl rfl ?_ | refine nx0 ?_
    try simp only [List.length_nil, Nat.zero_add, List.length_map, List.nil_append, dropId]
    refine any_lin (fuel := 0) [8, 9, 10] (by exact rfl) (by kernel_rfl) (by kernel_rfl) ?_
    repeat' (first | ((first | refine Qa rfl ?_ | refine Qc rfl rfl rfl ?_ | apply Qd rfl rfl rfl rfl | (apply Qe rfl rfl rfl rfl; intro H9)); (first | refine Q0 ?_ | refine Q1 ?_ | refine Q2 rfl ?_ | refine Q3 rfl rfl rfl ?_ | refine Q4 rfl rfl rfl rfl rfl ?_ | refine Q5 rfl ?_ | refine Q6 rfl ?_ | refine Q7 rfl rfl rfl ?_ | refine Q8 rfl rfl rfl ?_ | refine Q9 rfl rfl rfl rfl ?_ | refine QA rfl rfl (by decide) ?_ | refine QB rfl rfl (by decide) ?_ | refine QC rfl rfl ?_ | refine QD rfl ?_ | refine QE rfl rfl ?_ | refine QF rfl rfl ?_ | refine QG rfl rfl rfl rfl ?_ | refine QH rfl rfl rfl ?_ | refine QI rfl rfl rfl ?_ | refine QJ rfl rfl ?_ | refine QK rfl ?_ | refine QM rfl rfl rfl rfl rfl ?_ | refine QN ?_ | refine QO ?_ | refine QP rfl rfl rfl rfl rfl rfl ?_ | refine QQ rfl rfl rfl rfl rfl rfl rfl rfl rfl rfl rfl ?_ | refine QR rfl rfl rfl rfl rfl rfl rfl rfl rfl rfl rfl rfl ?_); (first | exact QX rfl rfl ⟨rfl, rfl⟩ | exact QY rfl ⟨rfl, rfl⟩ | exact QZ ⟨rfl, rfl⟩ | refine QX rfl rfl ?_ | refine QZ ?_)) | refine Qa rfl ?_ | (refine Qb rfl ?_; try (refine QS rfl rfl rfl rfl rfl rfl rfl ?_; (first | refine QX rfl rfl ?_ | refine QZ ?_))) | refine Qh ?_ | refine Qi rfl ?_ | refine Qj rfl ?_ | (refine Qf rfl rfl rfl ?_; refine QS rfl rfl rfl rfl rfl rfl rfl ?_; (first | refine QX rfl rfl ?_ | refine QZ ?_)) | apply Qg rfl rfl | refine Qk ?_ | refine Ql ?_ | refine Qm ?_ | refine Qn ?_ | refine Qo rfl ?_ | refine Qp rfl ?_ | refine Qq rfl ?_ | refine Qr ?_ | refine Qs ?_ | refine Qt ?_ | refine Qu ?_ | refine Qv ?_ | refine Qw (by kernel_rfl) ?_ | refine Qx rfl (by kernel_rfl) ?_)
    refine awp_pre (imp_tid 0 [3, 1, 2, 0] (sl' := [(2, .ptr 0 0)]) (H' := rdH (Rd.fresh img))
      (os := [.cells [.own 1 0 img.length, .own 2 0 img.length, .own 3 0 (img.length / 64), .bool false, .int .i64 0, .bool false, .int .i64 0] 70, .arr (img.map u8A) 5, .arr (img.map u8A) 5, .arr (List.replicate (img.length / 64) (boA false)) 4])
      (Nat.le_refl _) (Nat.zero_le _) (by simp) (by simp) (by simp [HOk]) rfl (by rw [rdH_fresh]; rfl) ?_ ?_) ?_
    · repeat' (first
        | exact fa_nil
        | exact os_nil
        | exact RenL.nil
        | refine fa_cons ?_ ?_
        | refine os_cons rfl (renO_cells ?_) ?_
        | refine os_cons rfl (renO_old 0 (fun i h => absurd h (Nat.not_lt_zero i)) (by simp [IdsLtO, IdsLtL, IdsLt])) ?_
        | refine RenL.cons ?_ ?_
        | exact ren_own rfl
        | exact ren_ptr rfl
        | exact ren_mp rfl
        | exact ren_lt rfl (by first | trivial | (simp [IdsLt, IdsLtL]; done)))
    · repeat' (first
        | exact fa_nil
        | exact os_nil
        | exact RenL.nil
        | refine fa_cons ?_ ?_
        | refine os_cons rfl (renO_cells ?_) ?_
        | refine os_cons rfl (renO_old 0 (fun i h => absurd h (Nat.not_lt_zero i)) (by simp [IdsLtO, IdsLtL, IdsLt])) ?_
        | refine RenL.cons ?_ ?_
        | exact ren_own rfl
        | exact ren_ptr rfl
        | exact ren_mp rfl
        | exact ren_lt rfl (by first | trivial | (simp [IdsLt, IdsLtL]; done)))
    refine awp_ret ?_
    refine ⟨_, rfl, ?_, ?_⟩
    · rfl
    · rfl
theorem noFz_rd (r : Rd) : noFzH (rdH r) = true := by
  simp only [noFzH, rdH, List.all_cons, List.all_nil, noFzO, noFzL, noFz, Bool.and_true, Bool.true_and, Bool.and_eq_true]
  exact ⟨noFz_map (fun _ => rfl) _, noFz_map (fun _ => rfl) _, noFz_map (fun _ => rfl) _⟩
/-- The reference's device s places further on. -/
def rdS (s : Nat) (r : Rd) : Hp :=
  [some (.cells [.own (1 + s) 0 r.old.length, .own (2 + s) 0 r.new.length, .own (3 + s) 0 r.dirt.length, .bool r.has, .int .i64 r.left, .bool r.gone, .int .i64 r.wrote] 70),
   some (.arr (r.old.map u8A) 5), some (.arr (r.new.map u8A) 5), some (.arr (r.dirt.map boA) 4)]
theorem mapH_rd (s : Nat) (r : Rd) : mapH (· + s) (rdH r) = rdS s r := by
  simp [mapH, rdH, rdS, rnO, rnL, rnA, rnL_map (f := u8A) (fun _ => rfl), rnL_map (f := boA) (fun _ => rfl)]
/-- Of, of any slice that can be read, over any heap. -/
theorem rof_at (X : Nat → Prop) (H : Hp) (x : AV) (img : List UInt8) (hl : img.length ≤ 1073741824) (hx : srcA (E0 X) H 1 x = some (img.map u8A)) :
    ACalls (E0 X) 37 [x] H (fun v H' => v = .ptr H.length 0 ∧ H' = H ++ rdS H.length (Rd.fresh img)) := by
  refine (acalls_make (E := E0 X) (P := fun v H' => v = .ptr 0 0 ∧ H' = rdH (Rd.fresh img)) (fun X => rof_c X img hl) (fun r h' h => by obtain ⟨h1, h2⟩ := h; subst h1; subst h2; exact ⟨rfl, noFz_rd _⟩) (Bor.sl (u8_ids _) hx .nil)).mono ?_
  rintro r H' ⟨r0, h', ⟨rfl, rfl⟩, rfl, rfl⟩
  exact ⟨by simp [rnA], by rw [mapH_rd]⟩
set_option maxHeartbeats 0 in
theorem rblank_c (X : Nat → Prop) (n : Nat) (hn : n ≤ 16777216) : ACalls (E0 X) 23 [.int .i64 n] [] (fun v H' => v = .ptr 0 0 ∧ H' = rdH (Rd.fresh (List.replicate (n * 64) 0))) := by
  refine acalls_of Proofs.Try.func23 rfl Proofs.Try.ntmps23 (by kernel_rfl) rfl ?_
  intro hH hargs
  clear hH hargs
  repeat' (first | ((first | refine Qa rfl ?_ | refine Qc rfl rfl rfl ?_ | apply Qd rfl rfl rfl rfl | (apply Qe rfl rfl rfl rfl; intro H9)); (first | refine Q0 ?_ | refine Q1 ?_ | refine Q2 rfl ?_ | refine Q3 rfl rfl rfl ?_ | refine Q4 rfl rfl rfl rfl rfl ?_ | refine Q5 rfl ?_ | refine Q6 rfl ?_ | refine Q7 rfl rfl rfl ?_ | refine Q8 rfl rfl rfl ?_ | refine Q9 rfl rfl rfl rfl ?_ | refine QA rfl rfl (by decide) ?_ | refine QB rfl rfl (by decide) ?_ | refine QC rfl rfl ?_ | refine QD rfl ?_ | refine QE rfl rfl ?_ | refine QF rfl rfl ?_ | refine QG rfl rfl rfl rfl ?_ | refine QH rfl rfl rfl ?_ | refine QI rfl rfl rfl ?_ | refine QJ rfl rfl ?_ | refine QK rfl ?_ | refine QM rfl rfl rfl rfl rfl ?_ | refine QN ?_ | refine QO ?_ | refine QP rfl rfl rfl rfl rfl rfl ?_ | refine QQ rfl rfl rfl rfl rfl rfl rfl rfl rfl rfl rfl ?_ | refine QR rfl rfl rfl rfl rfl rfl rfl rfl rfl rfl rfl rfl ?_); (first | exact QX rfl rfl ⟨rfl, rfl⟩ | exact QY rfl ⟨rfl, rfl⟩ | exact QZ ⟨rfl, rfl⟩ | refine QX rfl rfl ?_ | refine QZ ?_)) | refine Qa rfl ?_ | (refine Qb rfl ?_; try (refine QS rfl rfl rfl rfl rfl rfl rfl ?_; (first | refine QX rfl rfl ?_ | refine QZ ?_))) | refine Qh ?_ | refine Qi rfl ?_ | refine Qj rfl ?_ | (refine Qf rfl rfl rfl ?_; refine QS rfl rfl rfl rfl rfl rfl rfl ?_; (first | refine QX rfl rfl ?_ | refine QZ ?_)) | apply Qg rfl rfl | refine Qk ?_ | refine Ql ?_ | refine Qm ?_ | refine Qn ?_ | refine Qo rfl ?_ | refine Qp rfl ?_ | refine Qq rfl ?_ | refine Qr ?_ | refine Qs ?_ | refine Qt ?_ | refine Qu ?_ | refine Qv ?_ | refine Qw (by kernel_rfl) ?_)
  refine st_mks (n := n * 64) (el := u8A 0) rfl rfl (wr64 hn) (wr64 hn) ?_ ?_ rfl rfl rfl rfl rfl rfl (.inr rfl) (.inr rfl) rfl rfl ?_
  · show 1 * _ ≤ 281474976710656
    first
    | omega
    | (simp; omega)
  · show _ ≤ 9223372036854775807
    omega
  first | refine nx rfl rfl ?_ | refine nx0 ?_
  have e : List.replicate (n * 64) (u8A 0) = (List.replicate (n * 64) (0 : UInt8)).map u8A := by simp
  rw [e]
  repeat' (first | ((first | refine Qa rfl ?_ | refine Qc rfl rfl rfl ?_ | apply Qd rfl rfl rfl rfl | (apply Qe rfl rfl rfl rfl; intro H9)); (first | refine Q0 ?_ | refine Q1 ?_ | refine Q2 rfl ?_ | refine Q3 rfl rfl rfl ?_ | refine Q4 rfl rfl rfl rfl rfl ?_ | refine Q5 rfl ?_ | refine Q6 rfl ?_ | refine Q7 rfl rfl rfl ?_ | refine Q8 rfl rfl rfl ?_ | refine Q9 rfl rfl rfl rfl ?_ | refine QA rfl rfl (by decide) ?_ | refine QB rfl rfl (by decide) ?_ | refine QC rfl rfl ?_ | refine QD rfl ?_ | refine QE rfl rfl ?_ | refine QF rfl rfl ?_ | refine QG rfl rfl rfl rfl ?_ | refine QH rfl rfl rfl ?_ | refine QI rfl rfl rfl ?_ | refine QJ rfl rfl ?_ | refine QK rfl ?_ | refine QM rfl rfl rfl rfl rfl ?_ | refine QN ?_ | refine QO ?_ | refine QP rfl rfl rfl rfl rfl rfl ?_ | refine QQ rfl rfl rfl rfl rfl rfl rfl rfl rfl rfl rfl ?_ | refine QR rfl rfl rfl rfl rfl rfl rfl rfl rfl rfl rfl rfl ?_); (first | exact QX rfl rfl ⟨rfl, rfl⟩ | exact QY rfl ⟨rfl, rfl⟩ | exact QZ ⟨rfl, rfl⟩ | refine QX rfl rfl ?_ | refine QZ ?_)) | refine Qa rfl ?_ | (refine Qb rfl ?_; try (refine QS rfl rfl rfl rfl rfl rfl rfl ?_; (first | refine QX rfl rfl ?_ | refine QZ ?_))) | refine Qh ?_ | refine Qi rfl ?_ | refine Qj rfl ?_ | (refine Qf rfl rfl rfl ?_; refine QS rfl rfl rfl rfl rfl rfl rfl ?_; (first | refine QX rfl rfl ?_ | refine QZ ?_)) | apply Qg rfl rfl | refine Qk ?_ | refine Ql ?_ | refine Qm ?_ | refine Qn ?_ | refine Qo rfl ?_ | refine Qp rfl ?_ | refine Qq rfl ?_ | refine Qr ?_ | refine Qs ?_ | refine Qt ?_ | refine Qu ?_ | refine Qv ?_ | refine Qw (by kernel_rfl) ?_)
  refine st_call (fun _ => rfl) rfl ?_
  refine ACalls.mono (rof_at X [] _ (List.replicate (n * 64) 0) (by simp; omega) rfl) ?_
  rintro r H' ⟨rfl, rfl⟩
  first | refine nx rfl rfl ?_ | refine nx0 ?_
  repeat' (first | ((first | refine Qa rfl ?_ | refine Qc rfl rfl rfl ?_ | apply Qd rfl rfl rfl rfl | (apply Qe rfl rfl rfl rfl; intro H9)); (first | refine Q0 ?_ | refine Q1 ?_ | refine Q2 rfl ?_ | refine Q3 rfl rfl rfl ?_ | refine Q4 rfl rfl rfl rfl rfl ?_ | refine Q5 rfl ?_ | refine Q6 rfl ?_ | refine Q7 rfl rfl rfl ?_ | refine Q8 rfl rfl rfl ?_ | refine Q9 rfl rfl rfl rfl ?_ | refine QA rfl rfl (by decide) ?_ | refine QB rfl rfl (by decide) ?_ | refine QC rfl rfl ?_ | refine QD rfl ?_ | refine QE rfl rfl ?_ | refine QF rfl rfl ?_ | refine QG rfl rfl rfl rfl ?_ | refine QH rfl rfl rfl ?_ | refine QI rfl rfl rfl ?_ | refine QJ rfl rfl ?_ | refine QK rfl ?_ | refine QM rfl rfl rfl rfl rfl ?_ | refine QN ?_ | refine QO ?_ | refine QP rfl rfl rfl rfl rfl rfl ?_ | refine QQ rfl rfl rfl rfl rfl rfl rfl rfl rfl rfl rfl ?_ | refine QR rfl rfl rfl rfl rfl rfl rfl rfl rfl rfl rfl rfl ?_); (first | exact QX rfl rfl ⟨rfl, rfl⟩ | exact QY rfl ⟨rfl, rfl⟩ | exact QZ ⟨rfl, rfl⟩ | refine QX rfl rfl ?_ | refine QZ ?_)) | refine Qa rfl ?_ | (refine Qb rfl ?_; try (refine QS rfl rfl rfl rfl rfl rfl rfl ?_; (first | refine QX rfl rfl ?_ | refine QZ ?_))) | refine Qh ?_ | refine Qi rfl ?_ | refine Qj rfl ?_ | (refine Qf rfl rfl rfl ?_; refine QS rfl rfl rfl rfl rfl rfl rfl ?_; (first | refine QX rfl rfl ?_ | refine QZ ?_)) | apply Qg rfl rfl | refine Qk ?_ | refine Ql ?_ | refine Qm ?_ | refine Qn ?_ | refine Qo rfl ?_ | refine Qp rfl ?_ | refine Qq rfl ?_ | refine Qr ?_ | refine Qs ?_ | refine Qt ?_ | refine Qu ?_ | refine Qv ?_ | refine Qw (by kernel_rfl) ?_)
  refine awp_ret ?_
  refine ⟨_, rfl, ?_, ?_⟩
  · rfl
  · rfl
end Go.Abs
namespace Go.Abs
theorem firstFit_fits {k : Int} : ∀ {ts : List Tr} {b i : Nat} {t : Tr}, firstFit k ts b = some (i, t) → t.fits k = true
  | [], _, _, _, h => by simp [firstFit] at h
  | q :: ts, b, i, t, h => by
    simp only [firstFit] at h
    split at h
    · rename_i hf
      simp only [Option.some.injEq, Prod.mk.injEq] at h
      obtain ⟨rfl, rfl⟩ := h
      exact hf
    · exact firstFit_fits h
theorem kept_bound (k : Nat) (keep : List Bool) (ts : List Tr) : 0 ≤ keptN k keep ts ∧ keptN k keep ts ≤ 64 := by
  unfold keptN
  split
  · rename_i i t h
    have := firstFit_fits h
    simp [Tr.fits] at this
    omega
  · split <;> omega
/-- The first n bytes of sector j out of new. -/
def cpyN (img new : List UInt8) (j n : Nat) : List UInt8 := img.take (j * 64) ++ (new.drop (j * 64)).take n ++ img.drop (j * 64 + n)
theorem cpyN_len {img new : List UInt8} {j n : Nat} (h : j * 64 + 64 ≤ img.length) (hl : new.length = img.length) (hn : n ≤ 64) : (cpyN img new j n).length = img.length := by
  simp [cpyN]; omega
def crStep (new : List UInt8) (dirt keep : List Bool) (ts : List Tr) (s : Nat × List UInt8) (j : Nat) : Nat × List UInt8 :=
  if dirt[j]? = some true then (s.1 + 1, cpyN s.2 new j (keptN s.1 keep ts).toNat) else s
def crRun (old new : List UInt8) (dirt keep : List Bool) (ts : List Tr) (j : Nat) : Nat × List UInt8 := (List.range j).foldl (crStep new dirt keep ts) (0, old)
theorem crRun_succ {old new : List UInt8} {dirt keep : List Bool} {ts : List Tr} {j : Nat} : crRun old new dirt keep ts (j + 1) = crStep new dirt keep ts (crRun old new dirt keep ts j) j := by
  simp [crRun, List.range_succ]
theorem crRun_ok {old new : List UInt8} {dirt keep : List Bool} {ts : List Tr} (hl : new.length = old.length) (hd : dirt.length * 64 = old.length) : ∀ {j : Nat}, j ≤ dirt.length →
    (crRun old new dirt keep ts j).1 ≤ j ∧ (crRun old new dirt keep ts j).2.length = old.length
  | 0, _ => ⟨Nat.le_refl _, rfl⟩
  | j + 1, h => by
    obtain ⟨h1, h2⟩ := crRun_ok (keep := keep) (ts := ts) hl hd (j := j) (by omega)
    rw [crRun_succ]
    unfold crStep
    split
    · have := kept_bound (crRun old new dirt keep ts j).1 keep ts
      exact ⟨by simp; omega, by simp only []; rw [cpyN_len (by omega) (by omega) (by omega)]; exact h2⟩
    · exact ⟨by omega, h2⟩
def Rd.crash (r : Rd) (keep : List Bool) (ts : List Tr) : Rd :=
  { Rd.fresh r.old with old := (crRun r.old r.new r.dirt keep ts r.dirt.length).2, new := (crRun r.old r.new r.dirt keep ts r.dirt.length).2 }
def rdWith (old img : List UInt8) : Rd := { Rd.fresh old with old := img, new := img }
theorem spl_cpy {img new : List UInt8} {j n : Nat} (h : j * 64 + 64 ≤ img.length) (hl : new.length = img.length) (hn : n ≤ 64) :
    spl (img.map u8A) (j * 64) ((((new.drop (j * 64)).take n).map u8A).take (min n (((new.drop (j * 64)).take n).map u8A).length)) = (cpyN img new j n).map u8A := by
  have h1 : (((new.drop (j * 64)).take n).map u8A).length = n := by simp; omega
  have h2 : ((new.drop (j * 64)).take n).length = n := by simp; omega
  rw [h1, Nat.min_self, List.take_of_length_le (by omega)]
  unfold spl cpyN
  rw [h1]
  simp only [List.map_append, List.map_take, List.map_drop]
theorem rdS_with (old img : List UInt8) : rdS 4 (rdWith old img) = [some (.cells [.own 5 0 img.length, .own 6 0 img.length, .own 7 0 (old.length / 64), .bool false, .int .i64 0, .bool false, .int .i64 0] 70),
   some (.arr (img.map u8A) 5), some (.arr (img.map u8A) 5), some (.arr (List.replicate (old.length / 64) (boA false)) 4)] := by
  simp [rdS, rdWith, Rd.fresh]
theorem hok_rds (r c : Rd) : HOk 8 (rdH r ++ rdS 4 c) := fun j o ho => by
  match j, ho with
  | 0, ho => cases ho; exact ⟨by simp [IdsLt], by simp [IdsLt], by simp [IdsLt], trivial, trivial, trivial, trivial, trivial⟩
  | 1, ho => cases ho; exact idsL_map fun _ => u8A_ids
  | 2, ho => cases ho; exact idsL_map fun _ => u8A_ids
  | 3, ho => cases ho; exact idsL_map fun _ => boA_ids
  | 4, ho => cases ho; exact ⟨by simp [IdsLt], by simp [IdsLt], by simp [IdsLt], trivial, trivial, trivial, trivial, trivial⟩
  | 5, ho => cases ho; exact idsL_map fun _ => u8A_ids
  | 6, ho => cases ho; exact idsL_map fun _ => u8A_ids
  | 7, ho => cases ho; exact idsL_map fun _ => boA_ids
attribute [local irreducible] AStep aops AWp Nx awM
set_option maxHeartbeats 0 in
theorem rcrash_c (X : Nat → Prop) (r : Rd) (keep : List Bool) (ts : List Tr) (hts : ts.length ≤ 1073741824) (hd : r.dirt.length * 64 = r.new.length) (ho : r.old.length = r.new.length) (hl : r.new.length ≤ 1073741824) :
    ACalls (E0 X) 28 [.ptr 0 0, .sl 1 (keep.map boA), .sl 2 (ts.map trA)] (rdH r) (fun v H' => v = .ptr 4 0 ∧ H' = rdH r ++ rdS 4 (r.crash keep ts)) := by
  refine acalls_of Proofs.Try.func28 rfl Proofs.Try.ntmps28 (by kernel_rfl) rfl ?_
  intro hH hargs
  clear hH hargs
  repeat' (first | ((first | refine Qa rfl ?_ | refine Qc rfl rfl rfl ?_ | apply Qd rfl rfl rfl rfl | (apply Qe rfl rfl rfl rfl; intro H9)); (first | refine Q0 ?_ | refine Q1 ?_ | refine Q2 rfl ?_ | refine Q3 rfl rfl rfl ?_ | refine Q4 rfl rfl rfl rfl rfl ?_ | refine Q5 rfl ?_ | refine Q6 rfl ?_ | refine Q7 rfl rfl rfl ?_ | refine Q8 rfl rfl rfl ?_ | refine Q9 rfl rfl rfl rfl ?_ | refine QA rfl rfl (by decide) ?_ | refine QB rfl rfl (by decide) ?_ | refine QC rfl rfl ?_ | refine QD rfl ?_ | refine QE rfl rfl ?_ | refine QF rfl rfl ?_ | refine QG rfl rfl rfl rfl ?_ | refine QH rfl rfl rfl ?_ | refine QI rfl rfl rfl ?_ | refine QJ rfl rfl ?_ | refine QK rfl ?_ | refine QM rfl rfl rfl rfl rfl ?_ | refine QN ?_ | refine QO ?_ | refine QP rfl rfl rfl rfl rfl rfl ?_ | refine QQ rfl rfl rfl rfl rfl rfl rfl rfl rfl rfl rfl ?_ | refine QR rfl rfl rfl rfl rfl rfl rfl rfl rfl rfl rfl rfl ?_); (first | exact QX rfl rfl ⟨rfl, rfl⟩ | exact QY rfl ⟨rfl, rfl⟩ | exact QZ ⟨rfl, rfl⟩ | refine QX rfl rfl ?_ | refine QZ ?_)) | refine Qa rfl ?_ | (refine Qb rfl ?_; try (refine QS rfl rfl rfl rfl rfl rfl rfl ?_; (first | refine QX rfl rfl ?_ | refine QZ ?_))) | refine Qh ?_ | refine Qi rfl ?_ | refine Qj rfl ?_ | (refine Qf rfl rfl rfl ?_; refine QS rfl rfl rfl rfl rfl rfl rfl ?_; (first | refine QX rfl rfl ?_ | refine QZ ?_)) | apply Qg rfl rfl | refine Qk ?_ | refine Ql ?_ | refine Qm ?_ | refine Qn ?_ | refine Qo rfl ?_ | refine Qp rfl ?_ | refine Qq rfl ?_ | refine Qr ?_ | refine Qs ?_ | refine Qt ?_ | refine Qu ?_ | refine Qv ?_ | refine Qw (by kernel_rfl) ?_ | refine Qx rfl (by kernel_rfl) ?_)
  refine st_call (fun _ => rfl) rfl ?_
  refine ACalls.mono (rof_at X (rdH r) _ r.old (by omega) (src_ownm' rfl rfl rfl (by simp) (by simp))) ?_
  rintro r H' ⟨rfl, rfl⟩
  first | refine nx rfl rfl ?_ | refine nx0 ?_
  repeat' (first | ((first | refine Qa rfl ?_ | refine Qc rfl rfl rfl ?_ | apply Qd rfl rfl rfl rfl | (apply Qe rfl rfl rfl rfl; intro H9)); (first | refine Q0 ?_ | refine Q1 ?_ | refine Q2 rfl ?_ | refine Q3 rfl rfl rfl ?_ | refine Q4 rfl rfl rfl rfl rfl ?_ | refine Q5 rfl ?_ | refine Q6 rfl ?_ | refine Q7 rfl rfl rfl ?_ | refine Q8 rfl rfl rfl ?_ | refine Q9 rfl rfl rfl rfl ?_ | refine QA rfl rfl (by decide) ?_ | refine QB rfl rfl (by decide) ?_ | refine QC rfl rfl ?_ | refine QD rfl ?_ | refine QE rfl rfl ?_ | refine QF rfl rfl ?_ | refine QG rfl rfl rfl rfl ?_ | refine QH rfl rfl rfl ?_ | refine QI rfl rfl rfl ?_ | refine QJ rfl rfl ?_ | refine QK rfl ?_ | refine QM rfl rfl rfl rfl rfl ?_ | refine QN ?_ | refine QO ?_ | refine QP rfl rfl rfl rfl rfl rfl ?_ | refine QQ rfl rfl rfl rfl rfl rfl rfl rfl rfl rfl rfl ?_ | refine QR rfl rfl rfl rfl rfl rfl rfl rfl rfl rfl rfl rfl ?_); (first | exact QX rfl rfl ⟨rfl, rfl⟩ | exact QY rfl ⟨rfl, rfl⟩ | exact QZ ⟨rfl, rfl⟩ | refine QX rfl rfl ?_ | refine QZ ?_)) | refine Qa rfl ?_ | (refine Qb rfl ?_; try (refine QS rfl rfl rfl rfl rfl rfl rfl ?_; (first | refine QX rfl rfl ?_ | refine QZ ?_))) | refine Qh ?_ | refine Qi rfl ?_ | refine Qj rfl ?_ | (refine Qf rfl rfl rfl ?_; refine QS rfl rfl rfl rfl rfl rfl rfl ?_; (first | refine QX rfl rfl ?_ | refine QZ ?_)) | apply Qg rfl rfl | refine Qk ?_ | refine Ql ?_ | refine Qm ?_ | refine Qn ?_ | refine Qo rfl ?_ | refine Qp rfl ?_ | refine Qq rfl ?_ | refine Qr ?_ | refine Qs ?_ | refine Qt ?_ | refine Qu ?_ | refine Qv ?_ | refine Qw (by kernel_rfl) ?_ | refine Qx rfl (by kernel_rfl) ?_)
  refine awp_loop2 (fun j : Nat => ⟨[(0, .ptr 0 0), (1, .sl 1 (keep.map boA)), (2, .sl 2 (ts.map trA)), (7, .ptr 4 0), (8, .int .i64 (crRun r.old r.new r.dirt keep ts j).1), (20, .int .i64 r.dirt.length), (21, .int .i64 j)],
    rdH r ++ rdS 4 (rdWith r.old (crRun r.old r.new r.dirt keep ts j).2)⟩) (fun j => j ≤ r.dirt.length) (fun j => r.dirt.length - j) 0 (Nat.zero_le _) ?_ ?_
  · refine imp_cutk 8 (by simp [rdH]) (hok_rds _ _) rfl (by simp) ?_
    repeat' (first | exact fa_nil | refine fa_cons ⟨?_, ?_⟩ ?_)
    all_goals (try first | exact rfl | exact trivial | (simp [IdsLt, IdsLtL]; done) | (simp [get_cons]; done) | (simp [get_cons, *]; done) | (refine congrArg (AV.int .i64) (wrap_eq ?_ ?_ ?_) <;> (first | omega | (simp; omega))))
  · rintro j hj
    obtain ⟨hk1, hk2⟩ := crRun_ok (keep := keep) (ts := ts) (old := r.old) (new := r.new) (dirt := r.dirt) ho.symm (by omega) hj
    have hnext := crRun_succ (old := r.old) (new := r.new) (dirt := r.dirt) (keep := keep) (ts := ts) (j := j)
    generalize hs : crRun r.old r.new r.dirt keep ts j = s at *
    obtain ⟨k, img⟩ := s
    have hk1 : k ≤ j := hk1
    have hk2 : img.length = r.old.length := hk2
    show AWp _ _ _ _ _ ⟨[(0, .ptr 0 0), (1, .sl 1 (keep.map boA)), (2, .sl 2 (ts.map trA)), (7, .ptr 4 0), (8, .int .i64 k), (20, .int .i64 r.dirt.length), (21, .int .i64 j)], rdH r ++ rdS 4 (rdWith r.old img)⟩
    rw [rdS_with]
    repeat' (first | ((first | refine Qa rfl ?_ | refine Qc rfl rfl rfl ?_ | apply Qd rfl rfl rfl rfl | (apply Qe rfl rfl rfl rfl; intro H9)); (first | refine Q0 ?_ | refine Q1 ?_ | refine Q2 rfl ?_ | refine Q3 rfl rfl rfl ?_ | refine Q4 rfl rfl rfl rfl rfl ?_ | refine Q5 rfl ?_ | refine Q6 rfl ?_ | refine Q7 rfl rfl rfl ?_ | refine Q8 rfl rfl rfl ?_ | refine Q9 rfl rfl rfl rfl ?_ | refine QA rfl rfl (by decide) ?_ | refine QB rfl rfl (by decide) ?_ | refine QC rfl rfl ?_ | refine QD rfl ?_ | refine QE rfl rfl ?_ | refine QF rfl rfl ?_ | refine QG rfl rfl rfl rfl ?_ | refine QH rfl rfl rfl ?_ | refine QI rfl rfl rfl ?_ | refine QJ rfl rfl ?_ | refine QK rfl ?_ | refine QM rfl rfl rfl rfl rfl ?_ | refine QN ?_ | refine QO ?_ | refine QP rfl rfl rfl rfl rfl rfl ?_ | refine QQ rfl rfl rfl rfl rfl rfl rfl rfl rfl rfl rfl ?_ | refine QR rfl rfl rfl rfl rfl rfl rfl rfl rfl rfl rfl rfl ?_); (first | exact QX rfl rfl ⟨rfl, rfl⟩ | exact QY rfl ⟨rfl, rfl⟩ | exact QZ ⟨rfl, rfl⟩ | refine QX rfl rfl ?_ | refine QZ ?_)) | refine Qa rfl ?_ | (refine Qb rfl ?_; try (refine QS rfl rfl rfl rfl rfl rfl rfl ?_; (first | refine QX rfl rfl ?_ | refine QZ ?_))) | refine Qh ?_ | refine Qi rfl ?_ | refine Qj rfl ?_ | (refine Qf rfl rfl rfl ?_; refine QS rfl rfl rfl rfl rfl rfl rfl ?_; (first | refine QX rfl rfl ?_ | refine QZ ?_)) | apply Qg rfl rfl | refine Qk ?_ | refine Ql ?_ | refine Qm ?_ | refine Qn ?_ | refine Qo rfl ?_ | refine Qp rfl ?_ | refine Qq rfl ?_ | refine Qr ?_ | refine Qs ?_ | refine Qt ?_ | refine Qu ?_ | refine Qv ?_ | refine Qw (by kernel_rfl) ?_ | refine Qx rfl (by kernel_rfl) ?_)
    refine awp_cond_dec rfl (fun h3 => ?_) (fun h3 => ?_)
    · have hj3 : j < r.dirt.length := by omega
      obtain ⟨y, hy⟩ : ∃ y, r.dirt[j]? = some y := ⟨_, List.getElem?_eq_getElem hj3⟩
      repeat' (first | ((first | refine Qa rfl ?_ | refine Qc rfl rfl rfl ?_ | apply Qd rfl rfl rfl rfl | (apply Qe rfl rfl rfl rfl; intro H9)); (first | refine Q0 ?_ | refine Q1 ?_ | refine Q2 rfl ?_ | refine Q3 rfl rfl rfl ?_ | refine Q4 rfl rfl rfl rfl rfl ?_ | refine Q5 rfl ?_ | refine Q6 rfl ?_ | refine Q7 rfl rfl rfl ?_ | refine Q8 rfl rfl rfl ?_ | refine Q9 rfl rfl rfl rfl ?_ | refine QA rfl rfl (by decide) ?_ | refine QB rfl rfl (by decide) ?_ | refine QC rfl rfl ?_ | refine QD rfl ?_ | refine QE rfl rfl ?_ | refine QF rfl rfl ?_ | refine QG rfl rfl rfl rfl ?_ | refine QH rfl rfl rfl ?_ | refine QI rfl rfl rfl ?_ | refine QJ rfl rfl ?_ | refine QK rfl ?_ | refine QM rfl rfl rfl rfl rfl ?_ | refine QN ?_ | refine QO ?_ | refine QP rfl rfl rfl rfl rfl rfl ?_ | refine QQ rfl rfl rfl rfl rfl rfl rfl rfl rfl rfl rfl ?_ | refine QR rfl rfl rfl rfl rfl rfl rfl rfl rfl rfl rfl rfl ?_); (first | exact QX rfl rfl ⟨rfl, rfl⟩ | exact QY rfl ⟨rfl, rfl⟩ | exact QZ ⟨rfl, rfl⟩ | refine QX rfl rfl ?_ | refine QZ ?_)) | refine Qa rfl ?_ | (refine Qb rfl ?_; try (refine QS rfl rfl rfl rfl rfl rfl rfl ?_; (first | refine QX rfl rfl ?_ | refine QZ ?_))) | refine Qh ?_ | refine Qi rfl ?_ | refine Qj rfl ?_ | (refine Qf rfl rfl rfl ?_; refine QS rfl rfl rfl rfl rfl rfl rfl ?_; (first | refine QX rfl rfl ?_ | refine QZ ?_)) | apply Qg rfl rfl | refine Qk ?_ | refine Ql ?_ | refine Qm ?_ | refine Qn ?_ | refine Qo rfl ?_ | refine Qp rfl ?_ | refine Qq rfl ?_ | refine Qr ?_ | refine Qs ?_ | refine Qt ?_ | refine Qu ?_ | refine Qv ?_ | refine Qw (by kernel_rfl) ?_ | refine Qx rfl (by kernel_rfl) ?_)
      refine st_ixo (j := j) (p := j) (rfl) (by first | omega | assumption | (simp; omega)) (by omega) rfl rfl rfl rfl rfl rfl rfl rfl ?_
      first | refine nx rfl rfl ?_ | refine nx0 ?_
      repeat' (first | ((first | refine Qa rfl ?_ | refine Qc rfl rfl rfl ?_ | apply Qd rfl rfl rfl rfl | (apply Qe rfl rfl rfl rfl; intro H9)); (first | refine Q0 ?_ | refine Q1 ?_ | refine Q2 rfl ?_ | refine Q3 rfl rfl rfl ?_ | refine Q4 rfl rfl rfl rfl rfl ?_ | refine Q5 rfl ?_ | refine Q6 rfl ?_ | refine Q7 rfl rfl rfl ?_ | refine Q8 rfl rfl rfl ?_ | refine Q9 rfl rfl rfl rfl ?_ | refine QA rfl rfl (by decide) ?_ | refine QB rfl rfl (by decide) ?_ | refine QC rfl rfl ?_ | refine QD rfl ?_ | refine QE rfl rfl ?_ | refine QF rfl rfl ?_ | refine QG rfl rfl rfl rfl ?_ | refine QH rfl rfl rfl ?_ | refine QI rfl rfl rfl ?_ | refine QJ rfl rfl ?_ | refine QK rfl ?_ | refine QM rfl rfl rfl rfl rfl ?_ | refine QN ?_ | refine QO ?_ | refine QP rfl rfl rfl rfl rfl rfl ?_ | refine QQ rfl rfl rfl rfl rfl rfl rfl rfl rfl rfl rfl ?_ | refine QR rfl rfl rfl rfl rfl rfl rfl rfl rfl rfl rfl rfl ?_); (first | exact QX rfl rfl ⟨rfl, rfl⟩ | exact QY rfl ⟨rfl, rfl⟩ | exact QZ ⟨rfl, rfl⟩ | refine QX rfl rfl ?_ | refine QZ ?_)) | refine Qa rfl ?_ | (refine Qb rfl ?_; try (refine QS rfl rfl rfl rfl rfl rfl rfl ?_; (first | refine QX rfl rfl ?_ | refine QZ ?_))) | refine Qh ?_ | refine Qi rfl ?_ | refine Qj rfl ?_ | (refine Qf rfl rfl rfl ?_; refine QS rfl rfl rfl rfl rfl rfl rfl ?_; (first | refine QX rfl rfl ?_ | refine QZ ?_)) | apply Qg rfl rfl | refine Qk ?_ | refine Ql ?_ | refine Qm ?_ | refine Qn ?_ | refine Qo rfl ?_ | refine Qp rfl ?_ | refine Qq rfl ?_ | refine Qr ?_ | refine Qs ?_ | refine Qt ?_ | refine Qu ?_ | refine Qv ?_ | refine Qw (by kernel_rfl) ?_ | refine Qx rfl (by kernel_rfl) ?_)
      refine st_load_pe rfl rfl (y := boA y) (by simp [hy]) rfl rfl rfl ?_
      first | refine nx rfl rfl ?_ | refine nx0 ?_
      repeat' (first | ((first | refine Qa rfl ?_ | refine Qc rfl rfl rfl ?_ | apply Qd rfl rfl rfl rfl | (apply Qe rfl rfl rfl rfl; intro H9)); (first | refine Q0 ?_ | refine Q1 ?_ | refine Q2 rfl ?_ | refine Q3 rfl rfl rfl ?_ | refine Q4 rfl rfl rfl rfl rfl ?_ | refine Q5 rfl ?_ | refine Q6 rfl ?_ | refine Q7 rfl rfl rfl ?_ | refine Q8 rfl rfl rfl ?_ | refine Q9 rfl rfl rfl rfl ?_ | refine QA rfl rfl (by decide) ?_ | refine QB rfl rfl (by decide) ?_ | refine QC rfl rfl ?_ | refine QD rfl ?_ | refine QE rfl rfl ?_ | refine QF rfl rfl ?_ | refine QG rfl rfl rfl rfl ?_ | refine QH rfl rfl rfl ?_ | refine QI rfl rfl rfl ?_ | refine QJ rfl rfl ?_ | refine QK rfl ?_ | refine QM rfl rfl rfl rfl rfl ?_ | refine QN ?_ | refine QO ?_ | refine QP rfl rfl rfl rfl rfl rfl ?_ | refine QQ rfl rfl rfl rfl rfl rfl rfl rfl rfl rfl rfl ?_ | refine QR rfl rfl rfl rfl rfl rfl rfl rfl rfl rfl rfl rfl ?_); (first | exact QX rfl rfl ⟨rfl, rfl⟩ | exact QY rfl ⟨rfl, rfl⟩ | exact QZ ⟨rfl, rfl⟩ | refine QX rfl rfl ?_ | refine QZ ?_)) | refine Qa rfl ?_ | (refine Qb rfl ?_; try (refine QS rfl rfl rfl rfl rfl rfl rfl ?_; (first | refine QX rfl rfl ?_ | refine QZ ?_))) | refine Qh ?_ | refine Qi rfl ?_ | refine Qj rfl ?_ | (refine Qf rfl rfl rfl ?_; refine QS rfl rfl rfl rfl rfl rfl rfl ?_; (first | refine QX rfl rfl ?_ | refine QZ ?_)) | apply Qg rfl rfl | refine Qk ?_ | refine Ql ?_ | refine Qm ?_ | refine Qn ?_ | refine Qo rfl ?_ | refine Qp rfl ?_ | refine Qq rfl ?_ | refine Qr ?_ | refine Qs ?_ | refine Qt ?_ | refine Qu ?_ | refine Qv ?_ | refine Qw (by kernel_rfl) ?_ | refine Qx rfl (by kernel_rfl) ?_)
      refine awp_cond rfl (fun h4 => ?_) (fun h4 => ?_)
      · have hyf : y = false := by simpa using h4
        have hnx : crRun r.old r.new r.dirt keep ts (j + 1) = (k, img) := by rw [hnext]; simp [crStep, hy, hyf]
        repeat' (first | ((first | refine Qa rfl ?_ | refine Qc rfl rfl rfl ?_ | apply Qd rfl rfl rfl rfl | (apply Qe rfl rfl rfl rfl; intro H9)); (first | refine Q0 ?_ | refine Q1 ?_ | refine Q2 rfl ?_ | refine Q3 rfl rfl rfl ?_ | refine Q4 rfl rfl rfl rfl rfl ?_ | refine Q5 rfl ?_ | refine Q6 rfl ?_ | refine Q7 rfl rfl rfl ?_ | refine Q8 rfl rfl rfl ?_ | refine Q9 rfl rfl rfl rfl ?_ | refine QA rfl rfl (by decide) ?_ | refine QB rfl rfl (by decide) ?_ | refine QC rfl rfl ?_ | refine QD rfl ?_ | refine QE rfl rfl ?_ | refine QF rfl rfl ?_ | refine QG rfl rfl rfl rfl ?_ | refine QH rfl rfl rfl ?_ | refine QI rfl rfl rfl ?_ | refine QJ rfl rfl ?_ | refine QK rfl ?_ | refine QM rfl rfl rfl rfl rfl ?_ | refine QN ?_ | refine QO ?_ | refine QP rfl rfl rfl rfl rfl rfl ?_ | refine QQ rfl rfl rfl rfl rfl rfl rfl rfl rfl rfl rfl ?_ | refine QR rfl rfl rfl rfl rfl rfl rfl rfl rfl rfl rfl rfl ?_); (first | exact QX rfl rfl ⟨rfl, rfl⟩ | exact QY rfl ⟨rfl, rfl⟩ | exact QZ ⟨rfl, rfl⟩ | refine QX rfl rfl ?_ | refine QZ ?_)) | refine Qa rfl ?_ | (refine Qb rfl ?_; try (refine QS rfl rfl rfl rfl rfl rfl rfl ?_; (first | refine QX rfl rfl ?_ | refine QZ ?_))) | refine Qh ?_ | refine Qi rfl ?_ | refine Qj rfl ?_ | (refine Qf rfl rfl rfl ?_; refine QS rfl rfl rfl rfl rfl rfl rfl ?_; (first | refine QX rfl rfl ?_ | refine QZ ?_)) | apply Qg rfl rfl | refine Qk ?_ | refine Ql ?_ | refine Qm ?_ | refine Qn ?_ | refine Qo rfl ?_ | refine Qp rfl ?_ | refine Qq rfl ?_ | refine Qr ?_ | refine Qs ?_ | refine Qt ?_ | refine Qu ?_ | refine Qv ?_ | refine Qw (by kernel_rfl) ?_ | refine Qx rfl (by kernel_rfl) ?_)
        refine ⟨j + 1, by omega, by omega, ?_⟩
        rw [hnx]
        refine imp_cutk 8 (by simp [rdH]) (hok_rds _ _) (by simp only []; rw [rdS_with]; rfl) (by simp) ?_
        repeat' (first | exact fa_nil | refine fa_cons ⟨?_, ?_⟩ ?_)
        all_goals (try first | exact rfl | exact trivial | (simp [IdsLt, IdsLtL]; done) | (simp [get_cons]; done) | (simp [get_cons, *]; done) | (refine congrArg (AV.int .i64) (wrap_eq ?_ ?_ ?_) <;> (first | omega | (simp; omega))))
      · have hyt : y = true := by simpa using h4
        obtain ⟨hb0, hb1⟩ := kept_bound k keep ts
        obtain ⟨n, hn⟩ := Int.eq_ofNat_of_zero_le hb0
        have hn64 : n ≤ 64 := by omega
        have hnx : crRun r.old r.new r.dirt keep ts (j + 1) = (k + 1, cpyN img r.new j n) := by rw [hnext]; simp [crStep, hy, hyt, hn]
        have hsp := spl_cpy (img := img) (new := r.new) (j := j) (n := n) (by omega) (by omega) hn64
        repeat' (first | ((first | refine Qa rfl ?_ | refine Qc rfl rfl rfl ?_ | apply Qd rfl rfl rfl rfl | (apply Qe rfl rfl rfl rfl; intro H9)); (first | refine Q0 ?_ | refine Q1 ?_ | refine Q2 rfl ?_ | refine Q3 rfl rfl rfl ?_ | refine Q4 rfl rfl rfl rfl rfl ?_ | refine Q5 rfl ?_ | refine Q6 rfl ?_ | refine Q7 rfl rfl rfl ?_ | refine Q8 rfl rfl rfl ?_ | refine Q9 rfl rfl rfl rfl ?_ | refine QA rfl rfl (by decide) ?_ | refine QB rfl rfl (by decide) ?_ | refine QC rfl rfl ?_ | refine QD rfl ?_ | refine QE rfl rfl ?_ | refine QF rfl rfl ?_ | refine QG rfl rfl rfl rfl ?_ | refine QH rfl rfl rfl ?_ | refine QI rfl rfl rfl ?_ | refine QJ rfl rfl ?_ | refine QK rfl ?_ | refine QM rfl rfl rfl rfl rfl ?_ | refine QN ?_ | refine QO ?_ | refine QP rfl rfl rfl rfl rfl rfl ?_ | refine QQ rfl rfl rfl rfl rfl rfl rfl rfl rfl rfl rfl ?_ | refine QR rfl rfl rfl rfl rfl rfl rfl rfl rfl rfl rfl rfl ?_); (first | exact QX rfl rfl ⟨rfl, rfl⟩ | exact QY rfl ⟨rfl, rfl⟩ | exact QZ ⟨rfl, rfl⟩ | refine QX rfl rfl ?_ | refine QZ ?_)) | refine Qa rfl ?_ | (refine Qb rfl ?_; try (refine QS rfl rfl rfl rfl rfl rfl rfl ?_; (first | refine QX rfl rfl ?_ | refine QZ ?_))) | refine Qh ?_ | refine Qi rfl ?_ | refine Qj rfl ?_ | (refine Qf rfl rfl rfl ?_; refine QS rfl rfl rfl rfl rfl rfl rfl ?_; (first | refine QX rfl rfl ?_ | refine QZ ?_)) | apply Qg rfl rfl | refine Qk ?_ | refine Ql ?_ | refine Qm ?_ | refine Qn ?_ | refine Qo rfl ?_ | refine Qp rfl ?_ | refine Qq rfl ?_ | refine Qr ?_ | refine Qs ?_ | refine Qt ?_ | refine Qu ?_ | refine Qv ?_ | refine Qw (by kernel_rfl) ?_ | refine Qx rfl (by kernel_rfl) ?_)
        refine st_call (fun _ => rfl) rfl ?_
        refine ACalls.mono (acalls_pure (E := E0 X) (fun X => rkept_c X k keep ts hts) (by simp [IdsLtL, IdsLt]) _) ?_
        rintro r H' ⟨rfl, rfl⟩
        first | refine nx rfl rfl ?_ | refine nx0 ?_
        rw [hn]
        repeat' (first | ((first | refine Qa rfl ?_ | refine Qc rfl rfl rfl ?_ | apply Qd rfl rfl rfl rfl | (apply Qe rfl rfl rfl rfl; intro H9)); (first | refine Q0 ?_ | refine Q1 ?_ | refine Q2 rfl ?_ | refine Q3 rfl rfl rfl ?_ | refine Q4 rfl rfl rfl rfl rfl ?_ | refine Q5 rfl ?_ | refine Q6 rfl ?_ | refine Q7 rfl rfl rfl ?_ | refine Q8 rfl rfl rfl ?_ | refine Q9 rfl rfl rfl rfl ?_ | refine QA rfl rfl (by decide) ?_ | refine QB rfl rfl (by decide) ?_ | refine QC rfl rfl ?_ | refine QD rfl ?_ | refine QE rfl rfl ?_ | refine QF rfl rfl ?_ | refine QG rfl rfl rfl rfl ?_ | refine QH rfl rfl rfl ?_ | refine QI rfl rfl rfl ?_ | refine QJ rfl rfl ?_ | refine QK rfl ?_ | refine QM rfl rfl rfl rfl rfl ?_ | refine QN ?_ | refine QO ?_ | refine QP rfl rfl rfl rfl rfl rfl ?_ | refine QQ rfl rfl rfl rfl rfl rfl rfl rfl rfl rfl rfl ?_ | refine QR rfl rfl rfl rfl rfl rfl rfl rfl rfl rfl rfl rfl ?_); (first | exact QX rfl rfl ⟨rfl, rfl⟩ | exact QY rfl ⟨rfl, rfl⟩ | exact QZ ⟨rfl, rfl⟩ | refine QX rfl rfl ?_ | refine QZ ?_)) | refine Qa rfl ?_ | (refine Qb rfl ?_; try (refine QS rfl rfl rfl rfl rfl rfl rfl ?_; (first | refine QX rfl rfl ?_ | refine QZ ?_))) | refine Qh ?_ | refine Qi rfl ?_ | refine Qj rfl ?_ | (refine Qf rfl rfl rfl ?_; refine QS rfl rfl rfl rfl rfl rfl rfl ?_; (first | refine QX rfl rfl ?_ | refine QZ ?_)) | apply Qg rfl rfl | refine Qk ?_ | refine Ql ?_ | refine Qm ?_ | refine Qn ?_ | refine Qo rfl ?_ | refine Qp rfl ?_ | refine Qq rfl ?_ | refine Qr ?_ | refine Qs ?_ | refine Qt ?_ | refine Qu ?_ | refine Qv ?_ | refine Qw (by kernel_rfl) ?_ | refine Qx rfl (by kernel_rfl) ?_)
        apply ds rfl rfl rfl rfl
        · refine st_slo (l := j * 64) (h := j * 64 + n) (lo' := j * 64) (n' := n) (bnd_some rfl (wr64 (by omega))) (bnd_some rfl (wr64a (by omega) (by simp) (by omega))) (by omega) (by first | omega | (simp; omega)) (by omega) (by omega) rfl rfl rfl rfl rfl rfl rfl ?_
          first
          | exact nx rfl rfl ⟨rfl, rfl⟩
          | exact nx0 ⟨rfl, rfl⟩
        repeat' (first | ((first | refine Qa rfl ?_ | refine Qc rfl rfl rfl ?_ | apply Qd rfl rfl rfl rfl | (apply Qe rfl rfl rfl rfl; intro H9)); (first | refine Q0 ?_ | refine Q1 ?_ | refine Q2 rfl ?_ | refine Q3 rfl rfl rfl ?_ | refine Q4 rfl rfl rfl rfl rfl ?_ | refine Q5 rfl ?_ | refine Q6 rfl ?_ | refine Q7 rfl rfl rfl ?_ | refine Q8 rfl rfl rfl ?_ | refine Q9 rfl rfl rfl rfl ?_ | refine QA rfl rfl (by decide) ?_ | refine QB rfl rfl (by decide) ?_ | refine QC rfl rfl ?_ | refine QD rfl ?_ | refine QE rfl rfl ?_ | refine QF rfl rfl ?_ | refine QG rfl rfl rfl rfl ?_ | refine QH rfl rfl rfl ?_ | refine QI rfl rfl rfl ?_ | refine QJ rfl rfl ?_ | refine QK rfl ?_ | refine QM rfl rfl rfl rfl rfl ?_ | refine QN ?_ | refine QO ?_ | refine QP rfl rfl rfl rfl rfl rfl ?_ | refine QQ rfl rfl rfl rfl rfl rfl rfl rfl rfl rfl rfl ?_ | refine QR rfl rfl rfl rfl rfl rfl rfl rfl rfl rfl rfl rfl ?_); (first | exact QX rfl rfl ⟨rfl, rfl⟩ | exact QY rfl ⟨rfl, rfl⟩ | exact QZ ⟨rfl, rfl⟩ | refine QX rfl rfl ?_ | refine QZ ?_)) | refine Qa rfl ?_ | (refine Qb rfl ?_; try (refine QS rfl rfl rfl rfl rfl rfl rfl ?_; (first | refine QX rfl rfl ?_ | refine QZ ?_))) | refine Qh ?_ | refine Qi rfl ?_ | refine Qj rfl ?_ | (refine Qf rfl rfl rfl ?_; refine QS rfl rfl rfl rfl rfl rfl rfl ?_; (first | refine QX rfl rfl ?_ | refine QZ ?_)) | apply Qg rfl rfl | refine Qk ?_ | refine Ql ?_ | refine Qm ?_ | refine Qn ?_ | refine Qo rfl ?_ | refine Qp rfl ?_ | refine Qq rfl ?_ | refine Qr ?_ | refine Qs ?_ | refine Qt ?_ | refine Qu ?_ | refine Qv ?_ | refine Qw (by kernel_rfl) ?_ | refine Qx rfl (by kernel_rfl) ?_)
        apply ds rfl rfl rfl rfl
        · refine st_slo (l := j * 64) (h := j * 64 + n) (lo' := j * 64) (n' := n) (bnd_some rfl (wr64 (by omega))) (bnd_some rfl (wr64a (by omega) (by simp) (by omega))) (by omega) (by first | omega | (simp; omega)) (by omega) (by omega) rfl rfl rfl rfl rfl rfl rfl ?_
          first
          | exact nx rfl rfl ⟨rfl, rfl⟩
          | exact nx0 ⟨rfl, rfl⟩
        refine ds_ef rfl rfl rfl ?_
        refine st_cpy (out := (cpyN img r.new j n).map u8A) (q := n) (by simp; omega) (src_ownm' rfl rfl rfl (by omega) rfl) (oneEs_u8 _) (by have h1 : (((r.new.drop (j * 64)).take n).map u8A).length = n := by { simp; omega }; rw [h1, Nat.min_self] at hsp ⊢; exact hsp) (by simp; omega) rfl rfl rfl rfl rfl rfl rfl rfl ?_
        first | refine nx rfl rfl ?_ | refine nx0 ?_
        repeat' (first | ((first | refine Qa rfl ?_ | refine Qc rfl rfl rfl ?_ | apply Qd rfl rfl rfl rfl | (apply Qe rfl rfl rfl rfl; intro H9)); (first | refine Q0 ?_ | refine Q1 ?_ | refine Q2 rfl ?_ | refine Q3 rfl rfl rfl ?_ | refine Q4 rfl rfl rfl rfl rfl ?_ | refine Q5 rfl ?_ | refine Q6 rfl ?_ | refine Q7 rfl rfl rfl ?_ | refine Q8 rfl rfl rfl ?_ | refine Q9 rfl rfl rfl rfl ?_ | refine QA rfl rfl (by decide) ?_ | refine QB rfl rfl (by decide) ?_ | refine QC rfl rfl ?_ | refine QD rfl ?_ | refine QE rfl rfl ?_ | refine QF rfl rfl ?_ | refine QG rfl rfl rfl rfl ?_ | refine QH rfl rfl rfl ?_ | refine QI rfl rfl rfl ?_ | refine QJ rfl rfl ?_ | refine QK rfl ?_ | refine QM rfl rfl rfl rfl rfl ?_ | refine QN ?_ | refine QO ?_ | refine QP rfl rfl rfl rfl rfl rfl ?_ | refine QQ rfl rfl rfl rfl rfl rfl rfl rfl rfl rfl rfl ?_ | refine QR rfl rfl rfl rfl rfl rfl rfl rfl rfl rfl rfl rfl ?_); (first | exact QX rfl rfl ⟨rfl, rfl⟩ | exact QY rfl ⟨rfl, rfl⟩ | exact QZ ⟨rfl, rfl⟩ | refine QX rfl rfl ?_ | refine QZ ?_)) | refine Qa rfl ?_ | (refine Qb rfl ?_; try (refine QS rfl rfl rfl rfl rfl rfl rfl ?_; (first | refine QX rfl rfl ?_ | refine QZ ?_))) | refine Qh ?_ | refine Qi rfl ?_ | refine Qj rfl ?_ | (refine Qf rfl rfl rfl ?_; refine QS rfl rfl rfl rfl rfl rfl rfl ?_; (first | refine QX rfl rfl ?_ | refine QZ ?_)) | apply Qg rfl rfl | refine Qk ?_ | refine Ql ?_ | refine Qm ?_ | refine Qn ?_ | refine Qo rfl ?_ | refine Qp rfl ?_ | refine Qq rfl ?_ | refine Qr ?_ | refine Qs ?_ | refine Qt ?_ | refine Qu ?_ | refine Qv ?_ | refine Qw (by kernel_rfl) ?_ | refine Qx rfl (by kernel_rfl) ?_)
        apply ds rfl rfl rfl rfl
        · refine st_slo (l := j * 64) (h := j * 64 + n) (lo' := j * 64) (n' := n) (bnd_some rfl (wr64 (by omega))) (bnd_some rfl (wr64a (by omega) (by simp) (by omega))) (by omega) (by first | omega | (simp; omega)) (by omega) (by omega) rfl rfl rfl rfl rfl rfl rfl ?_
          first
          | exact nx rfl rfl ⟨rfl, rfl⟩
          | exact nx0 ⟨rfl, rfl⟩
        repeat' (first | ((first | refine Qa rfl ?_ | refine Qc rfl rfl rfl ?_ | apply Qd rfl rfl rfl rfl | (apply Qe rfl rfl rfl rfl; intro H9)); (first | refine Q0 ?_ | refine Q1 ?_ | refine Q2 rfl ?_ | refine Q3 rfl rfl rfl ?_ | refine Q4 rfl rfl rfl rfl rfl ?_ | refine Q5 rfl ?_ | refine Q6 rfl ?_ | refine Q7 rfl rfl rfl ?_ | refine Q8 rfl rfl rfl ?_ | refine Q9 rfl rfl rfl rfl ?_ | refine QA rfl rfl (by decide) ?_ | refine QB rfl rfl (by decide) ?_ | refine QC rfl rfl ?_ | refine QD rfl ?_ | refine QE rfl rfl ?_ | refine QF rfl rfl ?_ | refine QG rfl rfl rfl rfl ?_ | refine QH rfl rfl rfl ?_ | refine QI rfl rfl rfl ?_ | refine QJ rfl rfl ?_ | refine QK rfl ?_ | refine QM rfl rfl rfl rfl rfl ?_ | refine QN ?_ | refine QO ?_ | refine QP rfl rfl rfl rfl rfl rfl ?_ | refine QQ rfl rfl rfl rfl rfl rfl rfl rfl rfl rfl rfl ?_ | refine QR rfl rfl rfl rfl rfl rfl rfl rfl rfl rfl rfl rfl ?_); (first | exact QX rfl rfl ⟨rfl, rfl⟩ | exact QY rfl ⟨rfl, rfl⟩ | exact QZ ⟨rfl, rfl⟩ | refine QX rfl rfl ?_ | refine QZ ?_)) | refine Qa rfl ?_ | (refine Qb rfl ?_; try (refine QS rfl rfl rfl rfl rfl rfl rfl ?_; (first | refine QX rfl rfl ?_ | refine QZ ?_))) | refine Qh ?_ | refine Qi rfl ?_ | refine Qj rfl ?_ | (refine Qf rfl rfl rfl ?_; refine QS rfl rfl rfl rfl rfl rfl rfl ?_; (first | refine QX rfl rfl ?_ | refine QZ ?_)) | apply Qg rfl rfl | refine Qk ?_ | refine Ql ?_ | refine Qm ?_ | refine Qn ?_ | refine Qo rfl ?_ | refine Qp rfl ?_ | refine Qq rfl ?_ | refine Qr ?_ | refine Qs ?_ | refine Qt ?_ | refine Qu ?_ | refine Qv ?_ | refine Qw (by kernel_rfl) ?_ | refine Qx rfl (by kernel_rfl) ?_)
        apply ds rfl rfl rfl rfl
        · refine st_slo (l := j * 64) (h := j * 64 + n) (lo' := j * 64) (n' := n) (bnd_some rfl (wr64 (by omega))) (bnd_some rfl (wr64a (by omega) (by simp) (by omega))) (by omega) (by first | omega | (simp; omega)) (by omega) (by omega) rfl rfl rfl rfl rfl rfl rfl ?_
          first
          | exact nx rfl rfl ⟨rfl, rfl⟩
          | exact nx0 ⟨rfl, rfl⟩
        refine ds_ef rfl rfl rfl ?_
        refine st_cpy (out := (cpyN img r.new j n).map u8A) (q := n) (by simp; omega) (src_ownm' rfl rfl rfl (by omega) rfl) (oneEs_u8 _) (by have h1 : (((r.new.drop (j * 64)).take n).map u8A).length = n := by { simp; omega }; rw [h1, Nat.min_self] at hsp ⊢; exact hsp) (by simp; omega) rfl rfl rfl rfl rfl rfl rfl rfl ?_
        first | refine nx rfl rfl ?_ | refine nx0 ?_
        repeat' (first | ((first | refine Qa rfl ?_ | refine Qc rfl rfl rfl ?_ | apply Qd rfl rfl rfl rfl | (apply Qe rfl rfl rfl rfl; intro H9)); (first | refine Q0 ?_ | refine Q1 ?_ | refine Q2 rfl ?_ | refine Q3 rfl rfl rfl ?_ | refine Q4 rfl rfl rfl rfl rfl ?_ | refine Q5 rfl ?_ | refine Q6 rfl ?_ | refine Q7 rfl rfl rfl ?_ | refine Q8 rfl rfl rfl ?_ | refine Q9 rfl rfl rfl rfl ?_ | refine QA rfl rfl (by decide) ?_ | refine QB rfl rfl (by decide) ?_ | refine QC rfl rfl ?_ | refine QD rfl ?_ | refine QE rfl rfl ?_ | refine QF rfl rfl ?_ | refine QG rfl rfl rfl rfl ?_ | refine QH rfl rfl rfl ?_ | refine QI rfl rfl rfl ?_ | refine QJ rfl rfl ?_ | refine QK rfl ?_ | refine QM rfl rfl rfl rfl rfl ?_ | refine QN ?_ | refine QO ?_ | refine QP rfl rfl rfl rfl rfl rfl ?_ | refine QQ rfl rfl rfl rfl rfl rfl rfl rfl rfl rfl rfl ?_ | refine QR rfl rfl rfl rfl rfl rfl rfl rfl rfl rfl rfl rfl ?_); (first | exact QX rfl rfl ⟨rfl, rfl⟩ | exact QY rfl ⟨rfl, rfl⟩ | exact QZ ⟨rfl, rfl⟩ | refine QX rfl rfl ?_ | refine QZ ?_)) | refine Qa rfl ?_ | (refine Qb rfl ?_; try (refine QS rfl rfl rfl rfl rfl rfl rfl ?_; (first | refine QX rfl rfl ?_ | refine QZ ?_))) | refine Qh ?_ | refine Qi rfl ?_ | refine Qj rfl ?_ | (refine Qf rfl rfl rfl ?_; refine QS rfl rfl rfl rfl rfl rfl rfl ?_; (first | refine QX rfl rfl ?_ | refine QZ ?_)) | apply Qg rfl rfl | refine Qk ?_ | refine Ql ?_ | refine Qm ?_ | refine Qn ?_ | refine Qo rfl ?_ | refine Qp rfl ?_ | refine Qq rfl ?_ | refine Qr ?_ | refine Qs ?_ | refine Qt ?_ | refine Qu ?_ | refine Qv ?_ | refine Qw (by kernel_rfl) ?_ | refine Qx rfl (by kernel_rfl) ?_)
        refine ⟨j + 1, by omega, by omega, ?_⟩
        rw [hnx]
        have hlen : (cpyN img r.new j n).length = img.length := cpyN_len (by omega) (by omega) hn64
        refine imp_cutk 8 (by simp [rdH]) (hok_rds _ _) (by simp only []; rw [rdS_with, hlen]; rfl) (by simp) ?_
        repeat' (first | exact fa_nil | refine fa_cons ⟨?_, ?_⟩ ?_)
        all_goals (try first | exact rfl | exact trivial | (simp [IdsLt, IdsLtL]; done) | (simp [get_cons]; done) | (simp [get_cons, *]; done) | (refine congrArg (AV.int .i64) (wrap_eq ?_ ?_ ?_) <;> (first | omega | (simp; omega))))
    · have hj3 : j = r.dirt.length := by omega
      subst hj3
      repeat' (first | ((first | refine Qa rfl ?_ | refine Qc rfl rfl rfl ?_ | apply Qd rfl rfl rfl rfl | (apply Qe rfl rfl rfl rfl; intro H9)); (first | refine Q0 ?_ | refine Q1 ?_ | refine Q2 rfl ?_ | refine Q3 rfl rfl rfl ?_ | refine Q4 rfl rfl rfl rfl rfl ?_ | refine Q5 rfl ?_ | refine Q6 rfl ?_ | refine Q7 rfl rfl rfl ?_ | refine Q8 rfl rfl rfl ?_ | refine Q9 rfl rfl rfl rfl ?_ | refine QA rfl rfl (by decide) ?_ | refine QB rfl rfl (by decide) ?_ | refine QC rfl rfl ?_ | refine QD rfl ?_ | refine QE rfl rfl ?_ | refine QF rfl rfl ?_ | refine QG rfl rfl rfl rfl ?_ | refine QH rfl rfl rfl ?_ | refine QI rfl rfl rfl ?_ | refine QJ rfl rfl ?_ | refine QK rfl ?_ | refine QM rfl rfl rfl rfl rfl ?_ | refine QN ?_ | refine QO ?_ | refine QP rfl rfl rfl rfl rfl rfl ?_ | refine QQ rfl rfl rfl rfl rfl rfl rfl rfl rfl rfl rfl ?_ | refine QR rfl rfl rfl rfl rfl rfl rfl rfl rfl rfl rfl rfl ?_); (first | exact QX rfl rfl ⟨rfl, rfl⟩ | exact QY rfl ⟨rfl, rfl⟩ | exact QZ ⟨rfl, rfl⟩ | refine QX rfl rfl ?_ | refine QZ ?_)) | refine Qa rfl ?_ | (refine Qb rfl ?_; try (refine QS rfl rfl rfl rfl rfl rfl rfl ?_; (first | refine QX rfl rfl ?_ | refine QZ ?_))) | refine Qh ?_ | refine Qi rfl ?_ | refine Qj rfl ?_ | (refine Qf rfl rfl rfl ?_; refine QS rfl rfl rfl rfl rfl rfl rfl ?_; (first | refine QX rfl rfl ?_ | refine QZ ?_)) | apply Qg rfl rfl | refine Qk ?_ | refine Ql ?_ | refine Qm ?_ | refine Qn ?_ | refine Qo rfl ?_ | refine Qp rfl ?_ | refine Qq rfl ?_ | refine Qr ?_ | refine Qs ?_ | refine Qt ?_ | refine Qu ?_ | refine Qv ?_ | refine Qw (by kernel_rfl) ?_ | refine Qx rfl (by kernel_rfl) ?_)
      refine awp_ret ?_
      refine ⟨_, rfl, ?_, ?_⟩
      · rfl
      · have e : r.crash keep ts = rdWith r.old img := by simp only [Rd.crash, hs]; rfl
        rw [e, rdS_with]; rfl
end Go.Abs
namespace Go.Abs
def devS (s : Nat) (v : Dv) : Hp := [some (.cells [.own (1 + s) 0 v.image.length, .mp (2 + s), .int .i64 v.writes, .int .i64 v.fuse, .bool v.dead] 58), some (.arr (v.image.map u8A) 5), some (.map (v.old.map oldA))]
theorem rnA_old {g : Nat → Nat} (p : Int × List UInt8) : rnA g (oldA p).2 = (oldA p).2 := by
  show AV.agg (rnL g (p.2.map u8A)) = _
  rw [rnL_map (fun _ => rfl)]; rfl
theorem rnMap_old {g : Nat → Nat} (l : List (Int × List UInt8)) : ((rnL g ((l.map oldA).map (·.1))).zip (rnL g ((l.map oldA).map (·.2)))) = l.map oldA := by
  induction l with
  | nil => rfl
  | cons p l ih =>
    simp only [List.map_cons, rnL, List.zip_cons_cons, ih]
    rw [rnA_old]
    rfl
theorem mapH_devQ (s q : Nat) (v : Dv) : mapH (sh s q 3) (devH v) = devS s v := by
  simp [mapH, devH, devS, rnO, rnL, rnA, sh, rnL_map (f := u8A) (fun _ => rfl)]
  have := rnMap_old (g := sh s q 3) v.old
  simpa using this
theorem mapH_dev (s : Nat) (v : Dv) : mapH (· + s) (devH v) = devS s v := by
  simp [mapH, devH, devS, rnO, rnL, rnA, rnL_map (f := u8A) (fun _ => rfl)]
  have := rnMap_old (g := (· + s)) v.old
  simpa using this
theorem mapH_rdQ (s q : Nat) (r : Rd) : mapH (sh s q 4) (rdH r) = rdS s r := by
  simp [mapH, rdH, rdS, rnO, rnL, rnA, sh, rnL_map (f := u8A) (fun _ => rfl), rnL_map (f := boA) (fun _ => rfl)]
theorem noFz_dev (v : Dv) : noFzH (devH v) = true := by
  simp only [noFzH, devH, List.all_cons, List.all_nil, noFzO, noFzL, noFz, Bool.and_true, Bool.true_and, Bool.and_eq_true, List.map_map]
  exact ⟨noFz_map (fun _ => rfl) _, noFz_map (f := (fun p : AV × AV => p.1) ∘ oldA) (fun _ => rfl) _, noFz_map (f := (fun p : AV × AV => p.2) ∘ oldA) (fun p => (noFz_map (f := u8A) (fun _ => rfl) p.2 : noFzL (p.2.map u8A) = true)) _⟩
theorem some_dev (v : Dv) : ∀ j : Nat, (devH v)[j]? ≠ some none := fun j => by
  match j with
  | 0 => simp [devH]
  | 1 => simp [devH]
  | 2 => simp [devH]
  | j + 3 => simp [devH]
theorem some_rd (r : Rd) : ∀ j : Nat, (rdH r)[j]? ≠ some none := fun j => by
  match j with
  | 0 => simp [rdH]
  | 1 => simp [rdH]
  | 2 => simp [rdH]
  | 3 => simp [rdH]
  | j + 4 => simp [rdH]
section
variable {X : Nat → Prop} {f : FuncId} {rest : List AV} {r0 : AV}
/-- A device's method, the device s places on. -/
theorem dev_at {v v' : Dv} (hc : ∀ X, ACalls (E0 X) f (.ptr 0 0 :: rest) (devH v) (fun r H' => r = r0 ∧ H' = devH v')) (hrest : IdsLtL 0 rest) (hr : IdsLt 0 r0) (L R : Hp) (s : Nat) (hs : L.length = s) :
    ACalls (E0 X) f (.ptr s 0 :: rest) (L ++ devS s v ++ R) (fun r H' => r = r0 ∧ H' = L ++ devS s v' ++ R) := by
  subst hs
  refine ACalls.conv (ACalls.frameLR (E := E0 X) hc L R (some_dev v) ⟨by simp [IdsLt, devH], ids_mono (Nat.zero_le _) hrest⟩ (hok_dev v)) ?_ (by rw [show (devH v).length = 3 from rfl, mapH_devQ]) ?_
  · show _ :: rnL _ rest = _
    rw [rnL_closed _ hrest]; simp [rnA, sh, devH]
  · rintro r H' ⟨r1, h', ⟨rfl, rfl⟩, -, rfl, rfl⟩
    refine ⟨rn_closed _ hr, ?_⟩
    show L ++ mapH (sh L.length R.length 3) (devH v') ++ R ++ [] = _
    rw [mapH_devQ, List.append_nil]
theorem rd_at {v v' : Rd} (hc : ∀ X, ACalls (E0 X) f (.ptr 0 0 :: rest) (rdH v) (fun r H' => r = r0 ∧ H' = rdH v')) (hrest : IdsLtL 0 rest) (hr : IdsLt 0 r0) (L R : Hp) (s : Nat) (hs : L.length = s) :
    ACalls (E0 X) f (.ptr s 0 :: rest) (L ++ rdS s v ++ R) (fun r H' => r = r0 ∧ H' = L ++ rdS s v' ++ R) := by
  subst hs
  refine ACalls.conv (ACalls.frameLR (E := E0 X) hc L R (some_rd v) ⟨by simp [IdsLt, rdH], ids_mono (Nat.zero_le _) hrest⟩ (hok_rd v)) ?_ (by rw [show (rdH v).length = 4 from rfl, mapH_rdQ]) ?_
  · show _ :: rnL _ rest = _
    rw [rnL_closed _ hrest]; simp [rnA, sh, rdH]
  · rintro r H' ⟨r1, h', ⟨rfl, rfl⟩, -, rfl, rfl⟩
    refine ⟨rn_closed _ hr, ?_⟩
    show L ++ mapH (sh L.length R.length 4) (rdH v') ++ R ++ [] = _
    rw [mapH_rdQ, List.append_nil]
/-- The same with whatever result and new objects behind. -/
theorem dev_new {v : Dv} {P : AV → Hp → Prop} (hc : ∀ X, ACalls (E0 X) f (.ptr 0 0 :: rest) (devH v) P) (hrest : IdsLtL 0 rest) (hP : ∀ r H', P r H' → ∃ v' n, H' = devH v' ++ n) (L R : Hp) (s : Nat) (hs : L.length = s) :
    ACalls (E0 X) f (.ptr s 0 :: rest) (L ++ devS s v ++ R) (fun r H' => ∃ r1 v' n, P r1 (devH v' ++ n) ∧ r = rnA (sh s R.length 3) r1 ∧ H' = L ++ devS s v' ++ R ++ mapH (sh s R.length 3) n) := by
  subst hs
  refine ACalls.conv (ACalls.frameLR (E := E0 X) hc L R (some_dev v) ⟨by simp [IdsLt, devH], ids_mono (Nat.zero_le _) hrest⟩ (hok_dev v)) ?_ (by rw [show (devH v).length = 3 from rfl, mapH_devQ]) ?_
  · show _ :: rnL _ rest = _
    rw [rnL_closed _ hrest]; simp [rnA, sh, devH]
  · rintro r H' ⟨r1, h', hp, -, rfl, rfl⟩
    obtain ⟨v', n, rfl⟩ := hP _ _ hp
    refine ⟨r1, v', n, hp, rfl, ?_⟩
    show L ++ mapH (sh L.length R.length 3) (devH v') ++ R ++ mapH (sh L.length R.length 3) n = _
    rw [mapH_devQ]
theorem rd_new {v : Rd} {P : AV → Hp → Prop} (hc : ∀ X, ACalls (E0 X) f (.ptr 0 0 :: rest) (rdH v) P) (hrest : IdsLtL 0 rest) (hP : ∀ r H', P r H' → ∃ v' n, H' = rdH v' ++ n) (L R : Hp) (s : Nat) (hs : L.length = s) :
    ACalls (E0 X) f (.ptr s 0 :: rest) (L ++ rdS s v ++ R) (fun r H' => ∃ r1 v' n, P r1 (rdH v' ++ n) ∧ r = rnA (sh s R.length 4) r1 ∧ H' = L ++ rdS s v' ++ R ++ mapH (sh s R.length 4) n) := by
  subst hs
  refine ACalls.conv (ACalls.frameLR (E := E0 X) hc L R (some_rd v) ⟨by simp [IdsLt, rdH], ids_mono (Nat.zero_le _) hrest⟩ (hok_rd v)) ?_ (by rw [show (rdH v).length = 4 from rfl, mapH_rdQ]) ?_
  · show _ :: rnL _ rest = _
    rw [rnL_closed _ hrest]; simp [rnA, sh, rdH]
  · rintro r H' ⟨r1, h', hp, -, rfl, rfl⟩
    obtain ⟨v', n, rfl⟩ := hP _ _ hp
    refine ⟨r1, v', n, hp, rfl, ?_⟩
    show L ++ mapH (sh L.length R.length 4) (rdH v') ++ R ++ mapH (sh L.length R.length 4) n = _
    rw [mapH_rdQ]
end
theorem load_at (X : Nat → Prop) (H : Hp) (x : AV) (img : List UInt8) (hl : img.length ≤ 1073741824) (hx : srcA (E0 X) H 1 x = some (img.map u8A)) :
    ACalls (E0 X) 22 [x] H (fun r H' => (LoadOk img.length ∧ r = .ptr H.length 0 ∧ H' = H ++ devS H.length (Dv.fresh img)) ∨ (¬ LoadOk img.length ∧ r = .nilp ∧ H' = H)) := by
  refine (acalls_make (E := E0 X) (P := fun r H' => (LoadOk img.length ∧ r = .ptr 0 0 ∧ H' = devH (Dv.fresh img)) ∨ (¬ LoadOk img.length ∧ r = .nilp ∧ H' = [])) (fun X => load_sl X img hl)
    (fun r h' h => by
      rcases h with ⟨_, rfl, rfl⟩ | ⟨_, rfl, rfl⟩
      · exact ⟨rfl, noFz_dev _⟩
      · exact ⟨rfl, rfl⟩) (Bor.sl (u8_ids _) hx .nil)).mono ?_
  rintro r H' ⟨r0, h', h, rfl, rfl⟩
  rcases h with ⟨h1, rfl, rfl⟩ | ⟨h1, rfl, rfl⟩
  · exact .inl ⟨h1, by simp [rnA], by rw [mapH_dev]⟩
  · exact .inr ⟨h1, rfl, by simp [mapH]⟩
end Go.Abs
namespace Go.Abs
theorem hok_map (es : List (AV × AV)) (h1 : IdsLtL 0 (es.map (·.1))) (h2 : IdsLtL 0 (es.map (·.2))) : HOk 1 [some (.map es)] := fun j o ho => by
  match j, ho with
  | 0, ho => cases ho; exact ⟨ids_mono (Nat.zero_le _) h1, ids_mono (Nat.zero_le _) h2⟩
theorem old_ids (l : List (Int × List UInt8)) : IdsLtL 0 ((l.map oldA).map (·.1)) ∧ IdsLtL 0 ((l.map oldA).map (·.2)) := by
  rw [List.map_map, List.map_map]
  exact ⟨idsL_map fun _ => trivial, idsL_map fun p => (idsL_map (f := u8A) fun _ => u8A_ids : IdsLtL 0 (p.2.map u8A))⟩
attribute [local irreducible] AStep aops AWp Nx awM
set_option maxHeartbeats 0 in
theorem keys_c (X : Nat → Prop) (l : List (Int × List UInt8)) : ACalls (E0 X) 35 [.mp 0] [some (.map (l.map oldA))]
    (fun r H' => r = .clo (.func 43) [] [.ptr 1 0] ∧ H' = [some (.map (l.map oldA)), some (.cells [.mp 0] 56)]) := by
  refine acalls_of Proofs.Try.func35 rfl Proofs.Try.ntmps35 (by kernel_rfl) rfl ?_
  intro hH hargs
  clear hH hargs
  repeat' (first | ((first | refine Qa rfl ?_ | refine Qc rfl rfl rfl ?_ | apply Qd rfl rfl rfl rfl | (apply Qe rfl rfl rfl rfl; intro H9)); (first | refine Q0 ?_ | refine Q1 ?_ | refine Q2 rfl ?_ | refine Q3 rfl rfl rfl ?_ | refine Q4 rfl rfl rfl rfl rfl ?_ | refine Q5 rfl ?_ | refine Q6 rfl ?_ | refine Q7 rfl rfl rfl ?_ | refine Q8 rfl rfl rfl ?_ | refine Q9 rfl rfl rfl rfl ?_ | refine QA rfl rfl (by decide) ?_ | refine QB rfl rfl (by decide) ?_ | refine QC rfl rfl ?_ | refine QD rfl ?_ | refine QE rfl rfl ?_ | refine QF rfl rfl ?_ | refine QG rfl rfl rfl rfl ?_ | refine QH rfl rfl rfl ?_ | refine QI rfl rfl rfl ?_ | refine QJ rfl rfl ?_ | refine QK rfl ?_ | refine QM rfl rfl rfl rfl rfl ?_ | refine QN ?_ | refine QO ?_ | refine QP rfl rfl rfl rfl rfl rfl ?_ | refine QQ rfl rfl rfl rfl rfl rfl rfl rfl rfl rfl rfl ?_ | refine QR rfl rfl rfl rfl rfl rfl rfl rfl rfl rfl rfl rfl ?_); (first | exact QX rfl rfl ⟨rfl, rfl⟩ | exact QY rfl ⟨rfl, rfl⟩ | exact QZ ⟨rfl, rfl⟩ | refine QX rfl rfl ?_ | refine QZ ?_)) | refine Qa rfl ?_ | (refine Qb rfl ?_; try (refine QS rfl rfl rfl rfl rfl rfl rfl ?_; (first | refine QX rfl rfl ?_ | refine QZ ?_))) | refine Qh ?_ | refine Qi rfl ?_ | refine Qj rfl ?_ | (refine Qf rfl rfl rfl ?_; refine QS rfl rfl rfl rfl rfl rfl rfl ?_; (first | refine QX rfl rfl ?_ | refine QZ ?_)) | apply Qg rfl rfl | refine Qk ?_ | refine Ql ?_ | refine Qm ?_ | refine Qn ?_ | refine Qo rfl ?_ | refine Qp rfl ?_ | refine Qq rfl ?_ | refine Qr ?_ | refine Qs ?_ | refine Qt ?_ | refine Qu ?_ | refine Qv ?_ | refine Qw (by kernel_rfl) ?_ | refine Qx rfl (by kernel_rfl) ?_)
  refine awp_ret ?_
  refine ⟨_, rfl, ?_, ?_⟩
  · rfl
  · rfl
theorem keys_at (X : Nat → Prop) (H : Hp) (id : Nat) (l : List (Int × List UInt8)) (ho : H[id]? = some (some (.map (l.map oldA)))) : ACalls (E0 X) 35 [.mp id] H
    (fun r H' => r = .clo (.func 43) [] [.ptr H.length 0] ∧ H' = H ++ [some (.cells [.mp id] 56)]) := by
  have e : rnO (reN [id] H.length) (.map (l.map oldA)) = .map (l.map oldA) := by simp only [rnO]; rw [rnMap_old]
  have h := ACalls.frame (E := E0 X) (fun X => keys_c X l) [id] H (by simp) rfl (fun j => by
    match j with
    | 0 => simp
    | j + 1 => simp) (fun j i o hj hh => by
    match j, hj, hh with
    | 0, hj, hh =>
      simp at hj hh
      subst hj hh
      rw [e]; exact ho) (by simp [IdsLtL, IdsLt]) (hok_map _ (old_ids l).1 (old_ids l).2)
  refine ACalls.mono h ?_
  rintro r H' ⟨r0, h', ⟨rfl, rfl⟩, _, rfl, rfl⟩
  refine ⟨?_, ?_⟩
  · simp [rnA, rnL, reN]
  · simp only [mrg, List.map_cons, List.map_nil, Option.map_some, e, setAll, List.length_cons, List.length_nil, Nat.zero_add, List.drop_succ_cons, List.drop_zero]
    rw [set_same ho]
    simp [rnO, rnL, rnA, reN]
end Go.Abs
namespace Go.Proofs
def Try.keysL_ren : Go.Shelf.Ren := ⟨fun | 10 => 43 | n => n, fun | 33 => 43 | 23 => 56 | 0 => 0 | 4 => 4 | 26 => 3 | 3 => 54 | n => n, fun | n => n⟩
theorem Try.keysL : Go.Proofs.SlLaysZI.n10 Try.prog Try.keysL_ren where
  mixed := by kernel_rfl
  f10 := ⟨Try.f43.name, by kernel_rfl, Try.func43.trans (congrArg some (by kernel_rfl))⟩
  t0 := Try.underlying0
  a0 := Try.isAgg0
  z0 := Try.sizeOf0
  v0 := Try.zeroValue0
  t4 := Try.underlying4
  a4 := Try.isAgg4
  z4 := Try.sizeOf4
  v4 := Try.zeroValue4
  t23 := Try.underlying56
  a23 := Try.isAgg56
  z23 := Try.sizeOf56
  v23 := Try.zeroValue56
  t26 := Try.underlying3
  a26 := Try.isAgg3
  z26 := Try.sizeOf3
  v26 := Try.zeroValue3
  t33 := Try.underlying43
  a33 := Try.isAgg43
  z33 := Try.sizeOf43
  v33 := Try.zeroValue43
def Try.sortedL_ren : Go.Shelf.Ren := ⟨fun | 6 => 34 | 8 => 41 | 9 => 42 | 11 => 46 | 13 => 48 | 12 => 47 | 23 => 58 | 24 => 59 | 14 => 49 | 15 => 50 | 16 => 51 | 17 => 52 | 18 => 53 | 19 => 54 | 20 => 55 | 21 => 56 | 22 => 57 | 25 => 60 | 26 => 61 | 27 => 62 | 28 => 63 | 29 => 64 | 30 => 65 | 31 => 66 | n => n, fun | 26 => 3 | 28 => 63 | 24 => 60 | 0 => 0 | 3 => 3 | 37 => 77 | 48 => 88 | 50 => 90 | 4 => 4 | 40 => 80 | 39 => 79 | 45 => 85 | 5 => 5 | 9 => 9 | 51 => 91 | 55 => 95 | 57 => 97 | 58 => 98 | 33 => 43 | n => n, fun | n => n⟩
theorem Try.sortedL : Go.Proofs.SlLaysZI.n6 Try.prog Try.sortedL_ren where
  mixed := by kernel_rfl
  f6 := ⟨Try.f34.name, by kernel_rfl, Try.func34.trans (congrArg some (by kernel_rfl))⟩
  f8 := ⟨Try.f41.name, by kernel_rfl, Try.func41.trans (congrArg some (by kernel_rfl))⟩
  f11 := ⟨Try.f46.name, by kernel_rfl, Try.func46.trans (congrArg some (by kernel_rfl))⟩
  t0 := Try.underlying0
  a0 := Try.isAgg0
  z0 := Try.sizeOf0
  v0 := Try.zeroValue0
  t24 := Try.underlying60
  a24 := Try.isAgg60
  z24 := Try.sizeOf60
  v24 := Try.zeroValue60
  t26 := Try.underlying3
  a26 := Try.isAgg3
  z26 := Try.sizeOf3
  v26 := Try.zeroValue3
  t28 := Try.underlying63
  a28 := Try.isAgg63
  z28 := Try.sizeOf63
  v28 := Try.zeroValue63
  i26 := by kernel_rfl
def Try.sortL_ren : Go.Shelf.Ren := ⟨fun | 5 => 42 | 8 => 48 | 7 => 47 | 19 => 58 | 20 => 59 | 10 => 49 | 11 => 50 | 12 => 51 | 13 => 52 | 14 => 53 | 15 => 54 | 16 => 55 | 17 => 56 | 18 => 57 | 30 => 60 | 31 => 61 | 32 => 62 | 33 => 63 | 34 => 64 | 35 => 65 | 40 => 66 | n => n, fun | 23 => 60 | 25 => 3 | 3 => 3 | 32 => 77 | 22 => 60 | 0 => 0 | 44 => 88 | 46 => 90 | 4 => 4 | 36 => 80 | 35 => 79 | 41 => 85 | 5 => 5 | 9 => 9 | 53 => 91 | 57 => 95 | 63 => 97 | 64 => 98 | n => n, fun | n => n⟩
theorem Try.sortL : Go.Proofs.SlLaysM.n5 Try.prog Try.sortL_ren where
  mixed := by kernel_rfl
  f5 := ⟨Try.f42.name, by kernel_rfl, Try.func42.trans (congrArg some (by kernel_rfl))⟩
  f7 := ⟨Try.f47.name, by kernel_rfl, Try.func47.trans (congrArg some (by kernel_rfl))⟩
  f8 := Try.func48.trans (congrArg some (by kernel_rfl))
  f10 := ⟨Try.f49.name, by kernel_rfl, Try.func49.trans (congrArg some (by kernel_rfl))⟩
  f11 := ⟨Try.f50.name, by kernel_rfl, Try.func50.trans (congrArg some (by kernel_rfl))⟩
  f12 := ⟨Try.f51.name, by kernel_rfl, Try.func51.trans (congrArg some (by kernel_rfl))⟩
  f13 := ⟨Try.f52.name, by kernel_rfl, Try.func52.trans (congrArg some (by kernel_rfl))⟩
  f14 := ⟨Try.f53.name, by kernel_rfl, Try.func53.trans (congrArg some (by kernel_rfl))⟩
  f15 := ⟨Try.f54.name, by kernel_rfl, Try.func54.trans (congrArg some (by kernel_rfl))⟩
  f16 := ⟨Try.f55.name, by kernel_rfl, Try.func55.trans (congrArg some (by kernel_rfl))⟩
  f17 := ⟨Try.f56.name, by kernel_rfl, Try.func56.trans (congrArg some (by kernel_rfl))⟩
  f18 := ⟨Try.f57.name, by kernel_rfl, Try.func57.trans (congrArg some (by kernel_rfl))⟩
  f19 := Try.func58.trans (congrArg some (by kernel_rfl))
  f20 := Try.func59.trans (congrArg some (by kernel_rfl))
  f30 := ⟨Try.f60.name, by kernel_rfl, Try.func60.trans (congrArg some (by kernel_rfl))⟩
  f31 := Try.func61.trans (congrArg some (by kernel_rfl))
  f32 := Try.func62.trans (congrArg some (by kernel_rfl))
  f33 := ⟨Try.f63.name, by kernel_rfl, Try.func63.trans (congrArg some (by kernel_rfl))⟩
  f34 := ⟨Try.f64.name, by kernel_rfl, Try.func64.trans (congrArg some (by kernel_rfl))⟩
  f35 := ⟨Try.f65.name, by kernel_rfl, Try.func65.trans (congrArg some (by kernel_rfl))⟩
  f40 := ⟨Try.f66.name, by kernel_rfl, Try.func66.trans (congrArg some (by kernel_rfl))⟩
  t0 := Try.underlying0
  a0 := Try.isAgg0
  z0 := Try.sizeOf0
  v0 := Try.zeroValue0
  t3 := Try.underlying3
  a3 := Try.isAgg3
  z3 := Try.sizeOf3
  v3 := Try.zeroValue3
  t4 := Try.underlying4
  a4 := Try.isAgg4
  z4 := Try.sizeOf4
  v4 := Try.zeroValue4
  t5 := Try.underlying5
  a5 := Try.isAgg5
  z5 := Try.sizeOf5
  v5 := Try.zeroValue5
  t9 := Try.underlying9
  a9 := Try.isAgg9
  z9 := Try.sizeOf9
  v9 := Try.zeroValue9
  t22 := Try.underlying60
  a22 := Try.isAgg60
  z22 := Try.sizeOf60
  v22 := Try.zeroValue60
  t23 := Try.underlying60
  a23 := Try.isAgg60
  z23 := Try.sizeOf60
  v23 := Try.zeroValue60
  t25 := Try.underlying3
  a25 := Try.isAgg3
  z25 := Try.sizeOf3
  v25 := Try.zeroValue3
  t32 := Try.underlying77
  a32 := Try.isAgg77
  z32 := Try.sizeOf77
  v32 := Try.zeroValue77
  t35 := Try.underlying79
  a35 := Try.isAgg79
  z35 := Try.sizeOf79
  v35 := Try.zeroValue79
  t36 := Try.underlying80
  a36 := Try.isAgg80
  z36 := Try.sizeOf80
  v36 := Try.zeroValue80
  t41 := Try.underlying85
  a41 := Try.isAgg85
  z41 := Try.sizeOf85
  v41 := Try.zeroValue85
  t44 := Try.underlying88
  a44 := Try.isAgg88
  z44 := Try.sizeOf88
  v44 := Try.zeroValue88
  t46 := Try.underlying90
  a46 := Try.isAgg90
  z46 := Try.sizeOf90
  v46 := Try.zeroValue90
  t53 := Try.underlying91
  a53 := Try.isAgg91
  z53 := Try.sizeOf91
  v53 := Try.zeroValue91
  t57 := Try.underlying95
  a57 := Try.isAgg95
  z57 := Try.sizeOf95
  v57 := Try.zeroValue95
  t63 := Try.underlying97
  a63 := Try.isAgg97
  z63 := Try.sizeOf97
  v63 := Try.zeroValue97
  t64 := Try.underlying98
  a64 := Try.isAgg98
  z64 := Try.sizeOf98
  v64 := Try.zeroValue98
end Go.Proofs
namespace Go.Abs
open Go.Proofs Go.Maps Go.Sort Go.Shelf Go.RowKit
def keysS (l : List (Int × List UInt8)) : List Int := (l.map (·.1)).mergeSort (fun x y => decide (x ≤ y))
/-- slices.Sort's two contracts. -/
theorem sortsL (m : Nat) : AnyZI.SortsIn Proofs.Try.prog Proofs.Try.sortedL_ren Fence.wide m :=
  ⟨fun blk off cap ss W hH hblk hsz => callsIn_wide.2 (AnyM.slices_Sort_int Proofs.Try.sortL blk off cap ss W hH hblk hsz),
   fun p cap W => callsIn_wide.2 (AnyM.slices_Sort_int_none Proofs.Try.sortL p cap W)⟩
/-- How a map's values are read: not at all. -/
def rdNo (_ : Value) : Option (DataW Unit × List MemPlace) := some (.nil, [])
theorem keys_perm {P : Program} {k : TypeId} (hk : P.underlying k = some (.int .i64)) {es : List MapEntry} {ns : List Int} (h : es.map (·.key) = ns.map (Value.int .i64)) (hr : ∀ n ∈ ns, (Lit.int .i64 n).wf = true) :
    (∀ x ∈ es, ∃ y, Go.WideElems.rd P k rdNo x = some y) ∧ (intKeys (.map ((es.map (Go.WideElems.rg P k rdNo)).foldr DataW.insert []))).Perm ns := by
  have hrd : ∀ x ∈ es, ∀ n : Int, x.key = .int .i64 n → (Lit.int .i64 n).wf = true → Go.WideElems.rd P k rdNo x = some (.int .i64 n, .nil) := fun x _ n hx hw => by
    have h1 := keyOf_int_mk hk hw
    simp only [Go.WideElems.rd, hx, h1, rdNo, Option.bind_some, Option.map_some]
  have hall : ∀ (es : List MapEntry) (ns : List Int), es.map (·.key) = ns.map (Value.int .i64) → (∀ n ∈ ns, (Lit.int .i64 n).wf = true) →
      (∀ x ∈ es, ∃ y, Go.WideElems.rd P k rdNo x = some y) ∧ (es.map (Go.WideElems.rg P k rdNo)).map (fun p => Go.intOf p.1) = ns := by
    intro es
    induction es with
    | nil => intro ns h _; cases ns with
      | nil => exact ⟨by simp, rfl⟩
      | cons n ns => simp at h
    | cons x es ih => intro ns h hr; cases ns with
      | nil => simp at h
      | cons n ns =>
        simp only [List.map_cons, List.cons.injEq] at h
        obtain ⟨h1, h2⟩ := ih ns h.2 (fun q hq => hr q (List.mem_cons_of_mem _ hq))
        have h3 : Go.WideElems.rd P k rdNo x = some (.int .i64 n, .nil) := by
          have h4 := keyOf_int_mk hk (hr n (by simp))
          simp only [Go.WideElems.rd, h.1, h4, rdNo, Option.bind_some, Option.map_some]
        refine ⟨fun y hy => ?_, ?_⟩
        · rcases List.mem_cons.1 hy with rfl | hy
          · exact ⟨_, h3⟩
          · exact h1 y hy
        · simp only [List.map_cons]
          rw [h2, Go.WideElems.rg_of h3]; rfl
  obtain ⟨h1, h2⟩ := hall es ns h hr
  refine ⟨h1, ?_⟩
  have h3 := (Go.WideShapes.sorted_perm (es.map (Go.WideElems.rg P k rdNo))).map (fun p => Go.intOf p.1)
  rw [h2] at h3
  exact h3
theorem sorted_at (X : Nat → Prop) (H : Hp) (j id : Nat) (l : List (Int × List UInt8)) (ho : H[id]? = some (some (.map (l.map oldA)))) (hb : H[j]? = some (some (.cells [.mp id] 56)))
    (hnd : (l.map (·.1)).Nodup) (hr : ∀ p ∈ l, 0 ≤ p.1 ∧ p.1 ≤ 1073741824) (hlen : l.length ≤ 1073741824) :
    ACalls (E0 X) 34 [.clo (.func 43) [] [.ptr j 0]] H (fun r H' => r = .own H.length 0 l.length ∧ H' = H ++ [some (.arr ((keysS l).map (.int .i64)) 3)]) := by
  refine ⟨⟨Proofs.Try.f34, Proofs.Try.func34, rfl, by kernel_rfl⟩, fun m w vs hok hglob hargs hsim => ?_⟩
  obtain ⟨v, r, rfl, h1, h2⟩ := relL_cons.1 hargs
  rw [relL_nil] at h2; subst h2
  simp only [Abs.Rel] at h1
  obtain ⟨us, ws, rfl, h3, h4⟩ := h1
  rw [relL_nil] at h3; subst h3
  obtain ⟨u, q, rfl, h5, h6⟩ := relL_cons.1 h4
  rw [relL_nil] at h6; subst h6
  simp only [Abs.Rel] at h5
  obtain ⟨a, rfl, h7, h8⟩ := h5
  obtain ⟨x, hx, hob⟩ := hsim.live j _ hb
  cases x with
  | dead => exact hob.elim
  | nil => exact hob.elim
  | blk bj =>
    obtain ⟨us, hbl, hus⟩ := hob
    obtain ⟨u, q, hu1, hu2, hu3⟩ := relL_cons.1 hus
    rw [relL_nil] at hu3; subst hu3
    simp only [Abs.Rel] at hu2
    obtain ⟨rr, rfl, hm1, hm2⟩ := hu2
    have ha : a = ⟨bj, 0, none⟩ := h8 bj hx
    subst ha
    obtain ⟨y, hy, hob2⟩ := hsim.live id _ ho
    cases y with
    | dead => exact hob2.elim
    | nil => exact hob2.elim
    | blk bm =>
      have hrr : rr = bm := hm2 bm hy
      subst hrr
      obtain ⟨es, clock, hmap, hborn, hbnd, hk, hv⟩ := hob2
      have hk1 : es.toList.map (·.key) = (l.map (·.1)).map (Value.int .i64) := by
        have h9 : (l.map oldA).map (·.1) = (l.map (·.1)).map (AV.int .i64) := by simp [oldA]
        rw [h9] at hk
        exact relL_ints hk
      have hu3 : Proofs.Try.prog.underlying 3 = some (.int .i64) := Proofs.Try.underlying3
      have hwf : ∀ n ∈ l.map (·.1), (Lit.int .i64 n).wf = true := fun n hn => by
        obtain ⟨p, hp, rfl⟩ := List.mem_map.1 hn
        have := hr p hp
        simp [Lit.wf, IntKind.min, IntKind.max, IntKind.bits, IntKind.signed]
        omega
      obtain ⟨hrd, hperm⟩ := keys_perm hu3 hk1 hwf
      have hsz : es.size = l.length := by
        have := congrArg List.length hk1
        simpa using this
      have hinj : ∀ a b : Int, Value.int .i64 a = .int .i64 b → a = b := fun a b h => by simpa using h
      have hfit : Go.WideElems.Fit Proofs.Try.prog 3 rdNo es clock := ⟨by rw [hsz]; show _ ≤ 9223372036854775807; omega, ⟨fun x hx => hborn x (by simpa using hx), hbnd, by
        rw [hk1]
        exact List.pairwise_map.2 (hnd.imp fun h e => h (hinj _ _ e))⟩, hrd⟩
      let D0 : DataW Unit := .map ((es.toList.map (Go.WideElems.rg Proofs.Try.prog 3 rdNo)).foldr DataW.insert [])
      have hown : w.ownsMap Proofs.Try.prog 3 rdNo rr es.size D0 := ⟨es, clock, hmap, hfit, Nat.le_refl _, rfl⟩
      have hDs : Maps.size D0 = l.length := by
        show (List.foldr DataW.insert [] _).length = _
        rw [Go.length_sorted]; simp [hsz]
      have hus' : us = #[.map (some rr)] := by
        apply Array.ext'
        simpa using hu1
      subst hus'
      have hseq : SeqGives Fence.wide 2 Proofs.Try.prog 43 #[.pointer (some ⟨bj, 0, none⟩)] encZ (fun ss => ss.Perm (intKeys D0)) (Maps.size D0) w :=
        AnyZI.keys_gives (ρ := Proofs.Try.keysL_ren) { Proofs.Try.keysL with } Fence.wide _ trivial rfl (by omega) bj rr es.size D0 w (hsim.lt (List.mem_of_getElem? hx)) (by simp [World.cell?, hbl]) hown
      have cS := AnyZI.sorted_in Proofs.Try.sortedL Fence.wide 5 trivial trivial trivial trivial rfl (by omega) (sortsL _) (enters_of Proofs.Try.func42 (by kernel_rfl) rfl) 43 #[.pointer (some ⟨bj, 0, none⟩)] trivial
        (enters_of Proofs.Try.func43 (by kernel_rfl) rfl) _ _ (by rw [hDs]; show _ ≤ 9223372036854775807; omega) (by rw [hDs]; omega) _ hseq
      change CallsIn _ _ Proofs.Try.prog 34 _ _ _ at cS
      refine ((callsIn_wide (n := 5)).1 cS).mono ?_
      rintro e w' ⟨v, ss, rfl, hS, hrow, hnil, hbelow⟩
      have hss : ss.Perm (l.map (·.1)) := hS.trans hperm
      have hms : ss.mergeSort (fun x y => decide (x ≤ y)) = keysS l := mergeSort_of_perm_i hss
      have hsl : ss.length = l.length := by have := hss.length_eq; simpa using this
      rw [hms, hsl] at hrow
      obtain ⟨m', h10, h11, h12⟩ := own_row (E := E0 X) (es := (keysS l).map (.int .i64)) hsim hbelow hrow (by rfl) (fun u hu => by
        obtain ⟨n, _, rfl⟩ := List.mem_map.1 hu; rfl) (fun cx m => by
          have : ∀ ns : List Int, Abs.RelL cx m w' (ns.map (.int .i64)) (ns.map encZ) := fun ns => by
            induction ns with
            | nil => simp [Abs.RelL]
            | cons n ns ih => exact RelL.cons (by simp [Abs.Rel, encZ]) ih
          exact this _) (noFz_map (fun _ => rfl) _)
      exact ⟨v, m', _, _, rfl, h10, h11, h12, rfl, rfl⟩
end Go.Abs
namespace Go.Abs
structure Dv.Inv (v : Dv) : Prop where
  load : LoadOk v.image.length
  nd : (v.old.map (·.1)).Nodup
  sz : ∀ p ∈ v.old, p.2.length = 64
  keys : ∀ p ∈ v.old, 0 ≤ p.1 ∧ p.1 * 64 + 64 ≤ v.image.length
  fuse : v.fuse ≤ 9223372036854775807
theorem Dv.Inv.ok {v : Dv} (h : v.Inv) : v.Ok := ⟨by have := h.load.2.2; omega, h.nd, h.sz, h.fuse⟩
theorem nodup_le : ∀ (n : Nat) (l : List Nat), l.Nodup → (∀ x ∈ l, x < n) → l.length ≤ n
  | 0, l, _, h => by
    cases l with
    | nil => exact Nat.le_refl _
    | cons x l => exact absurd (h x (by simp)) (Nat.not_lt_zero _)
  | n + 1, l, hn, h => by
    by_cases hm : n ∈ l
    · have h1 := nodup_le n (l.erase n) (hn.erase n) (fun x hx => by
        have h2 := (hn.mem_erase_iff).1 hx
        have := h x h2.2
        have := h2.1
        omega)
      rw [List.length_erase_of_mem hm] at h1
      omega
    · have := nodup_le n l hn (fun x hx => by
        have := h x hx
        have : x ≠ n := fun e => hm (e ▸ hx)
        omega)
      omega
theorem Dv.Inv.len {v : Dv} (h : v.Inv) : v.old.length ≤ 1048576 := by
  have h1 := nodup_le 1048576 (v.old.map fun p => p.1.toNat) (List.pairwise_map.2 ((List.pairwise_map.1 h.nd).imp_of_mem fun {a b} ha hb hne e => hne (by
    have := h.keys a ha; have := h.keys b hb; omega))) (fun x hx => by
    obtain ⟨p, hp, rfl⟩ := List.mem_map.1 hx
    have := h.keys p hp
    have := h.load.2.2
    omega)
  simpa using h1
def lookO (l : List (Int × List UInt8)) (i : Int) : List UInt8 := ((l.find? fun p => p.1 == i).map (·.2)).getD []
theorem lookO_at : ∀ {l : List (Int × List UInt8)} {i : Int}, i ∈ l.map (·.1) → (l.map (·.1)).Nodup → ∃ j : Nat, (l.map (·.1))[j]? = some i ∧ l[j]? = some (i, lookO l i)
  | [], _, h, _ => by simp at h
  | p :: l, i, h, hn => by
    simp only [List.map_cons, List.nodup_cons] at hn
    by_cases hp : p.1 = i
    · refine ⟨0, by simp [hp], ?_⟩
      have e : lookO (p :: l) i = p.2 := by
        have hb : (p.1 == i) = true := by simpa using hp
        simp only [lookO, List.find?_cons, hb, Option.map_some, Option.getD_some]
      rw [e, ← hp]; rfl
    · simp only [List.map_cons, List.mem_cons] at h
      obtain ⟨j, h1, h2⟩ := lookO_at (h.resolve_left fun e => hp e.symm) hn.2
      refine ⟨j + 1, by simpa using h1, ?_⟩
      have e : lookO (p :: l) i = lookO l i := by
        have hb : (p.1 == i) = false := by simpa using hp
        simp only [lookO, List.find?_cons, hb]
      rw [e]; simpa using h2
/-- The bytes of sector i from n on out of old. -/
def bkN (img old : List UInt8) (i n : Nat) : List UInt8 := img.take (i * 64 + n) ++ old.drop n ++ img.drop (i * 64 + 64)
theorem bkN_len {img old : List UInt8} {i n : Nat} (h : i * 64 + 64 ≤ img.length) (ho : old.length = 64) (hn : n ≤ 64) : (bkN img old i n).length = img.length := by
  simp [bkN]; omega
def pcStep (old : List (Int × List UInt8)) (keep : List Bool) (ts : List Tr) (img : List UInt8) (k : Nat) : List UInt8 :=
  match (keysS old)[k]? with
  | some i => bkN img (lookO old i) i.toNat (keptN k keep ts).toNat
  | none => img
def pcRun (img : List UInt8) (old : List (Int × List UInt8)) (keep : List Bool) (ts : List Tr) (j : Nat) : List UInt8 := (List.range j).foldl (pcStep old keep ts) img
theorem pcRun_succ {img : List UInt8} {old : List (Int × List UInt8)} {keep : List Bool} {ts : List Tr} {j : Nat} : pcRun img old keep ts (j + 1) = pcStep old keep ts (pcRun img old keep ts j) j := by
  simp [pcRun, List.range_succ]
theorem keysS_perm (l : List (Int × List UInt8)) : (keysS l).Perm (l.map (·.1)) := List.mergeSort_perm _ _
theorem keysS_len (l : List (Int × List UInt8)) : (keysS l).length = l.length := by have := (keysS_perm l).length_eq; simpa using this
theorem keysS_at {v : Dv} (hv : v.Inv) {k : Nat} {i : Int} (h : (keysS v.old)[k]? = some i) : ∃ q : Nat, i = q ∧ q * 64 + 64 ≤ v.image.length ∧ (lookO v.old i).length = 64 ∧ ∃ j : Nat, (v.old.map (·.1))[j]? = some i ∧ v.old[j]? = some (i, lookO v.old i) := by
  have hm : i ∈ v.old.map (·.1) := (keysS_perm v.old).mem_iff.1 (List.mem_of_getElem? h)
  obtain ⟨j, h1, h2⟩ := lookO_at hm hv.nd
  have h3 := hv.keys _ (List.mem_of_getElem? h2)
  have h4 := hv.sz _ (List.mem_of_getElem? h2)
  simp only at h3 h4
  exact ⟨i.toNat, by omega, by omega, h4, j, h1, h2⟩
theorem pcRun_len {v : Dv} (hv : v.Inv) {keep : List Bool} {ts : List Tr} : ∀ j, (pcRun v.image v.old keep ts j).length = v.image.length
  | 0 => rfl
  | j + 1 => by
    have h := pcRun_len hv (keep := keep) (ts := ts) j
    rw [pcRun_succ]
    unfold pcStep
    split
    · rename_i i hi
      obtain ⟨q, rfl, hq, hl, _⟩ := keysS_at hv hi
      have := kept_bound j keep ts
      rw [bkN_len (by simpa [h] using hq) hl (by omega), h]
    · exact h
def Dv.crash (v : Dv) (keep : List Bool) (ts : List Tr) : Dv := Dv.fresh (pcRun v.image v.old keep ts v.old.length)
theorem dev_gen {X : Nat → Prop} {f : FuncId} {rest : List AV} {v : Dv} {P : AV → Hp → Prop} (hc : ∀ X, ACalls (E0 X) f (.ptr 0 0 :: rest) (devH v) P) (hrest : IdsLtL 0 rest) (L R : Hp) (s : Nat) (hs : L.length = s) :
    ACalls (E0 X) f (.ptr s 0 :: rest) (L ++ devS s v ++ R) (fun r H' => ∃ r1 h', P r1 h' ∧ r = rnA (sh s R.length 3) r1 ∧ H' = L ++ mapH (sh s R.length 3) (h'.take 3) ++ R ++ mapH (sh s R.length 3) (h'.drop 3)) := by
  subst hs
  refine ACalls.conv (ACalls.frameLR (E := E0 X) hc L R (some_dev v) ⟨by simp [IdsLt, devH], ids_mono (Nat.zero_le _) hrest⟩ (hok_dev v)) ?_ (by rw [show (devH v).length = 3 from rfl, mapH_devQ]) ?_
  · show _ :: rnL _ rest = _
    rw [rnL_closed _ hrest]; simp [rnA, sh, devH]
  · rintro r H' ⟨r1, h', hp, -, rfl, rfl⟩
    exact ⟨r1, h', hp, rfl, rfl⟩
theorem at_at {X : Nat → Prop} (v : Dv) (i : Nat) (hl : v.image.length ≤ 1073741824) (hi : i * 64 + 64 ≤ v.image.length) (L R : Hp) (s : Nat) (hs : L.length = s) :
    ACalls (E0 X) 32 [.ptr s 0, .int .i64 (i : Int)] (L ++ devS s v ++ R) (fun r H' => r = .own (1 + s) (i * 64) 64 ∧ H' = L ++ devS s v ++ R) := by
  refine (dev_gen (fun X => at_c X v i hl hi) ⟨trivial, trivial⟩ L R s hs).mono ?_
  rintro r H' ⟨r1, h', ⟨rfl, rfl⟩, rfl, rfl⟩
  refine ⟨by simp [rnA, sh], ?_⟩
  show L ++ mapH (sh s R.length 3) (devH v) ++ R ++ [] = _
  rw [mapH_devQ, List.append_nil]
theorem spl_bk {img o : List UInt8} {i n : Nat} (h : i * 64 + 64 ≤ img.length) (ho : o.length = 64) (hn : n ≤ 64) :
    spl (img.map u8A) (i * 64 + n) (((o.drop n).map u8A).take (min (64 - n) ((o.drop n).map u8A).length)) = (bkN img o i n).map u8A := by
  have h1 : ((o.drop n).map u8A).length = 64 - n := by simp; omega
  rw [h1, Nat.min_self, List.take_of_length_le (by omega)]
  unfold spl bkN
  rw [h1]
  have h2 : i * 64 + n + (64 - n) = i * 64 + 64 := by omega
  rw [h2]
  simp only [List.map_append, List.map_take, List.map_drop]
def crH (v : Dv) (img : List UInt8) : Hp := devH v ++ devS 3 (Dv.fresh img) ++ [some (.cells [.mp 2] 56), some (.arr ((keysS v.old).map (.int .i64)) 3)]
theorem crH_eq (v : Dv) (img : List UInt8) : crH v img = devH v ++ [some (.cells [.own 4 0 img.length, .mp 5, .int .i64 0, .int .i64 (-1), .bool false] 58), some (.arr (img.map u8A) 5), some (.map []),
    some (.cells [.mp 2] 56), some (.arr ((keysS v.old).map (.int .i64)) 3)] := by
  simp [crH, devS, Dv.fresh]
theorem hok_cr (v : Dv) (img : List UInt8) : HOk 8 (crH v img) := by
  rw [crH_eq]
  intro j o ho
  match j, ho with
  | 0, ho => cases ho; exact ⟨by simp [IdsLt], by simp [IdsLt], trivial, trivial, trivial, trivial⟩
  | 1, ho => cases ho; exact idsL_map fun _ => u8A_ids
  | 2, ho => cases ho; exact ⟨ids_mono (Nat.zero_le _) (old_ids _).1, ids_mono (Nat.zero_le _) (old_ids _).2⟩
  | 3, ho => cases ho; exact ⟨by simp [IdsLt], by simp [IdsLt], trivial, trivial, trivial, trivial⟩
  | 4, ho => cases ho; exact idsL_map fun _ => u8A_ids
  | 5, ho => cases ho; exact ⟨trivial, trivial⟩
  | 6, ho => cases ho; exact ⟨by simp [IdsLt], trivial⟩
  | 7, ho => cases ho; exact idsL_map fun _ => trivial
attribute [local irreducible] AStep aops AWp Nx awM
set_option maxHeartbeats 0 in
set_option maxRecDepth 100000 in
theorem crash_c (X : Nat → Prop) (v : Dv) (hv : v.Inv) (keep : List Bool) (ts : List Tr) (hts : ts.length ≤ 1073741824) :
    ACalls (E0 X) 13 [.ptr 0 0, .sl 1 (keep.map boA), .sl 2 (ts.map trA)] (devH v) (fun r H' => r = .ptr 3 0 ∧ H'.take 6 = devH v ++ devS 3 (v.crash keep ts)) := by
  have hll := hv.load.2.2
  have hol := hv.len
  refine acalls_of Proofs.Try.func13 rfl Proofs.Try.ntmps13 (by kernel_rfl) rfl ?_
  intro hH hargs
  clear hH hargs
  repeat' (first | ((first | refine Qa rfl ?_ | refine Qc rfl rfl rfl ?_ | apply Qd rfl rfl rfl rfl | (apply Qe rfl rfl rfl rfl; intro H9)); (first | refine Q0 ?_ | refine Q1 ?_ | refine Q2 rfl ?_ | refine Q3 rfl rfl rfl ?_ | refine Q4 rfl rfl rfl rfl rfl ?_ | refine Q5 rfl ?_ | refine Q6 rfl ?_ | refine Q7 rfl rfl rfl ?_ | refine Q8 rfl rfl rfl ?_ | refine Q9 rfl rfl rfl rfl ?_ | refine QA rfl rfl (by decide) ?_ | refine QB rfl rfl (by decide) ?_ | refine QC rfl rfl ?_ | refine QD rfl ?_ | refine QE rfl rfl ?_ | refine QF rfl rfl ?_ | refine QG rfl rfl rfl rfl ?_ | refine QH rfl rfl rfl ?_ | refine QI rfl rfl rfl ?_ | refine QJ rfl rfl ?_ | refine QK rfl ?_ | refine QM rfl rfl rfl rfl rfl ?_ | refine QN ?_ | refine QO ?_ | refine QP rfl rfl rfl rfl rfl rfl ?_ | refine QQ rfl rfl rfl rfl rfl rfl rfl rfl rfl rfl rfl ?_ | refine QR rfl rfl rfl rfl rfl rfl rfl rfl rfl rfl rfl rfl ?_); (first | exact QX rfl rfl ⟨rfl, rfl⟩ | exact QY rfl ⟨rfl, rfl⟩ | exact QZ ⟨rfl, rfl⟩ | refine QX rfl rfl ?_ | refine QZ ?_)) | refine Qa rfl ?_ | (refine Qb rfl ?_; try (refine QS rfl rfl rfl rfl rfl rfl rfl ?_; (first | refine QX rfl rfl ?_ | refine QZ ?_))) | refine Qh ?_ | refine Qi rfl ?_ | refine Qj rfl ?_ | (refine Qf rfl rfl rfl ?_; refine QS rfl rfl rfl rfl rfl rfl rfl ?_; (first | refine QX rfl rfl ?_ | refine QZ ?_)) | apply Qg rfl rfl | refine Qk ?_ | refine Ql ?_ | refine Qm ?_ | refine Qn ?_ | refine Qo rfl ?_ | refine Qp rfl ?_ | refine Qq rfl ?_ | refine Qr ?_ | refine Qs ?_ | refine Qt ?_ | refine Qu ?_ | refine Qv ?_ | refine Qw (by kernel_rfl) ?_ | refine Qx rfl (by kernel_rfl) ?_)
  refine st_call (fun _ => rfl) rfl ?_
  refine ACalls.mono (load_at X (devH v) _ v.image (by omega) (src_ownm' rfl rfl rfl (by simp) (by simp))) ?_
  rintro r H' (⟨-, rfl, rfl⟩ | ⟨hn, -, -⟩)
  rotate_left
  · exact absurd hv.load hn
  first | refine nx rfl rfl ?_ | refine nx0 ?_
  repeat' (first | ((first | refine Qa rfl ?_ | refine Qc rfl rfl rfl ?_ | apply Qd rfl rfl rfl rfl | (apply Qe rfl rfl rfl rfl; intro H9)); (first | refine Q0 ?_ | refine Q1 ?_ | refine Q2 rfl ?_ | refine Q3 rfl rfl rfl ?_ | refine Q4 rfl rfl rfl rfl rfl ?_ | refine Q5 rfl ?_ | refine Q6 rfl ?_ | refine Q7 rfl rfl rfl ?_ | refine Q8 rfl rfl rfl ?_ | refine Q9 rfl rfl rfl rfl ?_ | refine QA rfl rfl (by decide) ?_ | refine QB rfl rfl (by decide) ?_ | refine QC rfl rfl ?_ | refine QD rfl ?_ | refine QE rfl rfl ?_ | refine QF rfl rfl ?_ | refine QG rfl rfl rfl rfl ?_ | refine QH rfl rfl rfl ?_ | refine QI rfl rfl rfl ?_ | refine QJ rfl rfl ?_ | refine QK rfl ?_ | refine QM rfl rfl rfl rfl rfl ?_ | refine QN ?_ | refine QO ?_ | refine QP rfl rfl rfl rfl rfl rfl ?_ | refine QQ rfl rfl rfl rfl rfl rfl rfl rfl rfl rfl rfl ?_ | refine QR rfl rfl rfl rfl rfl rfl rfl rfl rfl rfl rfl rfl ?_); (first | exact QX rfl rfl ⟨rfl, rfl⟩ | exact QY rfl ⟨rfl, rfl⟩ | exact QZ ⟨rfl, rfl⟩ | refine QX rfl rfl ?_ | refine QZ ?_)) | refine Qa rfl ?_ | (refine Qb rfl ?_; try (refine QS rfl rfl rfl rfl rfl rfl rfl ?_; (first | refine QX rfl rfl ?_ | refine QZ ?_))) | refine Qh ?_ | refine Qi rfl ?_ | refine Qj rfl ?_ | (refine Qf rfl rfl rfl ?_; refine QS rfl rfl rfl rfl rfl rfl rfl ?_; (first | refine QX rfl rfl ?_ | refine QZ ?_)) | apply Qg rfl rfl | refine Qk ?_ | refine Ql ?_ | refine Qm ?_ | refine Qn ?_ | refine Qo rfl ?_ | refine Qp rfl ?_ | refine Qq rfl ?_ | refine Qr ?_ | refine Qs ?_ | refine Qt ?_ | refine Qu ?_ | refine Qv ?_ | refine Qw (by kernel_rfl) ?_ | refine Qx rfl (by kernel_rfl) ?_)
  refine st_call (fun _ => rfl) rfl ?_
  refine ACalls.mono (keys_at X _ 2 v.old rfl) ?_
  rintro r H' ⟨rfl, rfl⟩
  first | refine nx rfl rfl ?_ | refine nx0 ?_
  repeat' (first | ((first | refine Qa rfl ?_ | refine Qc rfl rfl rfl ?_ | apply Qd rfl rfl rfl rfl | (apply Qe rfl rfl rfl rfl; intro H9)); (first | refine Q0 ?_ | refine Q1 ?_ | refine Q2 rfl ?_ | refine Q3 rfl rfl rfl ?_ | refine Q4 rfl rfl rfl rfl rfl ?_ | refine Q5 rfl ?_ | refine Q6 rfl ?_ | refine Q7 rfl rfl rfl ?_ | refine Q8 rfl rfl rfl ?_ | refine Q9 rfl rfl rfl rfl ?_ | refine QA rfl rfl (by decide) ?_ | refine QB rfl rfl (by decide) ?_ | refine QC rfl rfl ?_ | refine QD rfl ?_ | refine QE rfl rfl ?_ | refine QF rfl rfl ?_ | refine QG rfl rfl rfl rfl ?_ | refine QH rfl rfl rfl ?_ | refine QI rfl rfl rfl ?_ | refine QJ rfl rfl ?_ | refine QK rfl ?_ | refine QM rfl rfl rfl rfl rfl ?_ | refine QN ?_ | refine QO ?_ | refine QP rfl rfl rfl rfl rfl rfl ?_ | refine QQ rfl rfl rfl rfl rfl rfl rfl rfl rfl rfl rfl ?_ | refine QR rfl rfl rfl rfl rfl rfl rfl rfl rfl rfl rfl rfl ?_); (first | exact QX rfl rfl ⟨rfl, rfl⟩ | exact QY rfl ⟨rfl, rfl⟩ | exact QZ ⟨rfl, rfl⟩ | refine QX rfl rfl ?_ | refine QZ ?_)) | refine Qa rfl ?_ | (refine Qb rfl ?_; try (refine QS rfl rfl rfl rfl rfl rfl rfl ?_; (first | refine QX rfl rfl ?_ | refine QZ ?_))) | refine Qh ?_ | refine Qi rfl ?_ | refine Qj rfl ?_ | (refine Qf rfl rfl rfl ?_; refine QS rfl rfl rfl rfl rfl rfl rfl ?_; (first | refine QX rfl rfl ?_ | refine QZ ?_)) | apply Qg rfl rfl | refine Qk ?_ | refine Ql ?_ | refine Qm ?_ | refine Qn ?_ | refine Qo rfl ?_ | refine Qp rfl ?_ | refine Qq rfl ?_ | refine Qr ?_ | refine Qs ?_ | refine Qt ?_ | refine Qu ?_ | refine Qv ?_ | refine Qw (by kernel_rfl) ?_ | refine Qx rfl (by kernel_rfl) ?_)
  refine st_call (fun _ => rfl) rfl ?_
  refine ACalls.mono (sorted_at X _ 6 2 v.old rfl rfl hv.nd (fun p hp => by have := hv.keys p hp; omega) (by omega)) ?_
  rintro r H' ⟨rfl, rfl⟩
  first | refine nx rfl rfl ?_ | refine nx0 ?_
  repeat' (first | ((first | refine Qa rfl ?_ | refine Qc rfl rfl rfl ?_ | apply Qd rfl rfl rfl rfl | (apply Qe rfl rfl rfl rfl; intro H9)); (first | refine Q0 ?_ | refine Q1 ?_ | refine Q2 rfl ?_ | refine Q3 rfl rfl rfl ?_ | refine Q4 rfl rfl rfl rfl rfl ?_ | refine Q5 rfl ?_ | refine Q6 rfl ?_ | refine Q7 rfl rfl rfl ?_ | refine Q8 rfl rfl rfl ?_ | refine Q9 rfl rfl rfl rfl ?_ | refine QA rfl rfl (by decide) ?_ | refine QB rfl rfl (by decide) ?_ | refine QC rfl rfl ?_ | refine QD rfl ?_ | refine QE rfl rfl ?_ | refine QF rfl rfl ?_ | refine QG rfl rfl rfl rfl ?_ | refine QH rfl rfl rfl ?_ | refine QI rfl rfl rfl ?_ | refine QJ rfl rfl ?_ | refine QK rfl ?_ | refine QM rfl rfl rfl rfl rfl ?_ | refine QN ?_ | refine QO ?_ | refine QP rfl rfl rfl rfl rfl rfl ?_ | refine QQ rfl rfl rfl rfl rfl rfl rfl rfl rfl rfl rfl ?_ | refine QR rfl rfl rfl rfl rfl rfl rfl rfl rfl rfl rfl rfl ?_); (first | exact QX rfl rfl ⟨rfl, rfl⟩ | exact QY rfl ⟨rfl, rfl⟩ | exact QZ ⟨rfl, rfl⟩ | refine QX rfl rfl ?_ | refine QZ ?_)) | refine Qa rfl ?_ | (refine Qb rfl ?_; try (refine QS rfl rfl rfl rfl rfl rfl rfl ?_; (first | refine QX rfl rfl ?_ | refine QZ ?_))) | refine Qh ?_ | refine Qi rfl ?_ | refine Qj rfl ?_ | (refine Qf rfl rfl rfl ?_; refine QS rfl rfl rfl rfl rfl rfl rfl ?_; (first | refine QX rfl rfl ?_ | refine QZ ?_)) | apply Qg rfl rfl | refine Qk ?_ | refine Ql ?_ | refine Qm ?_ | refine Qn ?_ | refine Qo rfl ?_ | refine Qp rfl ?_ | refine Qq rfl ?_ | refine Qr ?_ | refine Qs ?_ | refine Qt ?_ | refine Qu ?_ | refine Qv ?_ | refine Qw (by kernel_rfl) ?_ | refine Qx rfl (by kernel_rfl) ?_)
  refine awp_loop2 (fun j : Nat => ⟨[(0, .ptr 0 0), (1, .sl 1 (keep.map boA)), (2, .sl 2 (ts.map trA)), (7, .ptr 3 0), (24, .own 7 0 v.old.length), (25, .int .i64 v.old.length), (26, .int .i64 j)], crH v (pcRun v.image v.old keep ts j)⟩)
    (fun j => j ≤ v.old.length) (fun j => v.old.length - j) 0 (Nat.zero_le _) ?_ ?_
  · refine imp_cutk 8 (by simp [devH]) (hok_cr _ _) rfl (by simp) ?_
    repeat' (first | exact fa_nil | refine fa_cons ⟨?_, ?_⟩ ?_)
    all_goals (try first | exact rfl | exact trivial | (simp [IdsLt, IdsLtL]; done) | (simp [get_cons]; done) | (simp [get_cons, *]; done) | (refine congrArg (AV.int .i64) (wrap_eq ?_ ?_ ?_) <;> (first | omega | (simp; omega))))
  · rintro j hj
    have hpl := pcRun_len hv (keep := keep) (ts := ts) j
    have hnext := pcRun_succ (img := v.image) (old := v.old) (keep := keep) (ts := ts) (j := j)
    generalize himg : pcRun v.image v.old keep ts j = img at *
    show AWp _ _ _ _ _ ⟨[(0, .ptr 0 0), (1, .sl 1 (keep.map boA)), (2, .sl 2 (ts.map trA)), (7, .ptr 3 0), (24, .own 7 0 v.old.length), (25, .int .i64 v.old.length), (26, .int .i64 j)], crH v img⟩
    rw [crH_eq]
    repeat' (first | ((first | refine Qa rfl ?_ | refine Qc rfl rfl rfl ?_ | apply Qd rfl rfl rfl rfl | (apply Qe rfl rfl rfl rfl; intro H9)); (first | refine Q0 ?_ | refine Q1 ?_ | refine Q2 rfl ?_ | refine Q3 rfl rfl rfl ?_ | refine Q4 rfl rfl rfl rfl rfl ?_ | refine Q5 rfl ?_ | refine Q6 rfl ?_ | refine Q7 rfl rfl rfl ?_ | refine Q8 rfl rfl rfl ?_ | refine Q9 rfl rfl rfl rfl ?_ | refine QA rfl rfl (by decide) ?_ | refine QB rfl rfl (by decide) ?_ | refine QC rfl rfl ?_ | refine QD rfl ?_ | refine QE rfl rfl ?_ | refine QF rfl rfl ?_ | refine QG rfl rfl rfl rfl ?_ | refine QH rfl rfl rfl ?_ | refine QI rfl rfl rfl ?_ | refine QJ rfl rfl ?_ | refine QK rfl ?_ | refine QM rfl rfl rfl rfl rfl ?_ | refine QN ?_ | refine QO ?_ | refine QP rfl rfl rfl rfl rfl rfl ?_ | refine QQ rfl rfl rfl rfl rfl rfl rfl rfl rfl rfl rfl ?_ | refine QR rfl rfl rfl rfl rfl rfl rfl rfl rfl rfl rfl rfl ?_); (first | exact QX rfl rfl ⟨rfl, rfl⟩ | exact QY rfl ⟨rfl, rfl⟩ | exact QZ ⟨rfl, rfl⟩ | refine QX rfl rfl ?_ | refine QZ ?_)) | refine Qa rfl ?_ | (refine Qb rfl ?_; try (refine QS rfl rfl rfl rfl rfl rfl rfl ?_; (first | refine QX rfl rfl ?_ | refine QZ ?_))) | refine Qh ?_ | refine Qi rfl ?_ | refine Qj rfl ?_ | (refine Qf rfl rfl rfl ?_; refine QS rfl rfl rfl rfl rfl rfl rfl ?_; (first | refine QX rfl rfl ?_ | refine QZ ?_)) | apply Qg rfl rfl | refine Qk ?_ | refine Ql ?_ | refine Qm ?_ | refine Qn ?_ | refine Qo rfl ?_ | refine Qp rfl ?_ | refine Qq rfl ?_ | refine Qr ?_ | refine Qs ?_ | refine Qt ?_ | refine Qu ?_ | refine Qv ?_ | refine Qw (by kernel_rfl) ?_ | refine Qx rfl (by kernel_rfl) ?_)
    refine awp_cond_dec rfl (fun h3 => ?_) (fun h3 => ?_)
    · have hj3 : j < v.old.length := by omega
      obtain ⟨i, hi⟩ : ∃ i, (keysS v.old)[j]? = some i := ⟨_, List.getElem?_eq_getElem (by rw [keysS_len]; exact hj3)⟩
      obtain ⟨q, rfl, hq, ho64, jj, hjj, hold⟩ := keysS_at hv hi
      obtain ⟨hb0, hb1⟩ := kept_bound j keep ts
      obtain ⟨n, hn⟩ := Int.eq_ofNat_of_zero_le hb0
      have hn64 : n ≤ 64 := by omega
      have hnx : pcRun v.image v.old keep ts (j + 1) = bkN img (lookO v.old q) q n := by rw [hnext]; simp [pcStep, hi, hn]
      generalize hoo : lookO v.old q = o at *
      have hsp := spl_bk (img := img) (o := o) (i := q) (n := n) (by omega) ho64 hn64
      have hbl : (bkN img o q n).length = img.length := bkN_len (by omega) ho64 hn64
      have hns : (v.old.map oldA).map (·.1) = (v.old.map (·.1)).map (AV.int .i64) := by simp [oldA]
      have hy : ((v.old.map oldA).map (·.2))[jj]? = some (.agg (o.map u8A)) := by simp [hold, oldA]
      repeat' (first | ((first | refine Qa rfl ?_ | refine Qc rfl rfl rfl ?_ | apply Qd rfl rfl rfl rfl | (apply Qe rfl rfl rfl rfl; intro H9)); (first | refine Q0 ?_ | refine Q1 ?_ | refine Q2 rfl ?_ | refine Q3 rfl rfl rfl ?_ | refine Q4 rfl rfl rfl rfl rfl ?_ | refine Q5 rfl ?_ | refine Q6 rfl ?_ | refine Q7 rfl rfl rfl ?_ | refine Q8 rfl rfl rfl ?_ | refine Q9 rfl rfl rfl rfl ?_ | refine QA rfl rfl (by decide) ?_ | refine QB rfl rfl (by decide) ?_ | refine QC rfl rfl ?_ | refine QD rfl ?_ | refine QE rfl rfl ?_ | refine QF rfl rfl ?_ | refine QG rfl rfl rfl rfl ?_ | refine QH rfl rfl rfl ?_ | refine QI rfl rfl rfl ?_ | refine QJ rfl rfl ?_ | refine QK rfl ?_ | refine QM rfl rfl rfl rfl rfl ?_ | refine QN ?_ | refine QO ?_ | refine QP rfl rfl rfl rfl rfl rfl ?_ | refine QQ rfl rfl rfl rfl rfl rfl rfl rfl rfl rfl rfl ?_ | refine QR rfl rfl rfl rfl rfl rfl rfl rfl rfl rfl rfl rfl ?_); (first | exact QX rfl rfl ⟨rfl, rfl⟩ | exact QY rfl ⟨rfl, rfl⟩ | exact QZ ⟨rfl, rfl⟩ | refine QX rfl rfl ?_ | refine QZ ?_)) | refine Qa rfl ?_ | (refine Qb rfl ?_; try (refine QS rfl rfl rfl rfl rfl rfl rfl ?_; (first | refine QX rfl rfl ?_ | refine QZ ?_))) | refine Qh ?_ | refine Qi rfl ?_ | refine Qj rfl ?_ | (refine Qf rfl rfl rfl ?_; refine QS rfl rfl rfl rfl rfl rfl rfl ?_; (first | refine QX rfl rfl ?_ | refine QZ ?_)) | apply Qg rfl rfl | refine Qk ?_ | refine Ql ?_ | refine Qm ?_ | refine Qn ?_ | refine Qo rfl ?_ | refine Qp rfl ?_ | refine Qq rfl ?_ | refine Qr ?_ | refine Qs ?_ | refine Qt ?_ | refine Qu ?_ | refine Qv ?_ | refine Qw (by kernel_rfl) ?_ | refine Qx rfl (by kernel_rfl) ?_)
      refine st_ixo (j := j) (p := j) (rfl) (by first | omega | assumption | (simp; omega)) (by omega) rfl rfl rfl rfl rfl rfl rfl rfl ?_
      first | refine nx rfl rfl ?_ | refine nx0 ?_
      repeat' (first | ((first | refine Qa rfl ?_ | refine Qc rfl rfl rfl ?_ | apply Qd rfl rfl rfl rfl | (apply Qe rfl rfl rfl rfl; intro H9)); (first | refine Q0 ?_ | refine Q1 ?_ | refine Q2 rfl ?_ | refine Q3 rfl rfl rfl ?_ | refine Q4 rfl rfl rfl rfl rfl ?_ | refine Q5 rfl ?_ | refine Q6 rfl ?_ | refine Q7 rfl rfl rfl ?_ | refine Q8 rfl rfl rfl ?_ | refine Q9 rfl rfl rfl rfl ?_ | refine QA rfl rfl (by decide) ?_ | refine QB rfl rfl (by decide) ?_ | refine QC rfl rfl ?_ | refine QD rfl ?_ | refine QE rfl rfl ?_ | refine QF rfl rfl ?_ | refine QG rfl rfl rfl rfl ?_ | refine QH rfl rfl rfl ?_ | refine QI rfl rfl rfl ?_ | refine QJ rfl rfl ?_ | refine QK rfl ?_ | refine QM rfl rfl rfl rfl rfl ?_ | refine QN ?_ | refine QO ?_ | refine QP rfl rfl rfl rfl rfl rfl ?_ | refine QQ rfl rfl rfl rfl rfl rfl rfl rfl rfl rfl rfl ?_ | refine QR rfl rfl rfl rfl rfl rfl rfl rfl rfl rfl rfl rfl ?_); (first | exact QX rfl rfl ⟨rfl, rfl⟩ | exact QY rfl ⟨rfl, rfl⟩ | exact QZ ⟨rfl, rfl⟩ | refine QX rfl rfl ?_ | refine QZ ?_)) | refine Qa rfl ?_ | (refine Qb rfl ?_; try (refine QS rfl rfl rfl rfl rfl rfl rfl ?_; (first | refine QX rfl rfl ?_ | refine QZ ?_))) | refine Qh ?_ | refine Qi rfl ?_ | refine Qj rfl ?_ | (refine Qf rfl rfl rfl ?_; refine QS rfl rfl rfl rfl rfl rfl rfl ?_; (first | refine QX rfl rfl ?_ | refine QZ ?_)) | apply Qg rfl rfl | refine Qk ?_ | refine Ql ?_ | refine Qm ?_ | refine Qn ?_ | refine Qo rfl ?_ | refine Qp rfl ?_ | refine Qq rfl ?_ | refine Qr ?_ | refine Qs ?_ | refine Qt ?_ | refine Qu ?_ | refine Qv ?_ | refine Qw (by kernel_rfl) ?_ | refine Qx rfl (by kernel_rfl) ?_)
      refine st_load_pe rfl rfl (y := .int .i64 (q : Int)) (by simp [hi]) rfl rfl rfl ?_
      first | refine nx rfl rfl ?_ | refine nx0 ?_
      repeat' (first | ((first | refine Qa rfl ?_ | refine Qc rfl rfl rfl ?_ | apply Qd rfl rfl rfl rfl | (apply Qe rfl rfl rfl rfl; intro H9)); (first | refine Q0 ?_ | refine Q1 ?_ | refine Q2 rfl ?_ | refine Q3 rfl rfl rfl ?_ | refine Q4 rfl rfl rfl rfl rfl ?_ | refine Q5 rfl ?_ | refine Q6 rfl ?_ | refine Q7 rfl rfl rfl ?_ | refine Q8 rfl rfl rfl ?_ | refine Q9 rfl rfl rfl rfl ?_ | refine QA rfl rfl (by decide) ?_ | refine QB rfl rfl (by decide) ?_ | refine QC rfl rfl ?_ | refine QD rfl ?_ | refine QE rfl rfl ?_ | refine QF rfl rfl ?_ | refine QG rfl rfl rfl rfl ?_ | refine QH rfl rfl rfl ?_ | refine QI rfl rfl rfl ?_ | refine QJ rfl rfl ?_ | refine QK rfl ?_ | refine QM rfl rfl rfl rfl rfl ?_ | refine QN ?_ | refine QO ?_ | refine QP rfl rfl rfl rfl rfl rfl ?_ | refine QQ rfl rfl rfl rfl rfl rfl rfl rfl rfl rfl rfl ?_ | refine QR rfl rfl rfl rfl rfl rfl rfl rfl rfl rfl rfl rfl ?_); (first | exact QX rfl rfl ⟨rfl, rfl⟩ | exact QY rfl ⟨rfl, rfl⟩ | exact QZ ⟨rfl, rfl⟩ | refine QX rfl rfl ?_ | refine QZ ?_)) | refine Qa rfl ?_ | (refine Qb rfl ?_; try (refine QS rfl rfl rfl rfl rfl rfl rfl ?_; (first | refine QX rfl rfl ?_ | refine QZ ?_))) | refine Qh ?_ | refine Qi rfl ?_ | refine Qj rfl ?_ | (refine Qf rfl rfl rfl ?_; refine QS rfl rfl rfl rfl rfl rfl rfl ?_; (first | refine QX rfl rfl ?_ | refine QZ ?_)) | apply Qg rfl rfl | refine Qk ?_ | refine Ql ?_ | refine Qm ?_ | refine Qn ?_ | refine Qo rfl ?_ | refine Qp rfl ?_ | refine Qq rfl ?_ | refine Qr ?_ | refine Qs ?_ | refine Qt ?_ | refine Qu ?_ | refine Qv ?_ | refine Qw (by kernel_rfl) ?_ | refine Qx rfl (by kernel_rfl) ?_)
      refine st_lookup_hit rfl rfl rfl rfl rfl rfl hns hv.nd rfl hjj hy ?_
      show Nx _ (.agg (o.map u8A)) _
      refine nx0 ?_
      repeat' (first | ((first | refine Qa rfl ?_ | refine Qc rfl rfl rfl ?_ | apply Qd rfl rfl rfl rfl | (apply Qe rfl rfl rfl rfl; intro H9)); (first | refine Q0 ?_ | refine Q1 ?_ | refine Q2 rfl ?_ | refine Q3 rfl rfl rfl ?_ | refine Q4 rfl rfl rfl rfl rfl ?_ | refine Q5 rfl ?_ | refine Q6 rfl ?_ | refine Q7 rfl rfl rfl ?_ | refine Q8 rfl rfl rfl ?_ | refine Q9 rfl rfl rfl rfl ?_ | refine QA rfl rfl (by decide) ?_ | refine QB rfl rfl (by decide) ?_ | refine QC rfl rfl ?_ | refine QD rfl ?_ | refine QE rfl rfl ?_ | refine QF rfl rfl ?_ | refine QG rfl rfl rfl rfl ?_ | refine QH rfl rfl rfl ?_ | refine QI rfl rfl rfl ?_ | refine QJ rfl rfl ?_ | refine QK rfl ?_ | refine QM rfl rfl rfl rfl rfl ?_ | refine QN ?_ | refine QO ?_ | refine QP rfl rfl rfl rfl rfl rfl ?_ | refine QQ rfl rfl rfl rfl rfl rfl rfl rfl rfl rfl rfl ?_ | refine QR rfl rfl rfl rfl rfl rfl rfl rfl rfl rfl rfl rfl ?_); (first | exact QX rfl rfl ⟨rfl, rfl⟩ | exact QY rfl ⟨rfl, rfl⟩ | exact QZ ⟨rfl, rfl⟩ | refine QX rfl rfl ?_ | refine QZ ?_)) | refine Qa rfl ?_ | (refine Qb rfl ?_; try (refine QS rfl rfl rfl rfl rfl rfl rfl ?_; (first | refine QX rfl rfl ?_ | refine QZ ?_))) | refine Qh ?_ | refine Qi rfl ?_ | refine Qj rfl ?_ | (refine Qf rfl rfl rfl ?_; refine QS rfl rfl rfl rfl rfl rfl rfl ?_; (first | refine QX rfl rfl ?_ | refine QZ ?_)) | apply Qg rfl rfl | refine Qk ?_ | refine Ql ?_ | refine Qm ?_ | refine Qn ?_ | refine Qo rfl ?_ | refine Qp rfl ?_ | refine Qq rfl ?_ | refine Qr ?_ | refine Qs ?_ | refine Qt ?_ | refine Qu ?_ | refine Qv ?_ | refine Qw (by kernel_rfl) ?_ | refine Qx rfl (by kernel_rfl) ?_)
      apply st_store_ptr rfl rfl rfl
      · show Nat.beq (o.map u8A).length 64 = true
        simp [ho64]
      · show (o.map u8A).all oneA = true
        exact List.all_eq_true.2 (u8_oneA o)
      · rfl
      · show Nat.ble (0 + (o.map u8A).length) 64 = true
        simp [ho64]
      have hset : spl (List.replicate 64 (AV.int .u8 0)) 0 (o.map u8A) = o.map u8A := by
        unfold spl
        rw [List.drop_of_length_le (by simp [ho64])]
        simp
      show Nx _ _ (List.set _ 8 (some (.cells (spl (List.replicate 64 (AV.int .u8 0)) 0 (o.map u8A)) _)))
      rw [hset]
      refine nx0 ?_
      repeat' (first | ((first | refine Qa rfl ?_ | refine Qc rfl rfl rfl ?_ | apply Qd rfl rfl rfl rfl | (apply Qe rfl rfl rfl rfl; intro H9)); (first | refine Q0 ?_ | refine Q1 ?_ | refine Q2 rfl ?_ | refine Q3 rfl rfl rfl ?_ | refine Q4 rfl rfl rfl rfl rfl ?_ | refine Q5 rfl ?_ | refine Q6 rfl ?_ | refine Q7 rfl rfl rfl ?_ | refine Q8 rfl rfl rfl ?_ | refine Q9 rfl rfl rfl rfl ?_ | refine QA rfl rfl (by decide) ?_ | refine QB rfl rfl (by decide) ?_ | refine QC rfl rfl ?_ | refine QD rfl ?_ | refine QE rfl rfl ?_ | refine QF rfl rfl ?_ | refine QG rfl rfl rfl rfl ?_ | refine QH rfl rfl rfl ?_ | refine QI rfl rfl rfl ?_ | refine QJ rfl rfl ?_ | refine QK rfl ?_ | refine QM rfl rfl rfl rfl rfl ?_ | refine QN ?_ | refine QO ?_ | refine QP rfl rfl rfl rfl rfl rfl ?_ | refine QQ rfl rfl rfl rfl rfl rfl rfl rfl rfl rfl rfl ?_ | refine QR rfl rfl rfl rfl rfl rfl rfl rfl rfl rfl rfl rfl ?_); (first | exact QX rfl rfl ⟨rfl, rfl⟩ | exact QY rfl ⟨rfl, rfl⟩ | exact QZ ⟨rfl, rfl⟩ | refine QX rfl rfl ?_ | refine QZ ?_)) | refine Qa rfl ?_ | (refine Qb rfl ?_; try (refine QS rfl rfl rfl rfl rfl rfl rfl ?_; (first | refine QX rfl rfl ?_ | refine QZ ?_))) | refine Qh ?_ | refine Qi rfl ?_ | refine Qj rfl ?_ | (refine Qf rfl rfl rfl ?_; refine QS rfl rfl rfl rfl rfl rfl rfl ?_; (first | refine QX rfl rfl ?_ | refine QZ ?_)) | apply Qg rfl rfl | refine Qk ?_ | refine Ql ?_ | refine Qm ?_ | refine Qn ?_ | refine Qo rfl ?_ | refine Qp rfl ?_ | refine Qq rfl ?_ | refine Qr ?_ | refine Qs ?_ | refine Qt ?_ | refine Qu ?_ | refine Qv ?_ | refine Qw (by kernel_rfl) ?_ | refine Qx rfl (by kernel_rfl) ?_)
      refine st_call (fun _ => rfl) rfl ?_
      refine ACalls.mono (acalls_pure (E := E0 X) (fun X => kept_c X j keep ts hts) (by simp [IdsLtL, IdsLt]) _) ?_
      rintro r H' ⟨rfl, rfl⟩
      first | refine nx rfl rfl ?_ | refine nx0 ?_
      rw [hn]
      repeat' (first | ((first | refine Qa rfl ?_ | refine Qc rfl rfl rfl ?_ | apply Qd rfl rfl rfl rfl | (apply Qe rfl rfl rfl rfl; intro H9)); (first | refine Q0 ?_ | refine Q1 ?_ | refine Q2 rfl ?_ | refine Q3 rfl rfl rfl ?_ | refine Q4 rfl rfl rfl rfl rfl ?_ | refine Q5 rfl ?_ | refine Q6 rfl ?_ | refine Q7 rfl rfl rfl ?_ | refine Q8 rfl rfl rfl ?_ | refine Q9 rfl rfl rfl rfl ?_ | refine QA rfl rfl (by decide) ?_ | refine QB rfl rfl (by decide) ?_ | refine QC rfl rfl ?_ | refine QD rfl ?_ | refine QE rfl rfl ?_ | refine QF rfl rfl ?_ | refine QG rfl rfl rfl rfl ?_ | refine QH rfl rfl rfl ?_ | refine QI rfl rfl rfl ?_ | refine QJ rfl rfl ?_ | refine QK rfl ?_ | refine QM rfl rfl rfl rfl rfl ?_ | refine QN ?_ | refine QO ?_ | refine QP rfl rfl rfl rfl rfl rfl ?_ | refine QQ rfl rfl rfl rfl rfl rfl rfl rfl rfl rfl rfl ?_ | refine QR rfl rfl rfl rfl rfl rfl rfl rfl rfl rfl rfl rfl ?_); (first | exact QX rfl rfl ⟨rfl, rfl⟩ | exact QY rfl ⟨rfl, rfl⟩ | exact QZ ⟨rfl, rfl⟩ | refine QX rfl rfl ?_ | refine QZ ?_)) | refine Qa rfl ?_ | (refine Qb rfl ?_; try (refine QS rfl rfl rfl rfl rfl rfl rfl ?_; (first | refine QX rfl rfl ?_ | refine QZ ?_))) | refine Qh ?_ | refine Qi rfl ?_ | refine Qj rfl ?_ | (refine Qf rfl rfl rfl ?_; refine QS rfl rfl rfl rfl rfl rfl rfl ?_; (first | refine QX rfl rfl ?_ | refine QZ ?_)) | apply Qg rfl rfl | refine Qk ?_ | refine Ql ?_ | refine Qm ?_ | refine Qn ?_ | refine Qo rfl ?_ | refine Qp rfl ?_ | refine Qq rfl ?_ | refine Qr ?_ | refine Qs ?_ | refine Qt ?_ | refine Qu ?_ | refine Qv ?_ | refine Qw (by kernel_rfl) ?_)
      refine awp_pre (imp_freezeP (id := 8) (cs := o.map u8A) rfl) ?_
      refine awp_pre (imp_cutk 8 (by simp [devH]) (hok_cr v img) (by rw [crH_eq]; rfl) (by simp) (sl' := [(0, .ptr 0 0), (1, .sl 1 (keep.map boA)), (2, .sl 2 (ts.map trA)), (7, .ptr 3 0), (9, .int .i64 (q : Int)), (10, .fp (o.map u8A)), (11, .int .i64 (n : Int)), (24, .own 7 0 v.old.length), (25, .int .i64 v.old.length), (26, .int .i64 j)]) ?_) ?_
      · repeat' (first | exact fa_nil | refine fa_cons ⟨?_, ?_⟩ ?_)
        all_goals (try first | exact rfl | exact trivial | (simp [IdsLt, IdsLtL]; done) | (simp [get_cons]; done) | (simp [get_cons, *]; done) | (refine congrArg (AV.int .i64) (wrap_eq ?_ ?_ ?_) <;> (first | omega | (simp; omega))))
      rw [crH_eq]
      refine awp_region_any [2, 7] [0, 1, 3, 5, 6] (by exact rfl) ?_
      refine any_lin (fuel := 0) [0, 1, 3, 5, 6, 2, 4, 7] (by exact rfl) (by kernel_rfl) (by kernel_rfl) ?_
      repeat' (first | ((first | refine Qa rfl ?_ | refine Qc rfl rfl rfl ?_ | apply Qd rfl rfl rfl rfl | (apply Qe rfl rfl rfl rfl; intro H9)); (first | refine Q0 ?_ | refine Q1 ?_ | refine Q2 rfl ?_ | refine Q3 rfl rfl rfl ?_ | refine Q4 rfl rfl rfl rfl rfl ?_ | refine Q5 rfl ?_ | refine Q6 rfl ?_ | refine Q7 rfl rfl rfl ?_ | refine Q8 rfl rfl rfl ?_ | refine Q9 rfl rfl rfl rfl ?_ | refine QA rfl rfl (by decide) ?_ | refine QB rfl rfl (by decide) ?_ | refine QC rfl rfl ?_ | refine QD rfl ?_ | refine QE rfl rfl ?_ | refine QF rfl rfl ?_ | refine QG rfl rfl rfl rfl ?_ | refine QH rfl rfl rfl ?_ | refine QI rfl rfl rfl ?_ | refine QJ rfl rfl ?_ | refine QK rfl ?_ | refine QM rfl rfl rfl rfl rfl ?_ | refine QN ?_ | refine QO ?_ | refine QP rfl rfl rfl rfl rfl rfl ?_ | refine QQ rfl rfl rfl rfl rfl rfl rfl rfl rfl rfl rfl ?_ | refine QR rfl rfl rfl rfl rfl rfl rfl rfl rfl rfl rfl rfl ?_); (first | exact QX rfl rfl ⟨rfl, rfl⟩ | exact QY rfl ⟨rfl, rfl⟩ | exact QZ ⟨rfl, rfl⟩ | refine QX rfl rfl ?_ | refine QZ ?_)) | refine Qa rfl ?_ | (refine Qb rfl ?_; try (refine QS rfl rfl rfl rfl rfl rfl rfl ?_; (first | refine QX rfl rfl ?_ | refine QZ ?_))) | refine Qh ?_ | refine Qi rfl ?_ | refine Qj rfl ?_ | (refine Qf rfl rfl rfl ?_; refine QS rfl rfl rfl rfl rfl rfl rfl ?_; (first | refine QX rfl rfl ?_ | refine QZ ?_)) | apply Qg rfl rfl | refine Qk ?_ | refine Ql ?_ | refine Qm ?_ | refine Qn ?_ | refine Qo rfl ?_ | refine Qp rfl ?_ | refine Qq rfl ?_ | refine Qr ?_ | refine Qs ?_ | refine Qt ?_ | refine Qu ?_ | refine Qv ?_ | refine Qw (by kernel_rfl) ?_ | refine Qx rfl (by kernel_rfl) ?_)
      apply ds_soN rfl rfl rfl rfl
      · intro H9
        refine st_slice_fp (l := n) (h := 64) (n := 64) (out := (o.drop n).map u8A) (bnd_some rfl rfl) (bnd_none) (by omega) (by omega) (by simp [ho64]) (by decide) (List.all_eq_true.2 (u8_oneA o)) (by rw [List.take_of_length_le (by simp [ho64]), List.map_drop]) rfl rfl rfl rfl rfl ?_
        exact nx0 ⟨rfl, rfl⟩
      refine ds_ef rfl rfl rfl ?_
      refine st_call (fun _ => rfl) rfl ?_
      refine ACalls.mono (at_at (Dv.fresh img) q (by show img.length ≤ _; omega) (by show _ ≤ img.length; omega) (devH v) [some (.cells [.mp 2] 56), some (.arr ((keysS v.old).map (.int .i64)) 3)] 3 rfl) ?_
      rintro r H' ⟨rfl, rfl⟩
      first | refine nx rfl rfl ?_ | refine nx0 ?_
      repeat' (first | ((first | refine Qa rfl ?_ | refine Qc rfl rfl rfl ?_ | apply Qd rfl rfl rfl rfl | (apply Qe rfl rfl rfl rfl; intro H9)); (first | refine Q0 ?_ | refine Q1 ?_ | refine Q2 rfl ?_ | refine Q3 rfl rfl rfl ?_ | refine Q4 rfl rfl rfl rfl rfl ?_ | refine Q5 rfl ?_ | refine Q6 rfl ?_ | refine Q7 rfl rfl rfl ?_ | refine Q8 rfl rfl rfl ?_ | refine Q9 rfl rfl rfl rfl ?_ | refine QA rfl rfl (by decide) ?_ | refine QB rfl rfl (by decide) ?_ | refine QC rfl rfl ?_ | refine QD rfl ?_ | refine QE rfl rfl ?_ | refine QF rfl rfl ?_ | refine QG rfl rfl rfl rfl ?_ | refine QH rfl rfl rfl ?_ | refine QI rfl rfl rfl ?_ | refine QJ rfl rfl ?_ | refine QK rfl ?_ | refine QM rfl rfl rfl rfl rfl ?_ | refine QN ?_ | refine QO ?_ | refine QP rfl rfl rfl rfl rfl rfl ?_ | refine QQ rfl rfl rfl rfl rfl rfl rfl rfl rfl rfl rfl ?_ | refine QR rfl rfl rfl rfl rfl rfl rfl rfl rfl rfl rfl rfl ?_); (first | exact QX rfl rfl ⟨rfl, rfl⟩ | exact QY rfl ⟨rfl, rfl⟩ | exact QZ ⟨rfl, rfl⟩ | refine QX rfl rfl ?_ | refine QZ ?_)) | refine Qa rfl ?_ | (refine Qb rfl ?_; try (refine QS rfl rfl rfl rfl rfl rfl rfl ?_; (first | refine QX rfl rfl ?_ | refine QZ ?_))) | refine Qh ?_ | refine Qi rfl ?_ | refine Qj rfl ?_ | (refine Qf rfl rfl rfl ?_; refine QS rfl rfl rfl rfl rfl rfl rfl ?_; (first | refine QX rfl rfl ?_ | refine QZ ?_)) | apply Qg rfl rfl | refine Qk ?_ | refine Ql ?_ | refine Qm ?_ | refine Qn ?_ | refine Qo rfl ?_ | refine Qp rfl ?_ | refine Qq rfl ?_ | refine Qr ?_ | refine Qs ?_ | refine Qt ?_ | refine Qu ?_ | refine Qv ?_ | refine Qw (by kernel_rfl) ?_ | refine Qx rfl (by kernel_rfl) ?_)
      apply ds rfl rfl rfl rfl
      · refine st_slo (l := n) (h := 64) (lo' := q * 64 + n) (n' := 64 - n) (bnd_some rfl rfl) (bnd_none) (by omega) (by first | omega | (simp; omega)) (by omega) (by omega) rfl rfl rfl rfl rfl rfl rfl ?_
        first
        | exact nx rfl rfl ⟨rfl, rfl⟩
        | exact nx0 ⟨rfl, rfl⟩
      repeat' (first | ((first | refine Qa rfl ?_ | refine Qc rfl rfl rfl ?_ | apply Qd rfl rfl rfl rfl | (apply Qe rfl rfl rfl rfl; intro H9)); (first | refine Q0 ?_ | refine Q1 ?_ | refine Q2 rfl ?_ | refine Q3 rfl rfl rfl ?_ | refine Q4 rfl rfl rfl rfl rfl ?_ | refine Q5 rfl ?_ | refine Q6 rfl ?_ | refine Q7 rfl rfl rfl ?_ | refine Q8 rfl rfl rfl ?_ | refine Q9 rfl rfl rfl rfl ?_ | refine QA rfl rfl (by decide) ?_ | refine QB rfl rfl (by decide) ?_ | refine QC rfl rfl ?_ | refine QD rfl ?_ | refine QE rfl rfl ?_ | refine QF rfl rfl ?_ | refine QG rfl rfl rfl rfl ?_ | refine QH rfl rfl rfl ?_ | refine QI rfl rfl rfl ?_ | refine QJ rfl rfl ?_ | refine QK rfl ?_ | refine QM rfl rfl rfl rfl rfl ?_ | refine QN ?_ | refine QO ?_ | refine QP rfl rfl rfl rfl rfl rfl ?_ | refine QQ rfl rfl rfl rfl rfl rfl rfl rfl rfl rfl rfl ?_ | refine QR rfl rfl rfl rfl rfl rfl rfl rfl rfl rfl rfl rfl ?_); (first | exact QX rfl rfl ⟨rfl, rfl⟩ | exact QY rfl ⟨rfl, rfl⟩ | exact QZ ⟨rfl, rfl⟩ | refine QX rfl rfl ?_ | refine QZ ?_)) | refine Qa rfl ?_ | (refine Qb rfl ?_; try (refine QS rfl rfl rfl rfl rfl rfl rfl ?_; (first | refine QX rfl rfl ?_ | refine QZ ?_))) | refine Qh ?_ | refine Qi rfl ?_ | refine Qj rfl ?_ | (refine Qf rfl rfl rfl ?_; refine QS rfl rfl rfl rfl rfl rfl rfl ?_; (first | refine QX rfl rfl ?_ | refine QZ ?_)) | apply Qg rfl rfl | refine Qk ?_ | refine Ql ?_ | refine Qm ?_ | refine Qn ?_ | refine Qo rfl ?_ | refine Qp rfl ?_ | refine Qq rfl ?_ | refine Qr ?_ | refine Qs ?_ | refine Qt ?_ | refine Qu ?_ | refine Qv ?_ | refine Qw (by kernel_rfl) ?_ | refine Qx rfl (by kernel_rfl) ?_)
      refine ds_ef rfl rfl rfl ?_
      have hdl : ((o.drop n).map u8A).length = 64 - n := by simp [ho64]
      rw [hdl, Nat.min_self] at hsp
      refine st_cpy (out := (bkN img o q n).map u8A) (q := 64 - n) (by show _ ≤ (List.map u8A (Dv.fresh img).image).length; simp [Dv.fresh]; omega) (rfl) (oneEs_u8 _) (by rw [hdl, Nat.min_self]; exact hsp) (by rw [hdl, Nat.min_self]) rfl rfl rfl rfl rfl rfl rfl rfl ?_
      first | refine nx rfl rfl ?_ | refine nx0 ?_
      repeat' (first | ((first | refine Qa rfl ?_ | refine Qc rfl rfl rfl ?_ | apply Qd rfl rfl rfl rfl | (apply Qe rfl rfl rfl rfl; intro H9)); (first | refine Q0 ?_ | refine Q1 ?_ | refine Q2 rfl ?_ | refine Q3 rfl rfl rfl ?_ | refine Q4 rfl rfl rfl rfl rfl ?_ | refine Q5 rfl ?_ | refine Q6 rfl ?_ | refine Q7 rfl rfl rfl ?_ | refine Q8 rfl rfl rfl ?_ | refine Q9 rfl rfl rfl rfl ?_ | refine QA rfl rfl (by decide) ?_ | refine QB rfl rfl (by decide) ?_ | refine QC rfl rfl ?_ | refine QD rfl ?_ | refine QE rfl rfl ?_ | refine QF rfl rfl ?_ | refine QG rfl rfl rfl rfl ?_ | refine QH rfl rfl rfl ?_ | refine QI rfl rfl rfl ?_ | refine QJ rfl rfl ?_ | refine QK rfl ?_ | refine QM rfl rfl rfl rfl rfl ?_ | refine QN ?_ | refine QO ?_ | refine QP rfl rfl rfl rfl rfl rfl ?_ | refine QQ rfl rfl rfl rfl rfl rfl rfl rfl rfl rfl rfl ?_ | refine QR rfl rfl rfl rfl rfl rfl rfl rfl rfl rfl rfl rfl ?_); (first | exact QX rfl rfl ⟨rfl, rfl⟩ | exact QY rfl ⟨rfl, rfl⟩ | exact QZ ⟨rfl, rfl⟩ | refine QX rfl rfl ?_ | refine QZ ?_)) | refine Qa rfl ?_ | (refine Qb rfl ?_; try (refine QS rfl rfl rfl rfl rfl rfl rfl ?_; (first | refine QX rfl rfl ?_ | refine QZ ?_))) | refine Qh ?_ | refine Qi rfl ?_ | refine Qj rfl ?_ | (refine Qf rfl rfl rfl ?_; refine QS rfl rfl rfl rfl rfl rfl rfl ?_; (first | refine QX rfl rfl ?_ | refine QZ ?_)) | apply Qg rfl rfl | refine Qk ?_ | refine Ql ?_ | refine Qm ?_ | refine Qn ?_ | refine Qo rfl ?_ | refine Qp rfl ?_ | refine Qq rfl ?_ | refine Qr ?_ | refine Qs ?_ | refine Qt ?_ | refine Qu ?_ | refine Qv ?_ | refine Qw (by kernel_rfl) ?_ | refine Qx rfl (by kernel_rfl) ?_)
      refine ⟨j + 1, by omega, by omega, ?_⟩
      rw [hnx]
      refine imp_cutk 8 (by simp [devH]) (hok_cr _ _) (by rw [crH_eq, hbl]; rfl) (by simp) ?_
      repeat' (first | exact fa_nil | refine fa_cons ⟨?_, ?_⟩ ?_)
      all_goals (try first | exact rfl | exact trivial | (simp [IdsLt, IdsLtL]; done) | (simp [get_cons]; done) | (simp [get_cons, *]; done) | (refine congrArg (AV.int .i64) (wrap_eq ?_ ?_ ?_) <;> (first | omega | (simp; omega))))
    · have hj3 : j = v.old.length := by omega
      subst hj3
      have e : v.crash keep ts = Dv.fresh img := by rw [← himg]; rfl
      rw [e]
      repeat' (first | ((first | refine Qa rfl ?_ | refine Qc rfl rfl rfl ?_ | apply Qd rfl rfl rfl rfl | (apply Qe rfl rfl rfl rfl; intro H9)); (first | refine Q0 ?_ | refine Q1 ?_ | refine Q2 rfl ?_ | refine Q3 rfl rfl rfl ?_ | refine Q4 rfl rfl rfl rfl rfl ?_ | refine Q5 rfl ?_ | refine Q6 rfl ?_ | refine Q7 rfl rfl rfl ?_ | refine Q8 rfl rfl rfl ?_ | refine Q9 rfl rfl rfl rfl ?_ | refine QA rfl rfl (by decide) ?_ | refine QB rfl rfl (by decide) ?_ | refine QC rfl rfl ?_ | refine QD rfl ?_ | refine QE rfl rfl ?_ | refine QF rfl rfl ?_ | refine QG rfl rfl rfl rfl ?_ | refine QH rfl rfl rfl ?_ | refine QI rfl rfl rfl ?_ | refine QJ rfl rfl ?_ | refine QK rfl ?_ | refine QM rfl rfl rfl rfl rfl ?_ | refine QN ?_ | refine QO ?_ | refine QP rfl rfl rfl rfl rfl rfl ?_ | refine QQ rfl rfl rfl rfl rfl rfl rfl rfl rfl rfl rfl ?_ | refine QR rfl rfl rfl rfl rfl rfl rfl rfl rfl rfl rfl rfl ?_); (first | exact QX rfl rfl ⟨rfl, rfl⟩ | exact QY rfl ⟨rfl, rfl⟩ | exact QZ ⟨rfl, rfl⟩ | refine QX rfl rfl ?_ | refine QZ ?_)) | refine Qa rfl ?_ | (refine Qb rfl ?_; try (refine QS rfl rfl rfl rfl rfl rfl rfl ?_; (first | refine QX rfl rfl ?_ | refine QZ ?_))) | refine Qh ?_ | refine Qi rfl ?_ | refine Qj rfl ?_ | (refine Qf rfl rfl rfl ?_; refine QS rfl rfl rfl rfl rfl rfl rfl ?_; (first | refine QX rfl rfl ?_ | refine QZ ?_)) | apply Qg rfl rfl | refine Qk ?_ | refine Ql ?_ | refine Qm ?_ | refine Qn ?_ | refine Qo rfl ?_ | refine Qp rfl ?_ | refine Qq rfl ?_ | refine Qr ?_ | refine Qs ?_ | refine Qt ?_ | refine Qu ?_ | refine Qv ?_ | refine Qw (by kernel_rfl) ?_ | refine Qx rfl (by kernel_rfl) ?_)
      refine awp_ret ?_
      refine ⟨_, rfl, ?_, ?_⟩
      · rfl
      · rfl
end Go.Abs
