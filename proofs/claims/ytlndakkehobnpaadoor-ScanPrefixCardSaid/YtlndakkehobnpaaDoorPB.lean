/- Records: Check, by the program. Printed by a program. Joined texts, each with what its own name promises; no condition beyond those stated. -/
import Derived.Test.YtlndakkehobnpaaDoorPA
namespace Go.Abs
structure Rec where
  kind : Int
  key : List UInt8
  val : List UInt8
  exp : Int
def recL (r : Rec) : List AV := [.int .i64 r.kind, .sl 1 (r.key.map u8A), .sl 1 (r.val.map u8A), .int .i64 r.exp]
def recA (r : Rec) : AV := .agg (recL r)
@[simp] theorem recA_ids {n : Nat} {r : Rec} : IdsLt n (recA r) := ⟨trivial, idsL_map fun _ => u8A_ids, idsL_map fun _ => u8A_ids, trivial, trivial⟩
def latI (ver : Int) : Int := if ver = 1 then 4294967295 else 1099511627775
def chkR (ver : Int) (r : Rec) : Int :=
  if ver ≠ 1 ∧ ver ≠ 2 then 2 else
  if (r.kind < 1 ∨ 3 < r.kind) ∨ (r.kind ≠ 1 ∧ (0 < (r.val.length : Int) ∨ r.exp ≠ 0)) ∨ (r.kind = 3 ∧ 0 < (r.key.length : Int)) then 4 else
  if r.kind ≠ 3 ∧ ((r.key.length : Int) = 0 ∨ 255 < (r.key.length : Int)) then 5 else
  if 65536 < (r.val.length : Int) then 6 else
  if r.exp < 0 ∨ latI ver < r.exp then 7 else 0
attribute [local irreducible] AStep aops AWp Nx awM
set_option maxHeartbeats 0 in
theorem latest_c (X : Nat → Prop) (ver : Int) : ACalls (E0 X) 162 [.int .i64 ver] [] (fun r H' => r = .int .i64 (latI ver) ∧ H' = []) := by
  refine acalls_of Proofs.Tryd.func162 rfl Proofs.Tryd.ntmps162 (by kernel_rfl) rfl ?_
  intro hH hargs
  clear hH hargs
  repeat' (first | ((refine Qa rfl ?_); (first | refine Q0 ?_ | refine Q1 ?_ | refine Q2 rfl ?_); (refine QX rfl rfl ?_)) | refine Qh ?_ | refine Ql ?_ | refine Qo rfl ?_ | refine Qs ?_)
  refine awp_cond_dec rfl (fun h => ?_) (fun h => ?_)
  · rw [show latI ver = 4294967295 from if_pos h]
    repeat' (first | ((refine Qa rfl ?_); (refine Q1 ?_); (refine QX rfl rfl ?_)) | refine Qh ?_ | refine Ql ?_ | refine Qo rfl ?_ | refine Qs ?_)
    refine awp_ret ?_
    refine ⟨_, rfl, ?_, ?_⟩
    · rfl
    · rfl
  · rw [show latI ver = 1099511627775 from if_neg h]
    repeat' (first | ((refine Qa rfl ?_); (refine Q1 ?_); (refine QX rfl rfl ?_)) | refine Qh ?_ | refine Ql ?_ | refine Qm ?_ | refine Qo rfl ?_ | refine Qs ?_)
    refine awp_ret ?_
    refine ⟨_, rfl, ?_, ?_⟩
    · rfl
    · rfl
set_option maxHeartbeats 0 in
set_option maxRecDepth 100000 in
theorem check_r1 (X : Nat → Prop) (r : Rec) : ACalls (E0 X) 153 [.int .i64 1, recA r] [] (fun q H' => q = .int .i64 (chkR 1 r) ∧ H' = []) := by
  refine ACalls.cut0 ?_ trivial
  have hla := fun X => latest_c X 1
  have hl1 : latI 1 = 4294967295 := rfl
  obtain ⟨kind, key, val, exp⟩ := r
  show ACalls (E0 X) 153 [.int .i64 1, .agg [.int .i64 kind, .sl 1 (key.map u8A), .sl 1 (val.map u8A), .int .i64 exp]] [] _
  by_cases q1 : kind < 1
  · skip
    refine acalls_of Proofs.Tryd.func153 rfl Proofs.Tryd.ntmps153 (by kernel_rfl) rfl ?_
    intro hH hargs
    clear hH hargs
    repeat' (first | ((refine Qa rfl ?_); (first | refine Q0 ?_ | refine Q1 ?_ | refine Q2 rfl ?_ | refine Q3 rfl rfl rfl ?_ | refine Q4 rfl rfl rfl rfl rfl ?_ | refine Q5 rfl ?_ | refine QK rfl ?_); (refine QX rfl rfl ?_)) | refine Qh ?_ | refine Qi rfl ?_ | refine Ql ?_ | refine Qn ?_ | refine Qo rfl ?_ | refine Qq rfl ?_)
    rw [decide_eq_true q1]
    have ec : chkR 1 ⟨kind, key, val, exp⟩ = 4 := by unfold chkR; dsimp only; rw [if_neg (by omega), if_pos (by omega)]
    rw [ec]
    repeat' (first | ((refine Qa rfl ?_); (first | refine Q1 ?_ | refine Q5 rfl ?_); (refine QX rfl rfl ?_)) | refine Qh ?_ | refine Qi rfl ?_ | refine Ql ?_ | refine Qm ?_ | refine Qo rfl ?_ | refine Qp rfl ?_ | refine Qs ?_)
    refine awp_ret ?_
    exact ⟨_, rfl, rfl⟩
  by_cases q2 : 3 < kind
  · skip
    refine acalls_of Proofs.Tryd.func153 rfl Proofs.Tryd.ntmps153 (by kernel_rfl) rfl ?_
    intro hH hargs
    clear hH hargs
    repeat' (first | ((refine Qa rfl ?_); (first | refine Q0 ?_ | refine Q1 ?_ | refine Q2 rfl ?_ | refine Q3 rfl rfl rfl ?_ | refine Q4 rfl rfl rfl rfl rfl ?_ | refine Q5 rfl ?_ | refine QK rfl ?_); (refine QX rfl rfl ?_)) | refine Qh ?_ | refine Qi rfl ?_ | refine Ql ?_ | refine Qn ?_ | refine Qo rfl ?_ | refine Qq rfl ?_)
    rw [decide_eq_false q1]
    repeat' (first | ((refine Qa rfl ?_); (first | refine Q1 ?_ | refine Q2 rfl ?_ | refine Q3 rfl rfl rfl ?_ | refine Q4 rfl rfl rfl rfl rfl ?_ | refine Q5 rfl ?_); (refine QX rfl rfl ?_)) | refine Qh ?_ | refine Qs ?_)
    rw [decide_eq_true q2]
    have ec : chkR 1 ⟨kind, key, val, exp⟩ = 4 := by unfold chkR; dsimp only; rw [if_neg (by omega), if_pos (by omega)]
    rw [ec]
    repeat' (first | ((refine Qa rfl ?_); (refine Q1 ?_); (refine QX rfl rfl ?_)) | refine Qh ?_ | refine Ql ?_ | refine Qm ?_ | refine Qo rfl ?_ | refine Qp rfl ?_ | refine Qs ?_)
    refine awp_ret ?_
    exact ⟨_, rfl, rfl⟩
  rcases (show kind = 1 ∨ kind = 2 ∨ kind = 3 by omega) with rfl | rfl | rfl
  · skip
    refine acalls_of Proofs.Tryd.func153 rfl Proofs.Tryd.ntmps153 (by kernel_rfl) rfl ?_
    intro hH hargs
    clear hH hargs
    repeat' (first | ((refine Qa rfl ?_); (first | refine Q0 ?_ | refine Q1 ?_ | refine Q2 rfl ?_ | refine Q3 rfl rfl rfl ?_ | refine Q4 rfl rfl rfl rfl rfl ?_ | refine Q5 rfl ?_ | refine Q7 rfl rfl rfl ?_ | refine QK rfl ?_); (refine QX rfl rfl ?_)) | refine Qh ?_ | refine Qi rfl ?_ | refine Ql ?_ | refine Qn ?_ | refine Qo rfl ?_ | refine Qq rfl ?_)
    skip
    by_cases k1 : (key.length : Int) = 0
    · rw [decide_eq_true (show ((key.map u8A).length : Int) = 0 by first | exact k1 | (rw [List.length_map]; exact k1))]
      have ec : chkR 1 ⟨1, key, val, exp⟩ = 5 := by unfold chkR; dsimp only; rw [if_neg (by omega), if_neg (by omega), if_pos (by omega)]
      rw [ec]
      repeat' (first | ((refine Qa rfl ?_); (first | refine Q1 ?_ | refine Q5 rfl ?_); (refine QX rfl rfl ?_)) | refine Qh ?_ | refine Qi rfl ?_ | refine Ql ?_ | refine Qo rfl ?_ | refine Qp rfl ?_ | refine Qs ?_)
      refine awp_ret ?_
      exact ⟨_, rfl, rfl⟩
    · rw [decide_eq_false (show ¬ ((key.map u8A).length : Int) = 0 by first | exact k1 | (rw [List.length_map]; exact k1))]
      repeat' (first | ((refine Qa rfl ?_); (first | refine Q1 ?_ | refine Q2 rfl ?_ | refine Q3 rfl rfl rfl ?_ | refine Q4 rfl rfl rfl rfl rfl ?_ | refine Q5 rfl ?_ | refine Q7 rfl rfl rfl ?_); (refine QX rfl rfl ?_)) | refine Qh ?_ | refine Qs ?_)
      by_cases k2 : 255 < (key.length : Int)
      · rw [decide_eq_true (show 255 < ((key.map u8A).length : Int) by first | exact k2 | (rw [List.length_map]; exact k2))]
        have ec : chkR 1 ⟨1, key, val, exp⟩ = 5 := by unfold chkR; dsimp only; rw [if_neg (by omega), if_neg (by omega), if_pos (by omega)]
        rw [ec]
        repeat' (first | ((refine Qa rfl ?_); (refine Q1 ?_); (refine QX rfl rfl ?_)) | refine Qh ?_ | refine Ql ?_ | refine Qo rfl ?_ | refine Qp rfl ?_ | refine Qs ?_)
        refine awp_ret ?_
        exact ⟨_, rfl, rfl⟩
      · rw [decide_eq_false (show ¬ 255 < ((key.map u8A).length : Int) by first | exact k2 | (rw [List.length_map]; exact k2))]
        repeat' (first | ((refine Qa rfl ?_); (first | refine Q1 ?_ | refine Q2 rfl ?_ | refine Q3 rfl rfl rfl ?_ | refine Q4 rfl rfl rfl rfl rfl ?_ | refine Q7 rfl rfl rfl ?_); (refine QX rfl rfl ?_)) | refine Qh ?_ | refine Ql ?_ | refine Qo rfl ?_ | refine Qq rfl ?_ | refine Qs ?_)
        by_cases v9 : 65536 < (val.length : Int)
        · rw [decide_eq_true (show 65536 < ((val.map u8A).length : Int) by first | exact v9 | (rw [List.length_map]; exact v9))]
          have ec : chkR 1 ⟨1, key, val, exp⟩ = 6 := by unfold chkR; dsimp only; rw [if_neg (by omega), if_neg (by omega), if_neg (by omega), if_pos (by omega)]
          rw [ec]
          repeat' (first | ((refine Qa rfl ?_); (refine Q1 ?_); (refine QX rfl rfl ?_)) | refine Qh ?_ | refine Ql ?_ | refine Qo rfl ?_ | refine Qp rfl ?_ | refine Qs ?_)
          refine awp_ret ?_
          exact ⟨_, rfl, rfl⟩
        · rw [decide_eq_false (show ¬ 65536 < ((val.map u8A).length : Int) by first | exact v9 | (rw [List.length_map]; exact v9))]
          repeat' (first | refine Ql ?_ | refine Qq rfl ?_)
          refine awp_region_auto2 [] [] (by exact rfl) (by kernel_rfl) ?_
          repeat' ((apply Qd rfl rfl rfl rfl); (first | refine Q0 ?_ | refine Q2 rfl ?_ | refine Q3 rfl rfl rfl ?_ | refine Q4 rfl rfl rfl rfl rfl ?_); (exact QX rfl rfl ⟨rfl, rfl⟩))
          by_cases x1 : exp < 0
          · rw [decide_eq_true (show exp < 0 by first | exact x1 | (rw [List.length_map]; exact x1))]
            have ec : chkR 1 ⟨1, key, val, exp⟩ = 7 := by unfold chkR; dsimp only; rw [if_neg (by omega), if_neg (by omega), if_neg (by omega), if_neg (by omega), if_pos (by omega)]
            rw [ec]
            repeat' (first | ((first | refine Qa rfl ?_ | apply Qd rfl rfl rfl rfl); (first | refine Q1 ?_ | refine Q5 rfl ?_); (first | exact QX rfl rfl ⟨rfl, rfl⟩ | refine QX rfl rfl ?_)) | refine Qh ?_ | apply Qg rfl rfl | refine Qk ?_ | refine Ql ?_ | refine Qo rfl ?_ | refine Qp rfl ?_ | refine Qs ?_)
            refine awp_ret ?_
            exact ⟨_, rfl, rfl⟩
          · rw [decide_eq_false (show ¬ exp < 0 by first | exact x1 | (rw [List.length_map]; exact x1))]
            repeat' ((apply Qd rfl rfl rfl rfl); (first | refine Q0 ?_ | refine Q3 rfl rfl rfl ?_ | refine Q4 rfl rfl rfl rfl rfl ?_); (exact QX rfl rfl ⟨rfl, rfl⟩))
            apply ds rfl rfl rfl rfl
            · refine st_call (fun _ => rfl) rfl ?_
              refine ACalls.mono (acalls_pure (E := E0 X) (fun X => hla X) (by simp [IdsLtL, IdsLt]) _) ?_
              rintro r H' ⟨rfl, rfl⟩
              first
              | exact nx rfl rfl ⟨rfl, rfl⟩
              | exact nx0 ⟨rfl, rfl⟩
            repeat' (first | ((apply Qd rfl rfl rfl rfl); (first | refine Q1 ?_ | refine Q2 rfl ?_ | refine Q5 rfl ?_); (exact QX rfl rfl ⟨rfl, rfl⟩)) | refine Qk ?_ | refine Qs ?_)
            by_cases x2 : latI 1 < exp
            · rw [decide_eq_true (show latI 1 < exp by first | exact x2 | (rw [List.length_map]; exact x2))]
              have ec : chkR 1 ⟨1, key, val, exp⟩ = 7 := by unfold chkR; dsimp only; rw [if_neg (by omega), if_neg (by omega), if_neg (by omega), if_neg (by omega), if_pos (by omega)]
              rw [ec]
              repeat' (first | ((refine Qa rfl ?_); (refine Q1 ?_); (refine QX rfl rfl ?_)) | refine Qh ?_ | refine Ql ?_ | refine Qo rfl ?_ | refine Qp rfl ?_ | refine Qs ?_)
              refine awp_ret ?_
              exact ⟨_, rfl, rfl⟩
            · rw [decide_eq_false (show ¬ latI 1 < exp by first | exact x2 | (rw [List.length_map]; exact x2))]
              have ec : chkR 1 ⟨1, key, val, exp⟩ = 0 := by unfold chkR; dsimp only; rw [if_neg (by omega), if_neg (by omega), if_neg (by omega), if_neg (by omega), if_neg (by omega)]
              rw [ec]
              repeat' (first | ((refine Qa rfl ?_); (refine Q1 ?_); (refine QX rfl rfl ?_)) | refine Qh ?_ | refine Ql ?_ | refine Qm ?_ | refine Qo rfl ?_ | refine Qq rfl ?_ | refine Qs ?_)
              refine awp_ret ?_
              exact ⟨_, rfl, rfl⟩
  · skip
    refine acalls_of Proofs.Tryd.func153 rfl Proofs.Tryd.ntmps153 (by kernel_rfl) rfl ?_
    intro hH hargs
    clear hH hargs
    repeat' (first | ((refine Qa rfl ?_); (first | refine Q0 ?_ | refine Q1 ?_ | refine Q2 rfl ?_ | refine Q3 rfl rfl rfl ?_ | refine Q4 rfl rfl rfl rfl rfl ?_ | refine Q5 rfl ?_ | refine Q7 rfl rfl rfl ?_ | refine QK rfl ?_); (refine QX rfl rfl ?_)) | refine Qh ?_ | refine Qi rfl ?_ | refine Ql ?_ | refine Qn ?_ | refine Qo rfl ?_ | refine Qq rfl ?_)
    by_cases v0 : 0 < (val.length : Int)
    · rw [decide_eq_true (show 0 < ((val.map u8A).length : Int) by first | exact v0 | (rw [List.length_map]; exact v0))]
      have ec : chkR 1 ⟨2, key, val, exp⟩ = 4 := by unfold chkR; dsimp only; rw [if_neg (by omega), if_pos (by omega)]
      rw [ec]
      repeat' (first | ((refine Qa rfl ?_); (first | refine Q1 ?_ | refine Q5 rfl ?_); (refine QX rfl rfl ?_)) | refine Qh ?_ | refine Qi rfl ?_ | refine Ql ?_ | refine Qm ?_ | refine Qo rfl ?_ | refine Qp rfl ?_ | refine Qs ?_)
      refine awp_ret ?_
      exact ⟨_, rfl, rfl⟩
    · rw [decide_eq_false (show ¬ 0 < ((val.map u8A).length : Int) by first | exact v0 | (rw [List.length_map]; exact v0))]
      repeat' (first | ((refine Qa rfl ?_); (first | refine Q1 ?_ | refine Q2 rfl ?_ | refine Q3 rfl rfl rfl ?_ | refine Q4 rfl rfl rfl rfl rfl ?_ | refine Q5 rfl ?_); (refine QX rfl rfl ?_)) | refine Qh ?_ | refine Qs ?_)
      by_cases e0 : exp = 0
      rotate_left
      · rw [decide_eq_true (show exp ≠ 0 from e0)]
        have ec : chkR 1 ⟨2, key, val, exp⟩ = 4 := by unfold chkR; dsimp only; rw [if_neg (by omega), if_pos (by omega)]
        rw [ec]
        repeat' (first | ((refine Qa rfl ?_); (refine Q1 ?_); (refine QX rfl rfl ?_)) | refine Qh ?_ | refine Ql ?_ | refine Qm ?_ | refine Qo rfl ?_ | refine Qp rfl ?_ | refine Qs ?_)
        refine awp_ret ?_
        exact ⟨_, rfl, rfl⟩
      subst e0
      repeat' (first | ((refine Qa rfl ?_); (first | refine Q0 ?_ | refine Q1 ?_ | refine Q2 rfl ?_ | refine Q3 rfl rfl rfl ?_ | refine Q4 rfl rfl rfl rfl rfl ?_ | refine Q5 rfl ?_ | refine Q7 rfl rfl rfl ?_); (refine QX rfl rfl ?_)) | refine Qh ?_ | refine Qi rfl ?_ | refine Ql ?_ | refine Qo rfl ?_ | refine Qq rfl ?_)
      skip
      by_cases k1 : (key.length : Int) = 0
      · rw [decide_eq_true (show ((key.map u8A).length : Int) = 0 by first | exact k1 | (rw [List.length_map]; exact k1))]
        have ec : chkR 1 ⟨2, key, val, 0⟩ = 5 := by unfold chkR; dsimp only; rw [if_neg (by omega), if_neg (by omega), if_pos (by omega)]
        rw [ec]
        repeat' (first | ((refine Qa rfl ?_); (first | refine Q1 ?_ | refine Q5 rfl ?_); (refine QX rfl rfl ?_)) | refine Qh ?_ | refine Qi rfl ?_ | refine Ql ?_ | refine Qo rfl ?_ | refine Qp rfl ?_ | refine Qs ?_)
        refine awp_ret ?_
        exact ⟨_, rfl, rfl⟩
      · rw [decide_eq_false (show ¬ ((key.map u8A).length : Int) = 0 by first | exact k1 | (rw [List.length_map]; exact k1))]
        repeat' (first | ((refine Qa rfl ?_); (first | refine Q1 ?_ | refine Q2 rfl ?_ | refine Q3 rfl rfl rfl ?_ | refine Q4 rfl rfl rfl rfl rfl ?_ | refine Q5 rfl ?_ | refine Q7 rfl rfl rfl ?_); (refine QX rfl rfl ?_)) | refine Qh ?_ | refine Qs ?_)
        by_cases k2 : 255 < (key.length : Int)
        · rw [decide_eq_true (show 255 < ((key.map u8A).length : Int) by first | exact k2 | (rw [List.length_map]; exact k2))]
          have ec : chkR 1 ⟨2, key, val, 0⟩ = 5 := by unfold chkR; dsimp only; rw [if_neg (by omega), if_neg (by omega), if_pos (by omega)]
          rw [ec]
          repeat' (first | ((refine Qa rfl ?_); (refine Q1 ?_); (refine QX rfl rfl ?_)) | refine Qh ?_ | refine Ql ?_ | refine Qo rfl ?_ | refine Qp rfl ?_ | refine Qs ?_)
          refine awp_ret ?_
          exact ⟨_, rfl, rfl⟩
        · rw [decide_eq_false (show ¬ 255 < ((key.map u8A).length : Int) by first | exact k2 | (rw [List.length_map]; exact k2))]
          repeat' (first | ((refine Qa rfl ?_); (first | refine Q1 ?_ | refine Q2 rfl ?_ | refine Q3 rfl rfl rfl ?_ | refine Q4 rfl rfl rfl rfl rfl ?_ | refine Q7 rfl rfl rfl ?_); (refine QX rfl rfl ?_)) | refine Qh ?_ | refine Ql ?_ | refine Qo rfl ?_ | refine Qq rfl ?_ | refine Qs ?_)
          by_cases v9 : 65536 < (val.length : Int)
          · rw [decide_eq_true (show 65536 < ((val.map u8A).length : Int) by first | exact v9 | (rw [List.length_map]; exact v9))]
            have ec : chkR 1 ⟨2, key, val, 0⟩ = 6 := by unfold chkR; dsimp only; rw [if_neg (by omega), if_neg (by omega), if_neg (by omega), if_pos (by omega)]
            rw [ec]
            repeat' (first | ((refine Qa rfl ?_); (refine Q1 ?_); (refine QX rfl rfl ?_)) | refine Qh ?_ | refine Ql ?_ | refine Qo rfl ?_ | refine Qp rfl ?_ | refine Qs ?_)
            refine awp_ret ?_
            exact ⟨_, rfl, rfl⟩
          · rw [decide_eq_false (show ¬ 65536 < ((val.map u8A).length : Int) by first | exact v9 | (rw [List.length_map]; exact v9))]
            repeat' (first | refine Ql ?_ | refine Qq rfl ?_)
            refine awp_region_auto2 [] [] (by exact rfl) (by kernel_rfl) ?_
            repeat' ((apply Qd rfl rfl rfl rfl); (first | refine Q0 ?_ | refine Q2 rfl ?_ | refine Q3 rfl rfl rfl ?_ | refine Q4 rfl rfl rfl rfl rfl ?_); (exact QX rfl rfl ⟨rfl, rfl⟩))
            apply ds rfl rfl rfl rfl
            · refine st_call (fun _ => rfl) rfl ?_
              refine ACalls.mono (acalls_pure (E := E0 X) (fun X => hla X) (by simp [IdsLtL, IdsLt]) _) ?_
              rintro r H' ⟨rfl, rfl⟩
              first
              | exact nx rfl rfl ⟨rfl, rfl⟩
              | exact nx0 ⟨rfl, rfl⟩
            have ec : chkR 1 ⟨2, key, val, 0⟩ = 0 := by unfold chkR; dsimp only; rw [if_neg (by omega), if_neg (by omega), if_neg (by omega), if_neg (by omega), if_neg (by omega)]
            rw [ec]
            repeat' (first | ((first | refine Qa rfl ?_ | apply Qd rfl rfl rfl rfl); (first | refine Q1 ?_ | refine Q2 rfl ?_ | refine Q5 rfl ?_); (first | exact QX rfl rfl ⟨rfl, rfl⟩ | refine QX rfl rfl ?_)) | refine Qh ?_ | refine Qk ?_ | refine Ql ?_ | refine Qm ?_ | refine Qo rfl ?_ | refine Qq rfl ?_ | refine Qs ?_)
            refine awp_ret ?_
            exact ⟨_, rfl, rfl⟩
  · skip
    refine acalls_of Proofs.Tryd.func153 rfl Proofs.Tryd.ntmps153 (by kernel_rfl) rfl ?_
    intro hH hargs
    clear hH hargs
    repeat' (first | ((refine Qa rfl ?_); (first | refine Q0 ?_ | refine Q1 ?_ | refine Q2 rfl ?_ | refine Q3 rfl rfl rfl ?_ | refine Q4 rfl rfl rfl rfl rfl ?_ | refine Q5 rfl ?_ | refine Q7 rfl rfl rfl ?_ | refine QK rfl ?_); (refine QX rfl rfl ?_)) | refine Qh ?_ | refine Qi rfl ?_ | refine Ql ?_ | refine Qn ?_ | refine Qo rfl ?_ | refine Qq rfl ?_)
    by_cases v0 : 0 < (val.length : Int)
    · rw [decide_eq_true (show 0 < ((val.map u8A).length : Int) by first | exact v0 | (rw [List.length_map]; exact v0))]
      have ec : chkR 1 ⟨3, key, val, exp⟩ = 4 := by unfold chkR; dsimp only; rw [if_neg (by omega), if_pos (by omega)]
      rw [ec]
      repeat' (first | ((refine Qa rfl ?_); (first | refine Q1 ?_ | refine Q5 rfl ?_); (refine QX rfl rfl ?_)) | refine Qh ?_ | refine Qi rfl ?_ | refine Ql ?_ | refine Qm ?_ | refine Qo rfl ?_ | refine Qp rfl ?_ | refine Qs ?_)
      refine awp_ret ?_
      exact ⟨_, rfl, rfl⟩
    · rw [decide_eq_false (show ¬ 0 < ((val.map u8A).length : Int) by first | exact v0 | (rw [List.length_map]; exact v0))]
      repeat' (first | ((refine Qa rfl ?_); (first | refine Q1 ?_ | refine Q2 rfl ?_ | refine Q3 rfl rfl rfl ?_ | refine Q4 rfl rfl rfl rfl rfl ?_ | refine Q5 rfl ?_); (refine QX rfl rfl ?_)) | refine Qh ?_ | refine Qs ?_)
      by_cases e0 : exp = 0
      rotate_left
      · rw [decide_eq_true (show exp ≠ 0 from e0)]
        have ec : chkR 1 ⟨3, key, val, exp⟩ = 4 := by unfold chkR; dsimp only; rw [if_neg (by omega), if_pos (by omega)]
        rw [ec]
        repeat' (first | ((refine Qa rfl ?_); (refine Q1 ?_); (refine QX rfl rfl ?_)) | refine Qh ?_ | refine Ql ?_ | refine Qm ?_ | refine Qo rfl ?_ | refine Qp rfl ?_ | refine Qs ?_)
        refine awp_ret ?_
        exact ⟨_, rfl, rfl⟩
      subst e0
      repeat' (first | ((refine Qa rfl ?_); (first | refine Q0 ?_ | refine Q1 ?_ | refine Q2 rfl ?_ | refine Q3 rfl rfl rfl ?_ | refine Q4 rfl rfl rfl rfl rfl ?_ | refine Q5 rfl ?_ | refine Q7 rfl rfl rfl ?_); (refine QX rfl rfl ?_)) | refine Qh ?_ | refine Qo rfl ?_ | refine Qq rfl ?_ | refine Qs ?_)
      by_cases k0 : 0 < (key.length : Int)
      · rw [decide_eq_true (show 0 < ((key.map u8A).length : Int) by first | exact k0 | (rw [List.length_map]; exact k0))]
        have ec : chkR 1 ⟨3, key, val, 0⟩ = 4 := by unfold chkR; dsimp only; rw [if_neg (by omega), if_pos (by omega)]
        rw [ec]
        repeat' (first | ((refine Qa rfl ?_); (refine Q1 ?_); (refine QX rfl rfl ?_)) | refine Qh ?_ | refine Ql ?_ | refine Qo rfl ?_ | refine Qp rfl ?_ | refine Qs ?_)
        refine awp_ret ?_
        exact ⟨_, rfl, rfl⟩
      · rw [decide_eq_false (show ¬ 0 < ((key.map u8A).length : Int) by first | exact k0 | (rw [List.length_map]; exact k0))]
        repeat' (first | ((refine Qa rfl ?_); (first | refine Q0 ?_ | refine Q1 ?_ | refine Q2 rfl ?_ | refine Q3 rfl rfl rfl ?_ | refine Q4 rfl rfl rfl rfl rfl ?_ | refine Q5 rfl ?_ | refine Q7 rfl rfl rfl ?_); (refine QX rfl rfl ?_)) | refine Qh ?_ | refine Qi rfl ?_ | refine Ql ?_ | refine Qo rfl ?_ | refine Qq rfl ?_ | refine Qs ?_)
        by_cases v9 : 65536 < (val.length : Int)
        · rw [decide_eq_true (show 65536 < ((val.map u8A).length : Int) by first | exact v9 | (rw [List.length_map]; exact v9))]
          have ec : chkR 1 ⟨3, key, val, 0⟩ = 6 := by unfold chkR; dsimp only; rw [if_neg (by omega), if_neg (by omega), if_neg (by omega), if_pos (by omega)]
          rw [ec]
          repeat' (first | ((refine Qa rfl ?_); (refine Q1 ?_); (refine QX rfl rfl ?_)) | refine Qh ?_ | refine Ql ?_ | refine Qo rfl ?_ | refine Qp rfl ?_ | refine Qs ?_)
          refine awp_ret ?_
          exact ⟨_, rfl, rfl⟩
        · rw [decide_eq_false (show ¬ 65536 < ((val.map u8A).length : Int) by first | exact v9 | (rw [List.length_map]; exact v9))]
          repeat' (first | refine Ql ?_ | refine Qq rfl ?_)
          refine awp_region_auto2 [] [] (by exact rfl) (by kernel_rfl) ?_
          repeat' ((apply Qd rfl rfl rfl rfl); (first | refine Q0 ?_ | refine Q2 rfl ?_ | refine Q3 rfl rfl rfl ?_ | refine Q4 rfl rfl rfl rfl rfl ?_); (exact QX rfl rfl ⟨rfl, rfl⟩))
          apply ds rfl rfl rfl rfl
          · refine st_call (fun _ => rfl) rfl ?_
            refine ACalls.mono (acalls_pure (E := E0 X) (fun X => hla X) (by simp [IdsLtL, IdsLt]) _) ?_
            rintro r H' ⟨rfl, rfl⟩
            first
            | exact nx rfl rfl ⟨rfl, rfl⟩
            | exact nx0 ⟨rfl, rfl⟩
          have ec : chkR 1 ⟨3, key, val, 0⟩ = 0 := by unfold chkR; dsimp only; rw [if_neg (by omega), if_neg (by omega), if_neg (by omega), if_neg (by omega), if_neg (by omega)]
          rw [ec]
          repeat' (first | ((first | refine Qa rfl ?_ | apply Qd rfl rfl rfl rfl); (first | refine Q1 ?_ | refine Q2 rfl ?_ | refine Q5 rfl ?_); (first | exact QX rfl rfl ⟨rfl, rfl⟩ | refine QX rfl rfl ?_)) | refine Qh ?_ | refine Qk ?_ | refine Ql ?_ | refine Qm ?_ | refine Qo rfl ?_ | refine Qq rfl ?_ | refine Qs ?_)
          refine awp_ret ?_
          exact ⟨_, rfl, rfl⟩
set_option maxHeartbeats 0 in
set_option maxRecDepth 100000 in
theorem check_r2 (X : Nat → Prop) (r : Rec) : ACalls (E0 X) 153 [.int .i64 2, recA r] [] (fun q H' => q = .int .i64 (chkR 2 r) ∧ H' = []) := by
  refine ACalls.cut0 ?_ trivial
  have hla := fun X => latest_c X 2
  have hl1 : latI 2 = 1099511627775 := rfl
  obtain ⟨kind, key, val, exp⟩ := r
  show ACalls (E0 X) 153 [.int .i64 2, .agg [.int .i64 kind, .sl 1 (key.map u8A), .sl 1 (val.map u8A), .int .i64 exp]] [] _
  by_cases q1 : kind < 1
  · skip
    refine acalls_of Proofs.Tryd.func153 rfl Proofs.Tryd.ntmps153 (by kernel_rfl) rfl ?_
    intro hH hargs
    clear hH hargs
    repeat' (first | ((refine Qa rfl ?_); (first | refine Q0 ?_ | refine Q1 ?_ | refine Q2 rfl ?_ | refine Q3 rfl rfl rfl ?_ | refine Q4 rfl rfl rfl rfl rfl ?_ | refine Q5 rfl ?_ | refine QK rfl ?_); (refine QX rfl rfl ?_)) | refine Qh ?_ | refine Ql ?_ | refine Qn ?_ | refine Qo rfl ?_ | refine Qq rfl ?_)
    rw [decide_eq_true q1]
    have ec : chkR 2 ⟨kind, key, val, exp⟩ = 4 := by unfold chkR; dsimp only; rw [if_neg (by omega), if_pos (by omega)]
    rw [ec]
    repeat' (first | ((refine Qa rfl ?_); (first | refine Q1 ?_ | refine Q5 rfl ?_); (refine QX rfl rfl ?_)) | refine Qh ?_ | refine Qi rfl ?_ | refine Ql ?_ | refine Qm ?_ | refine Qo rfl ?_ | refine Qp rfl ?_ | refine Qs ?_)
    refine awp_ret ?_
    exact ⟨_, rfl, rfl⟩
  by_cases q2 : 3 < kind
  · skip
    refine acalls_of Proofs.Tryd.func153 rfl Proofs.Tryd.ntmps153 (by kernel_rfl) rfl ?_
    intro hH hargs
    clear hH hargs
    repeat' (first | ((refine Qa rfl ?_); (first | refine Q0 ?_ | refine Q1 ?_ | refine Q2 rfl ?_ | refine Q3 rfl rfl rfl ?_ | refine Q4 rfl rfl rfl rfl rfl ?_ | refine Q5 rfl ?_ | refine QK rfl ?_); (refine QX rfl rfl ?_)) | refine Qh ?_ | refine Ql ?_ | refine Qn ?_ | refine Qo rfl ?_ | refine Qq rfl ?_)
    rw [decide_eq_false q1]
    repeat' (first | ((refine Qa rfl ?_); (first | refine Q1 ?_ | refine Q2 rfl ?_ | refine Q3 rfl rfl rfl ?_ | refine Q4 rfl rfl rfl rfl rfl ?_ | refine Q5 rfl ?_); (refine QX rfl rfl ?_)) | refine Qh ?_ | refine Qs ?_)
    rw [decide_eq_true q2]
    have ec : chkR 2 ⟨kind, key, val, exp⟩ = 4 := by unfold chkR; dsimp only; rw [if_neg (by omega), if_pos (by omega)]
    rw [ec]
    repeat' (first | ((refine Qa rfl ?_); (refine Q1 ?_); (refine QX rfl rfl ?_)) | refine Qh ?_ | refine Ql ?_ | refine Qm ?_ | refine Qo rfl ?_ | refine Qp rfl ?_ | refine Qs ?_)
    refine awp_ret ?_
    exact ⟨_, rfl, rfl⟩
  rcases (show kind = 1 ∨ kind = 2 ∨ kind = 3 by omega) with rfl | rfl | rfl
  · skip
    refine acalls_of Proofs.Tryd.func153 rfl Proofs.Tryd.ntmps153 (by kernel_rfl) rfl ?_
    intro hH hargs
    clear hH hargs
    repeat' (first | ((refine Qa rfl ?_); (first | refine Q0 ?_ | refine Q1 ?_ | refine Q2 rfl ?_ | refine Q3 rfl rfl rfl ?_ | refine Q4 rfl rfl rfl rfl rfl ?_ | refine Q5 rfl ?_ | refine Q7 rfl rfl rfl ?_ | refine QK rfl ?_); (refine QX rfl rfl ?_)) | refine Qh ?_ | refine Qi rfl ?_ | refine Ql ?_ | refine Qn ?_ | refine Qo rfl ?_ | refine Qq rfl ?_)
    skip
    by_cases k1 : (key.length : Int) = 0
    · rw [decide_eq_true (show ((key.map u8A).length : Int) = 0 by first | exact k1 | (rw [List.length_map]; exact k1))]
      have ec : chkR 2 ⟨1, key, val, exp⟩ = 5 := by unfold chkR; dsimp only; rw [if_neg (by omega), if_neg (by omega), if_pos (by omega)]
      rw [ec]
      repeat' (first | ((refine Qa rfl ?_); (first | refine Q1 ?_ | refine Q5 rfl ?_); (refine QX rfl rfl ?_)) | refine Qh ?_ | refine Qi rfl ?_ | refine Ql ?_ | refine Qo rfl ?_ | refine Qp rfl ?_ | refine Qs ?_)
      refine awp_ret ?_
      exact ⟨_, rfl, rfl⟩
    · rw [decide_eq_false (show ¬ ((key.map u8A).length : Int) = 0 by first | exact k1 | (rw [List.length_map]; exact k1))]
      repeat' (first | ((refine Qa rfl ?_); (first | refine Q1 ?_ | refine Q2 rfl ?_ | refine Q3 rfl rfl rfl ?_ | refine Q4 rfl rfl rfl rfl rfl ?_ | refine Q5 rfl ?_ | refine Q7 rfl rfl rfl ?_); (refine QX rfl rfl ?_)) | refine Qh ?_ | refine Qs ?_)
      by_cases k2 : 255 < (key.length : Int)
      · rw [decide_eq_true (show 255 < ((key.map u8A).length : Int) by first | exact k2 | (rw [List.length_map]; exact k2))]
        have ec : chkR 2 ⟨1, key, val, exp⟩ = 5 := by unfold chkR; dsimp only; rw [if_neg (by omega), if_neg (by omega), if_pos (by omega)]
        rw [ec]
        repeat' (first | ((refine Qa rfl ?_); (refine Q1 ?_); (refine QX rfl rfl ?_)) | refine Qh ?_ | refine Ql ?_ | refine Qo rfl ?_ | refine Qp rfl ?_ | refine Qs ?_)
        refine awp_ret ?_
        exact ⟨_, rfl, rfl⟩
      · rw [decide_eq_false (show ¬ 255 < ((key.map u8A).length : Int) by first | exact k2 | (rw [List.length_map]; exact k2))]
        repeat' (first | ((refine Qa rfl ?_); (first | refine Q1 ?_ | refine Q2 rfl ?_ | refine Q3 rfl rfl rfl ?_ | refine Q4 rfl rfl rfl rfl rfl ?_ | refine Q7 rfl rfl rfl ?_); (refine QX rfl rfl ?_)) | refine Qh ?_ | refine Ql ?_ | refine Qo rfl ?_ | refine Qq rfl ?_ | refine Qs ?_)
        by_cases v9 : 65536 < (val.length : Int)
        · rw [decide_eq_true (show 65536 < ((val.map u8A).length : Int) by first | exact v9 | (rw [List.length_map]; exact v9))]
          have ec : chkR 2 ⟨1, key, val, exp⟩ = 6 := by unfold chkR; dsimp only; rw [if_neg (by omega), if_neg (by omega), if_neg (by omega), if_pos (by omega)]
          rw [ec]
          repeat' (first | ((refine Qa rfl ?_); (refine Q1 ?_); (refine QX rfl rfl ?_)) | refine Qh ?_ | refine Ql ?_ | refine Qo rfl ?_ | refine Qp rfl ?_ | refine Qs ?_)
          refine awp_ret ?_
          exact ⟨_, rfl, rfl⟩
        · rw [decide_eq_false (show ¬ 65536 < ((val.map u8A).length : Int) by first | exact v9 | (rw [List.length_map]; exact v9))]
          repeat' (first | refine Ql ?_ | refine Qq rfl ?_)
          refine awp_region_auto2 [] [] (by exact rfl) (by kernel_rfl) ?_
          repeat' ((apply Qd rfl rfl rfl rfl); (first | refine Q0 ?_ | refine Q2 rfl ?_ | refine Q3 rfl rfl rfl ?_ | refine Q4 rfl rfl rfl rfl rfl ?_); (exact QX rfl rfl ⟨rfl, rfl⟩))
          by_cases x1 : exp < 0
          · rw [decide_eq_true (show exp < 0 by first | exact x1 | (rw [List.length_map]; exact x1))]
            have ec : chkR 2 ⟨1, key, val, exp⟩ = 7 := by unfold chkR; dsimp only; rw [if_neg (by omega), if_neg (by omega), if_neg (by omega), if_neg (by omega), if_pos (by omega)]
            rw [ec]
            repeat' (first | ((first | refine Qa rfl ?_ | apply Qd rfl rfl rfl rfl); (first | refine Q1 ?_ | refine Q5 rfl ?_); (first | exact QX rfl rfl ⟨rfl, rfl⟩ | refine QX rfl rfl ?_)) | refine Qh ?_ | apply Qg rfl rfl | refine Qk ?_ | refine Ql ?_ | refine Qo rfl ?_ | refine Qp rfl ?_ | refine Qs ?_)
            refine awp_ret ?_
            exact ⟨_, rfl, rfl⟩
          · rw [decide_eq_false (show ¬ exp < 0 by first | exact x1 | (rw [List.length_map]; exact x1))]
            repeat' ((apply Qd rfl rfl rfl rfl); (first | refine Q0 ?_ | refine Q3 rfl rfl rfl ?_ | refine Q4 rfl rfl rfl rfl rfl ?_); (exact QX rfl rfl ⟨rfl, rfl⟩))
            apply ds rfl rfl rfl rfl
            · refine st_call (fun _ => rfl) rfl ?_
              refine ACalls.mono (acalls_pure (E := E0 X) (fun X => hla X) (by simp [IdsLtL, IdsLt]) _) ?_
              rintro r H' ⟨rfl, rfl⟩
              first
              | exact nx rfl rfl ⟨rfl, rfl⟩
              | exact nx0 ⟨rfl, rfl⟩
            repeat' (first | ((apply Qd rfl rfl rfl rfl); (first | refine Q1 ?_ | refine Q2 rfl ?_ | refine Q5 rfl ?_); (exact QX rfl rfl ⟨rfl, rfl⟩)) | refine Qk ?_ | refine Qs ?_)
            by_cases x2 : latI 2 < exp
            · rw [decide_eq_true (show latI 2 < exp by first | exact x2 | (rw [List.length_map]; exact x2))]
              have ec : chkR 2 ⟨1, key, val, exp⟩ = 7 := by unfold chkR; dsimp only; rw [if_neg (by omega), if_neg (by omega), if_neg (by omega), if_neg (by omega), if_pos (by omega)]
              rw [ec]
              repeat' (first | ((refine Qa rfl ?_); (refine Q1 ?_); (refine QX rfl rfl ?_)) | refine Qh ?_ | refine Ql ?_ | refine Qo rfl ?_ | refine Qp rfl ?_ | refine Qs ?_)
              refine awp_ret ?_
              exact ⟨_, rfl, rfl⟩
            · rw [decide_eq_false (show ¬ latI 2 < exp by first | exact x2 | (rw [List.length_map]; exact x2))]
              have ec : chkR 2 ⟨1, key, val, exp⟩ = 0 := by unfold chkR; dsimp only; rw [if_neg (by omega), if_neg (by omega), if_neg (by omega), if_neg (by omega), if_neg (by omega)]
              rw [ec]
              repeat' (first | ((refine Qa rfl ?_); (refine Q1 ?_); (refine QX rfl rfl ?_)) | refine Qh ?_ | refine Ql ?_ | refine Qm ?_ | refine Qo rfl ?_ | refine Qq rfl ?_ | refine Qs ?_)
              refine awp_ret ?_
              exact ⟨_, rfl, rfl⟩
  · skip
    refine acalls_of Proofs.Tryd.func153 rfl Proofs.Tryd.ntmps153 (by kernel_rfl) rfl ?_
    intro hH hargs
    clear hH hargs
    repeat' (first | ((refine Qa rfl ?_); (first | refine Q0 ?_ | refine Q1 ?_ | refine Q2 rfl ?_ | refine Q3 rfl rfl rfl ?_ | refine Q4 rfl rfl rfl rfl rfl ?_ | refine Q5 rfl ?_ | refine Q7 rfl rfl rfl ?_ | refine QK rfl ?_); (refine QX rfl rfl ?_)) | refine Qh ?_ | refine Ql ?_ | refine Qn ?_ | refine Qo rfl ?_ | refine Qq rfl ?_)
    by_cases v0 : 0 < (val.length : Int)
    · rw [decide_eq_true (show 0 < ((val.map u8A).length : Int) by first | exact v0 | (rw [List.length_map]; exact v0))]
      have ec : chkR 2 ⟨2, key, val, exp⟩ = 4 := by unfold chkR; dsimp only; rw [if_neg (by omega), if_pos (by omega)]
      rw [ec]
      repeat' (first | ((refine Qa rfl ?_); (first | refine Q1 ?_ | refine Q5 rfl ?_); (refine QX rfl rfl ?_)) | refine Qh ?_ | refine Qi rfl ?_ | refine Ql ?_ | refine Qm ?_ | refine Qo rfl ?_ | refine Qp rfl ?_ | refine Qs ?_)
      refine awp_ret ?_
      exact ⟨_, rfl, rfl⟩
    · rw [decide_eq_false (show ¬ 0 < ((val.map u8A).length : Int) by first | exact v0 | (rw [List.length_map]; exact v0))]
      repeat' (first | ((refine Qa rfl ?_); (first | refine Q1 ?_ | refine Q2 rfl ?_ | refine Q3 rfl rfl rfl ?_ | refine Q4 rfl rfl rfl rfl rfl ?_ | refine Q5 rfl ?_); (refine QX rfl rfl ?_)) | refine Qh ?_ | refine Qs ?_)
      by_cases e0 : exp = 0
      rotate_left
      · rw [decide_eq_true (show exp ≠ 0 from e0)]
        have ec : chkR 2 ⟨2, key, val, exp⟩ = 4 := by unfold chkR; dsimp only; rw [if_neg (by omega), if_pos (by omega)]
        rw [ec]
        repeat' (first | ((refine Qa rfl ?_); (refine Q1 ?_); (refine QX rfl rfl ?_)) | refine Qh ?_ | refine Ql ?_ | refine Qm ?_ | refine Qo rfl ?_ | refine Qp rfl ?_ | refine Qs ?_)
        refine awp_ret ?_
        exact ⟨_, rfl, rfl⟩
      subst e0
      repeat' (first | ((refine Qa rfl ?_); (first | refine Q0 ?_ | refine Q1 ?_ | refine Q2 rfl ?_ | refine Q3 rfl rfl rfl ?_ | refine Q4 rfl rfl rfl rfl rfl ?_ | refine Q5 rfl ?_ | refine Q7 rfl rfl rfl ?_); (refine QX rfl rfl ?_)) | refine Qh ?_ | refine Qi rfl ?_ | refine Ql ?_ | refine Qo rfl ?_ | refine Qq rfl ?_)
      skip
      by_cases k1 : (key.length : Int) = 0
      · rw [decide_eq_true (show ((key.map u8A).length : Int) = 0 by first | exact k1 | (rw [List.length_map]; exact k1))]
        have ec : chkR 2 ⟨2, key, val, 0⟩ = 5 := by unfold chkR; dsimp only; rw [if_neg (by omega), if_neg (by omega), if_pos (by omega)]
        rw [ec]
        repeat' (first | ((refine Qa rfl ?_); (first | refine Q1 ?_ | refine Q5 rfl ?_); (refine QX rfl rfl ?_)) | refine Qh ?_ | refine Qi rfl ?_ | refine Ql ?_ | refine Qo rfl ?_ | refine Qp rfl ?_ | refine Qs ?_)
        refine awp_ret ?_
        exact ⟨_, rfl, rfl⟩
      · rw [decide_eq_false (show ¬ ((key.map u8A).length : Int) = 0 by first | exact k1 | (rw [List.length_map]; exact k1))]
        repeat' (first | ((refine Qa rfl ?_); (first | refine Q1 ?_ | refine Q2 rfl ?_ | refine Q3 rfl rfl rfl ?_ | refine Q4 rfl rfl rfl rfl rfl ?_ | refine Q5 rfl ?_ | refine Q7 rfl rfl rfl ?_); (refine QX rfl rfl ?_)) | refine Qh ?_ | refine Qs ?_)
        by_cases k2 : 255 < (key.length : Int)
        · rw [decide_eq_true (show 255 < ((key.map u8A).length : Int) by first | exact k2 | (rw [List.length_map]; exact k2))]
          have ec : chkR 2 ⟨2, key, val, 0⟩ = 5 := by unfold chkR; dsimp only; rw [if_neg (by omega), if_neg (by omega), if_pos (by omega)]
          rw [ec]
          repeat' (first | ((refine Qa rfl ?_); (refine Q1 ?_); (refine QX rfl rfl ?_)) | refine Qh ?_ | refine Ql ?_ | refine Qo rfl ?_ | refine Qp rfl ?_ | refine Qs ?_)
          refine awp_ret ?_
          exact ⟨_, rfl, rfl⟩
        · rw [decide_eq_false (show ¬ 255 < ((key.map u8A).length : Int) by first | exact k2 | (rw [List.length_map]; exact k2))]
          repeat' (first | ((refine Qa rfl ?_); (first | refine Q1 ?_ | refine Q2 rfl ?_ | refine Q3 rfl rfl rfl ?_ | refine Q4 rfl rfl rfl rfl rfl ?_ | refine Q7 rfl rfl rfl ?_); (refine QX rfl rfl ?_)) | refine Qh ?_ | refine Ql ?_ | refine Qo rfl ?_ | refine Qq rfl ?_ | refine Qs ?_)
          by_cases v9 : 65536 < (val.length : Int)
          · rw [decide_eq_true (show 65536 < ((val.map u8A).length : Int) by first | exact v9 | (rw [List.length_map]; exact v9))]
            have ec : chkR 2 ⟨2, key, val, 0⟩ = 6 := by unfold chkR; dsimp only; rw [if_neg (by omega), if_neg (by omega), if_neg (by omega), if_pos (by omega)]
            rw [ec]
            repeat' (first | ((refine Qa rfl ?_); (refine Q1 ?_); (refine QX rfl rfl ?_)) | refine Qh ?_ | refine Ql ?_ | refine Qo rfl ?_ | refine Qp rfl ?_ | refine Qs ?_)
            refine awp_ret ?_
            exact ⟨_, rfl, rfl⟩
          · rw [decide_eq_false (show ¬ 65536 < ((val.map u8A).length : Int) by first | exact v9 | (rw [List.length_map]; exact v9))]
            repeat' (first | refine Ql ?_ | refine Qq rfl ?_)
            refine awp_region_auto2 [] [] (by exact rfl) (by kernel_rfl) ?_
            repeat' ((apply Qd rfl rfl rfl rfl); (first | refine Q0 ?_ | refine Q2 rfl ?_ | refine Q3 rfl rfl rfl ?_ | refine Q4 rfl rfl rfl rfl rfl ?_); (exact QX rfl rfl ⟨rfl, rfl⟩))
            apply ds rfl rfl rfl rfl
            · refine st_call (fun _ => rfl) rfl ?_
              refine ACalls.mono (acalls_pure (E := E0 X) (fun X => hla X) (by simp [IdsLtL, IdsLt]) _) ?_
              rintro r H' ⟨rfl, rfl⟩
              first
              | exact nx rfl rfl ⟨rfl, rfl⟩
              | exact nx0 ⟨rfl, rfl⟩
            have ec : chkR 2 ⟨2, key, val, 0⟩ = 0 := by unfold chkR; dsimp only; rw [if_neg (by omega), if_neg (by omega), if_neg (by omega), if_neg (by omega), if_neg (by omega)]
            rw [ec]
            repeat' (first | ((first | refine Qa rfl ?_ | apply Qd rfl rfl rfl rfl); (first | refine Q1 ?_ | refine Q2 rfl ?_ | refine Q5 rfl ?_); (first | exact QX rfl rfl ⟨rfl, rfl⟩ | refine QX rfl rfl ?_)) | refine Qh ?_ | refine Qk ?_ | refine Ql ?_ | refine Qm ?_ | refine Qo rfl ?_ | refine Qq rfl ?_ | refine Qs ?_)
            refine awp_ret ?_
            exact ⟨_, rfl, rfl⟩
  · skip
    refine acalls_of Proofs.Tryd.func153 rfl Proofs.Tryd.ntmps153 (by kernel_rfl) rfl ?_
    intro hH hargs
    clear hH hargs
    repeat' (first | ((refine Qa rfl ?_); (first | refine Q0 ?_ | refine Q1 ?_ | refine Q2 rfl ?_ | refine Q3 rfl rfl rfl ?_ | refine Q4 rfl rfl rfl rfl rfl ?_ | refine Q5 rfl ?_ | refine Q7 rfl rfl rfl ?_ | refine QK rfl ?_); (refine QX rfl rfl ?_)) | refine Qh ?_ | refine Ql ?_ | refine Qn ?_ | refine Qo rfl ?_ | refine Qq rfl ?_)
    by_cases v0 : 0 < (val.length : Int)
    · rw [decide_eq_true (show 0 < ((val.map u8A).length : Int) by first | exact v0 | (rw [List.length_map]; exact v0))]
      have ec : chkR 2 ⟨3, key, val, exp⟩ = 4 := by unfold chkR; dsimp only; rw [if_neg (by omega), if_pos (by omega)]
      rw [ec]
      repeat' (first | ((refine Qa rfl ?_); (first | refine Q1 ?_ | refine Q5 rfl ?_); (refine QX rfl rfl ?_)) | refine Qh ?_ | refine Qi rfl ?_ | refine Ql ?_ | refine Qm ?_ | refine Qo rfl ?_ | refine Qp rfl ?_ | refine Qs ?_)
      refine awp_ret ?_
      exact ⟨_, rfl, rfl⟩
    · rw [decide_eq_false (show ¬ 0 < ((val.map u8A).length : Int) by first | exact v0 | (rw [List.length_map]; exact v0))]
      repeat' (first | ((refine Qa rfl ?_); (first | refine Q1 ?_ | refine Q2 rfl ?_ | refine Q3 rfl rfl rfl ?_ | refine Q4 rfl rfl rfl rfl rfl ?_ | refine Q5 rfl ?_); (refine QX rfl rfl ?_)) | refine Qh ?_ | refine Qs ?_)
      by_cases e0 : exp = 0
      rotate_left
      · rw [decide_eq_true (show exp ≠ 0 from e0)]
        have ec : chkR 2 ⟨3, key, val, exp⟩ = 4 := by unfold chkR; dsimp only; rw [if_neg (by omega), if_pos (by omega)]
        rw [ec]
        repeat' (first | ((refine Qa rfl ?_); (refine Q1 ?_); (refine QX rfl rfl ?_)) | refine Qh ?_ | refine Ql ?_ | refine Qm ?_ | refine Qo rfl ?_ | refine Qp rfl ?_ | refine Qs ?_)
        refine awp_ret ?_
        exact ⟨_, rfl, rfl⟩
      subst e0
      repeat' (first | ((refine Qa rfl ?_); (first | refine Q0 ?_ | refine Q1 ?_ | refine Q2 rfl ?_ | refine Q3 rfl rfl rfl ?_ | refine Q4 rfl rfl rfl rfl rfl ?_ | refine Q5 rfl ?_ | refine Q7 rfl rfl rfl ?_); (refine QX rfl rfl ?_)) | refine Qh ?_ | refine Qo rfl ?_ | refine Qq rfl ?_ | refine Qs ?_)
      by_cases k0 : 0 < (key.length : Int)
      · rw [decide_eq_true (show 0 < ((key.map u8A).length : Int) by first | exact k0 | (rw [List.length_map]; exact k0))]
        have ec : chkR 2 ⟨3, key, val, 0⟩ = 4 := by unfold chkR; dsimp only; rw [if_neg (by omega), if_pos (by omega)]
        rw [ec]
        repeat' (first | ((refine Qa rfl ?_); (refine Q1 ?_); (refine QX rfl rfl ?_)) | refine Qh ?_ | refine Ql ?_ | refine Qo rfl ?_ | refine Qp rfl ?_ | refine Qs ?_)
        refine awp_ret ?_
        exact ⟨_, rfl, rfl⟩
      · rw [decide_eq_false (show ¬ 0 < ((key.map u8A).length : Int) by first | exact k0 | (rw [List.length_map]; exact k0))]
        repeat' (first | ((refine Qa rfl ?_); (first | refine Q0 ?_ | refine Q1 ?_ | refine Q2 rfl ?_ | refine Q3 rfl rfl rfl ?_ | refine Q4 rfl rfl rfl rfl rfl ?_ | refine Q5 rfl ?_ | refine Q7 rfl rfl rfl ?_); (refine QX rfl rfl ?_)) | refine Qh ?_ | refine Qi rfl ?_ | refine Ql ?_ | refine Qo rfl ?_ | refine Qq rfl ?_ | refine Qs ?_)
        by_cases v9 : 65536 < (val.length : Int)
        · rw [decide_eq_true (show 65536 < ((val.map u8A).length : Int) by first | exact v9 | (rw [List.length_map]; exact v9))]
          have ec : chkR 2 ⟨3, key, val, 0⟩ = 6 := by unfold chkR; dsimp only; rw [if_neg (by omega), if_neg (by omega), if_neg (by omega), if_pos (by omega)]
          rw [ec]
          repeat' (first | ((refine Qa rfl ?_); (refine Q1 ?_); (refine QX rfl rfl ?_)) | refine Qh ?_ | refine Ql ?_ | refine Qo rfl ?_ | refine Qp rfl ?_ | refine Qs ?_)
          refine awp_ret ?_
          exact ⟨_, rfl, rfl⟩
        · rw [decide_eq_false (show ¬ 65536 < ((val.map u8A).length : Int) by first | exact v9 | (rw [List.length_map]; exact v9))]
          repeat' (first | refine Ql ?_ | refine Qq rfl ?_)
          refine awp_region_auto2 [] [] (by exact rfl) (by kernel_rfl) ?_
          repeat' ((apply Qd rfl rfl rfl rfl); (first | refine Q0 ?_ | refine Q2 rfl ?_ | refine Q3 rfl rfl rfl ?_ | refine Q4 rfl rfl rfl rfl rfl ?_); (exact QX rfl rfl ⟨rfl, rfl⟩))
          apply ds rfl rfl rfl rfl
          · refine st_call (fun _ => rfl) rfl ?_
            refine ACalls.mono (acalls_pure (E := E0 X) (fun X => hla X) (by simp [IdsLtL, IdsLt]) _) ?_
            rintro r H' ⟨rfl, rfl⟩
            first
            | exact nx rfl rfl ⟨rfl, rfl⟩
            | exact nx0 ⟨rfl, rfl⟩
          have ec : chkR 2 ⟨3, key, val, 0⟩ = 0 := by unfold chkR; dsimp only; rw [if_neg (by omega), if_neg (by omega), if_neg (by omega), if_neg (by omega), if_neg (by omega)]
          rw [ec]
          repeat' (first | ((first | refine Qa rfl ?_ | apply Qd rfl rfl rfl rfl); (first | refine Q1 ?_ | refine Q2 rfl ?_ | refine Q5 rfl ?_); (first | exact QX rfl rfl ⟨rfl, rfl⟩ | refine QX rfl rfl ?_)) | refine Qh ?_ | refine Qk ?_ | refine Ql ?_ | refine Qm ?_ | refine Qo rfl ?_ | refine Qq rfl ?_ | refine Qs ?_)
          refine awp_ret ?_
          exact ⟨_, rfl, rfl⟩
set_option maxHeartbeats 0 in
theorem check_r (X : Nat → Prop) (ver : Int) (r : Rec) : ACalls (E0 X) 153 [.int .i64 ver, recA r] [] (fun q H' => q = .int .i64 (chkR ver r) ∧ H' = []) := by
  by_cases h1 : ver = 1
  · subst h1; exact check_r1 X r
  by_cases h2 : ver = 2
  · subst h2; exact check_r2 X r
  refine ACalls.cut0 ?_ trivial
  rw [show chkR ver r = 2 from if_pos ⟨h1, h2⟩]
  refine acalls_of Proofs.Tryd.func153 rfl Proofs.Tryd.ntmps153 (by kernel_rfl) rfl ?_
  intro hH hargs
  clear hH hargs
  repeat' (first | ((refine Qa rfl ?_); (first | refine Q0 ?_ | refine Q1 ?_ | refine Q2 rfl ?_ | refine QK rfl ?_); (refine QX rfl rfl ?_)) | refine Qh ?_ | refine Ql ?_ | refine Qn ?_ | refine Qo rfl ?_)
  rw [decide_eq_true h1]
  repeat' (first | ((refine Qa rfl ?_); (first | refine Q0 ?_ | refine Q1 ?_ | refine Q2 rfl ?_ | refine Q5 rfl ?_); (refine QX rfl rfl ?_)) | refine Qh ?_ | refine Qs ?_)
  rw [decide_eq_true h2]
  repeat' (first | ((refine Qa rfl ?_); (refine Q1 ?_); (refine QX rfl rfl ?_)) | refine Qh ?_ | refine Ql ?_ | refine Qo rfl ?_ | refine Qp rfl ?_ | refine Qs ?_)
  refine awp_ret ?_
  exact ⟨_, rfl, rfl⟩
end Go.Abs
namespace Go.Abs
def lenR (r : Rec) : Nat := 16 + r.key.length + r.val.length
def Rec.short (r : Rec) : Rec := { r with key := r.key.take 260, val := r.val.take 200 }
attribute [local irreducible] AStep aops AWp Nx awM
end Go.Abs
namespace Go.Abs
attribute [local irreducible] AStep aops AWp Nx awM
set_option maxHeartbeats 0 in
theorem rshort_c (X : Nat → Prop) (r : Rec) (hk : r.key.length ≤ maxLen) (hv : r.val.length ≤ maxLen) : ACalls (E0 X) 49 [recA r] [] (fun q H' => q = recA r.short ∧ H' = []) := by
  refine ACalls.cut0 ?_ recA_ids
  have t1 : r.key.take (min r.key.length 260) = r.key.take 260 := by
    rcases Nat.le_total r.key.length 260 with h | h
    · rw [Nat.min_eq_left h, List.take_of_length_le (Nat.le_refl _), List.take_of_length_le h]
    · rw [Nat.min_eq_right h]
  have t2 : r.val.take (min r.val.length 200) = r.val.take 200 := by
    rcases Nat.le_total r.val.length 200 with h | h
    · rw [Nat.min_eq_left h, List.take_of_length_le (Nat.le_refl _), List.take_of_length_le h]
    · rw [Nat.min_eq_right h]
  show ACalls (E0 X) 49 [.agg [.int .i64 r.kind, .sl 1 (r.key.map u8A), .sl 1 (r.val.map u8A), .int .i64 r.exp]] [] _
  refine acalls_of Proofs.Tryd.func49 rfl Proofs.Tryd.ntmps49 (by kernel_rfl) rfl ?_
  intro hH hargs
  clear hH hargs
  repeat' (first | ((refine Qa rfl ?_); (first | refine QJ rfl rfl ?_ | refine QK rfl ?_); (refine QX rfl rfl ?_)) | refine Qh ?_ | refine Ql ?_ | refine Qo rfl ?_)
  refine awp_region_any [15, 17] [0, 2, 4, 5, 6, 7, 9, 11, 12, 13, 14, 16] (by exact rfl) ?_
  refine any_lin (fuel := 0) [0, 2, 7, 9, 1, 3, 4, 5, 6, 8, 10, 11, 12, 13, 14, 15, 16, 17] (by exact rfl) (by kernel_rfl) (by kernel_rfl) ?_
  repeat' ((first | apply Qd rfl rfl rfl rfl | (apply Qe rfl rfl rfl rfl; intro H9)); (first | refine Q3 rfl rfl rfl ?_ | refine Q4 rfl rfl rfl rfl rfl ?_ | refine Q7 rfl rfl rfl ?_ | refine QE rfl rfl ?_); (first | exact QX rfl rfl ⟨rfl, rfl⟩ | exact QY rfl ⟨rfl, rfl⟩))
  apply ds_soN rfl rfl rfl rfl
  · intro H9
    refine st_sls (l := 0) (h := min r.key.length 260) (ys := r.key.take 260) (bnd_none) (bnd_some rfl (by rw [List.length_map]; omega)) (by omega) (by omega) (by rw [List.drop_zero, t1]) rfl rfl rfl rfl rfl ?_
    exact nx0 ⟨rfl, rfl⟩
  repeat' ((first | apply Qd rfl rfl rfl rfl | (apply Qe rfl rfl rfl rfl; intro H9)); (first | refine Q3 rfl rfl rfl ?_ | refine Q7 rfl rfl rfl ?_ | refine QE rfl rfl ?_); (first | exact QX rfl rfl ⟨rfl, rfl⟩ | exact QY rfl ⟨rfl, rfl⟩))
  apply ds_soN rfl rfl rfl rfl
  · intro H9
    refine st_sls (l := 0) (h := min r.val.length 200) (ys := r.val.take 200) (bnd_none) (bnd_some rfl (by rw [List.length_map]; omega)) (by omega) (by omega) (by rw [List.drop_zero, t2]) rfl rfl rfl rfl rfl ?_
    exact nx0 ⟨rfl, rfl⟩
  repeat' (first | ((apply Qe rfl rfl rfl rfl; intro H9); (refine Q4 rfl rfl rfl rfl rfl ?_); (exact QY rfl ⟨rfl, rfl⟩)) | (refine Qf rfl rfl rfl ?_; refine QS rfl rfl rfl rfl rfl rfl rfl ?_; (refine QX rfl rfl ?_)) | refine Qk ?_ | refine Qw (by kernel_rfl) ?_)
  repeat' (first | ((refine Qa rfl ?_); (refine Q3 rfl rfl rfl ?_); (refine QX rfl rfl ?_)) | (refine Qb rfl ?_; try (refine QS rfl rfl rfl rfl rfl rfl rfl ?_; (refine QX rfl rfl ?_))) | refine Qh ?_ | refine Ql ?_ | refine Qo rfl ?_ | refine Qs ?_)
  refine awp_ret ?_
  exact ⟨_, rfl, rfl⟩
end Go.Abs
namespace Go.Abs
def iN (n : Nat) : AV := .int .i64 (n : Int)
theorem ids_n (l : List Nat) {n : Nat} : IdsLtL n (l.map iN) := idsL_map fun _ => trivial
/-- The first i numbers, each as wide as it shall be. -/
def pfN (ns ws : List Nat) : Nat → List UInt8
  | 0 => []
  | i + 1 => putN (pfN ns ws i) (ns.getD i 0) (ws.getD i 0)
theorem pfN_len {ns ws : List Nat} (hw : ∀ w ∈ ws, 1 ≤ w ∧ w ≤ 8) : ∀ i, i ≤ ws.length → (pfN ns ws i).length ≤ 8 * i
  | 0, _ => Nat.le_refl _
  | i + 1, h => by
    have h1 := pfN_len (ns := ns) hw i (by omega)
    have h2 : ws.getD i 0 ≤ 8 := by
      rw [List.getD_eq_getElem?_getD, List.getElem?_eq_getElem (by omega)]
      exact (hw _ (List.getElem_mem _)).2
    simp only [pfN, putN_len]
    omega
theorem hok_pf (l : List UInt8) : HOk 1 [some (.arr (l.map u8A) 5)] := hok_arr l
attribute [local irreducible] AStep aops AWp Nx awM
set_option maxHeartbeats 0 in
set_option maxRecDepth 100000 in
theorem fields_c (X : Nat → Prop) (ns ws : List Nat) (hn : ∀ n ∈ ns, n < 9223372036854775808) (hw : ∀ w ∈ ws, 1 ≤ w ∧ w ≤ 8) (hlen : ns.length = ws.length) (hl : ns.length ≤ 10) :
    ACalls (E0 X) 155 [.nils, .sl 1 (ns.map iN), .sl 1 (ws.map iN)] [] (fun r H' => r = .sl 1 ((pfN ns ws ns.length).map u8A) ∧ H' = []) := by
  refine ACalls.frz0 (e := 5) 1 ?_ rfl rfl (idsL_map fun _ => u8A_ids)
  have hml : (ns.map iN).length = ns.length := List.length_map _
  refine acalls_of Proofs.Tryd.func155 rfl Proofs.Tryd.ntmps155 (by kernel_rfl) rfl ?_
  intro hH hargs
  clear hH hargs
  repeat' (first | ((refine Qa rfl ?_); (first | refine Q0 ?_ | refine Q1 ?_ | refine Q7 rfl rfl rfl ?_); (refine QX rfl rfl ?_)) | refine Qh ?_ | refine Ql ?_ | refine Qn ?_ | refine Qo rfl ?_)
  rw [hml]
  refine awp_loop2 (fun i : Nat => ⟨[(0, .own 0 0 (pfN ns ws i).length), (2, .sl 1 (ws.map iN)), (9, .sl 1 (ns.map iN)), (10, .int .i64 (ns.length : Int)), (11, .int .i64 (i : Int))], [some (.arr ((pfN ns ws i).map u8A) 5)]⟩) (fun i => i ≤ ns.length) (fun i => ns.length - i) 0 (Nat.zero_le _) ?_ ?_
  · refine Imp.trans (imp_nil 0 5 rfl) (imp_cutk 1 (Nat.zero_le _) (hok_pf []) rfl (by simp) ?_)
    repeat' (first | exact fa_nil | refine fa_cons ⟨?_, ?_⟩ ?_)
    all_goals (try first | exact rfl | exact trivial | (simp [IdsLt, IdsLtL]; done) | (simp [get_cons]; done) | (simp [get_cons, *]; done) | (refine congrArg (AV.int .i64) (wrap_eq ?_ ?_ ?_) <;> (first | omega | (simp; omega))))
    all_goals exact ids_n _
  rintro i hi
  have hpl := pfN_len (ns := ns) hw i (by omega)
  repeat' (first | ((refine Qa rfl ?_); (refine Q2 rfl ?_); (refine QX rfl rfl ?_)) | refine Qh ?_ | refine Ql ?_ | refine Qo rfl ?_)
  refine awp_cond_dec rfl (fun h3 => ?_) (fun h3 => ?_)
  · have hi2 : i < ns.length := by omega
    obtain ⟨a, ha⟩ : ∃ a, ns[i]? = some a := ⟨_, List.getElem?_eq_getElem hi2⟩
    obtain ⟨b, hb⟩ : ∃ b, ws[i]? = some b := ⟨_, List.getElem?_eq_getElem (hlen ▸ hi2)⟩
    have han := hn a (List.mem_of_getElem? ha)
    have hbw := hw b (List.mem_of_getElem? hb)
    have hs : pfN ns ws (i + 1) = putN (pfN ns ws i) a b := by
      simp only [pfN, List.getD_eq_getElem?_getD, ha, hb, Option.getD_some]
    have hpu := fun H x hx => put_at X H x (pfN ns ws i) a b hbw.1 hbw.2 (by omega) hx
    rw [← hs] at hpu
    have hs2 : (pfN ns ws (i + 1)).length = (pfN ns ws i).length + b := by rw [hs, putN_len]
    generalize pfN ns ws i = p0 at *
    generalize hp1 : pfN ns ws (i + 1) = p1 at *
    repeat' (first | ((refine Qa rfl ?_); (refine Q0 ?_); (refine QX rfl rfl ?_)) | refine Qa rfl ?_ | refine Ql ?_ | refine Qm ?_ | refine Qn ?_ | refine Qo rfl ?_)
    refine st_ixm ha rfl rfl rfl rfl rfl rfl rfl (by first | rfl | omega) rfl ?_
    first | refine nx rfl rfl ?_ | refine nx0 ?_
    repeat' (first | ((refine Qa rfl ?_); (first | refine Q0 ?_ | refine Q1 ?_ | refine Q3 rfl rfl rfl ?_ | refine QG rfl rfl rfl rfl ?_); (refine QX rfl rfl ?_)) | refine Qa rfl ?_ | refine Qh ?_ | refine Qo rfl ?_)
    refine st_ixm hb rfl rfl rfl rfl rfl rfl rfl (by first | rfl | omega) rfl ?_
    first | refine nx rfl rfl ?_ | refine nx0 ?_
    repeat' (first | ((refine Qa rfl ?_); (refine Q3 rfl rfl rfl ?_); (refine QX rfl rfl ?_)) | refine Qa rfl ?_)
    rw [wrap64 (by omega)]
    refine st_call (fun _ => rfl) rfl ?_
    refine ACalls.mono (hpu _ _ (src_ownm' rfl rfl rfl (by omega) (by rw [List.drop_zero, List.take_of_length_le (by omega)]))) ?_
    rintro r H' ⟨rfl, rfl⟩
    first | refine nx rfl rfl ?_ | refine nx0 ?_
    repeat' (first | ((refine Qa rfl ?_); (first | refine Q0 ?_ | refine Q1 ?_ | refine Q2 rfl ?_); (refine QX rfl rfl ?_)) | refine Qh ?_ | refine Qo rfl ?_ | refine Qs ?_)
    refine ⟨i + 1, by omega, by omega, ?_⟩
    rw [hp1, hs2]
    refine imp_tid 0 [1] (H' := [some (.arr (p1.map u8A) 5)]) (os := [.arr (p1.map u8A) 5]) (Nat.le_refl _) (Nat.zero_le _) (by simp) (by simp) (by simp [HOk]) rfl rfl ?_ ?_
    · refine fa_cons (ren_own rfl) (fa_cons (ren_lt rfl (ids_n _)) (fa_cons (ren_lt rfl (ids_n _)) (fa_cons (ren_lt rfl trivial) (fa_cons (ren_lt ?_ trivial) fa_nil))))
      exact congrArg (AV.int .i64) (wrap_eq (by omega) (by omega) (by omega))
    · exact os_cons rfl (renO_old 0 (fun i h => absurd h (Nat.not_lt_zero i)) (idsL_map fun _ => u8A_ids)) os_nil
  · have hii : i = ns.length := by omega
    repeat' (first | ((refine Qa rfl ?_); (first | refine Q0 ?_ | refine Q1 ?_); (refine QX rfl rfl ?_)) | refine Qh ?_ | refine Ql ?_ | refine Qo rfl ?_ | refine Qr ?_ | refine Qs ?_)
    refine awp_ret ?_
    refine ⟨_, rfl, 0, _, rfl, ?_, ?_⟩
    · rw [← hii, List.length_map]
    · rw [← hii]; rfl
end Go.Abs
namespace Go.Abs
def headN (ver : Int) (k kl vl e : Nat) : List UInt8 := if ver = 1 then pfN [161, k, kl, 0, vl, e] [1, 1, 1, 1, 4, 4] 6 else pfN [162, kl, 16 * k, vl, 0, e] [1, 1, 1, 3, 1, 5] 6
theorem headN_len (ver : Int) (k kl vl e : Nat) : (headN ver k kl vl e).length = 12 := by
  unfold headN
  split <;> simp [pfN, putN_len]
def headR (ver : Int) (r : Rec) : List UInt8 := headN ver r.kind.toNat r.key.length r.val.length r.exp.toNat
structure RecOk (ver : Int) (r : Rec) : Prop where
  vers : ver = 1 ∨ ver = 2
  kind : 1 ≤ r.kind ∧ r.kind ≤ 3
  plain : r.kind ≠ 1 → r.val.length = 0 ∧ r.exp = 0
  flush : r.kind = 3 → r.key.length = 0
  key : r.kind ≠ 3 → 1 ≤ r.key.length
  keyle : r.key.length ≤ 255
  val : r.val.length ≤ 65536
  exp : 0 ≤ r.exp ∧ r.exp ≤ latI ver
theorem latI_le (ver : Int) : latI ver ≤ 1099511627775 := by unfold latI; split <;> omega
theorem rec_ok {ver : Int} {r : Rec} (h : chkR ver r = 0) : RecOk ver r := by
  unfold chkR at h
  split at h
  · omega
  split at h
  · omega
  split at h
  · omega
  split at h
  · omega
  split at h
  · omega
  exact ⟨by omega, by omega, fun _ => by omega, fun _ => by omega, fun _ => by omega, by omega, by omega, by omega⟩
attribute [local irreducible] AStep aops AWp Nx awM
set_option maxHeartbeats 0 in
set_option maxRecDepth 100000 in
theorem head_c (X : Nat → Prop) (ver : Int) (r : Rec) (h : RecOk ver r) : ACalls (E0 X) 154 [.int .i64 ver, recA r] [] (fun q H' => q = .sl 1 ((headR ver r).map u8A) ∧ H' = []) := by
  refine ACalls.cut0 ?_ (idsL_map fun _ => u8A_ids)
  obtain ⟨_, ⟨k1, k2⟩, _, _, _, hk, hv, ⟨e1, e2⟩⟩ := h
  have hla := latI_le ver
  obtain ⟨kind, key, val, exp⟩ := r
  simp only at k1 k2 hk hv e1 e2
  obtain ⟨kind, rfl⟩ := Int.eq_ofNat_of_zero_le (show 0 ≤ kind by omega)
  obtain ⟨exp, rfl⟩ := Int.eq_ofNat_of_zero_le e1
  have w16 : IntKind.i64.wrap (16 * (kind : Int)) = ((16 * kind : Nat) : Int) := wrap_eq (by omega) (by omega) (by omega)
  show ACalls (E0 X) 154 [.int .i64 ver, .agg [.int .i64 (kind : Int), .sl 1 (key.map u8A), .sl 1 (val.map u8A), .int .i64 (exp : Int)]] [] _
  have hkl : (key.map u8A).length = key.length := List.length_map _
  have hvl : (val.map u8A).length = val.length := List.length_map _
  refine acalls_of Proofs.Tryd.func154 rfl Proofs.Tryd.ntmps154 (by kernel_rfl) rfl ?_
  intro hH hargs
  clear hH hargs
  repeat' (first | ((refine Qa rfl ?_); (first | refine Q0 ?_ | refine Q1 ?_ | refine Q2 rfl ?_ | refine QK rfl ?_); (refine QX rfl rfl ?_)) | refine Qh ?_ | refine Ql ?_ | refine Qo rfl ?_ | refine Qs ?_)
  refine awp_cond_dec rfl (fun h1 => ?_) (fun h1 => ?_)
  · have e : headR ver ⟨(kind : Int), key, val, (exp : Int)⟩ = pfN [161, kind, key.length, 0, val.length, exp] [1, 1, 1, 1, 4, 4] 6 := if_pos h1
    have hf := fun X => fields_c X [161, kind, key.length, 0, val.length, exp] [1, 1, 1, 1, 4, 4] (by simp; omega) (by decide) rfl (by simp)
    rw [e]
    repeat' (first | ((refine Qa rfl ?_); (first | refine Q3 rfl rfl rfl ?_ | refine Q4 rfl rfl rfl rfl rfl ?_ | refine Q7 rfl rfl rfl ?_ | refine QR rfl rfl rfl rfl rfl rfl rfl rfl rfl rfl rfl rfl ?_); (refine QX rfl rfl ?_)) | refine Qa rfl ?_ | refine Ql ?_ | refine Qo rfl ?_)
    rw [hkl, hvl]
    refine st_call (fun _ => rfl) rfl ?_
    refine ACalls.mono (acalls_pure (E := E0 X) (fun X => hf X) ⟨trivial, ids_n _, ids_n _, trivial⟩ _) ?_
    rintro r H' ⟨rfl, rfl⟩
    first | refine nx rfl rfl ?_ | refine nx0 ?_
    repeat' (first | ((refine Qa rfl ?_); (refine Q1 ?_); (refine QX rfl rfl ?_)) | refine Qh ?_ | refine Qs ?_)
    refine awp_ret ?_
    exact ⟨_, rfl, rfl⟩
  · have e : headR ver ⟨(kind : Int), key, val, (exp : Int)⟩ = pfN [162, key.length, 16 * kind, val.length, 0, exp] [1, 1, 1, 3, 1, 5] 6 := if_neg h1
    have hf := fun X => fields_c X [162, key.length, 16 * kind, val.length, 0, exp] [1, 1, 1, 3, 1, 5] (by simp; omega) (by decide) rfl (by simp)
    rw [e]
    repeat' (first | ((refine Qa rfl ?_); (first | refine Q2 rfl ?_ | refine Q3 rfl rfl rfl ?_ | refine Q4 rfl rfl rfl rfl rfl ?_ | refine Q7 rfl rfl rfl ?_ | refine QR rfl rfl rfl rfl rfl rfl rfl rfl rfl rfl rfl rfl ?_); (refine QX rfl rfl ?_)) | refine Qa rfl ?_ | refine Ql ?_ | refine Qm ?_ | refine Qo rfl ?_)
    rw [hkl, hvl, w16]
    refine st_call (fun _ => rfl) rfl ?_
    refine ACalls.mono (acalls_pure (E := E0 X) (fun X => hf X) ⟨trivial, ids_n _, ids_n _, trivial⟩ _) ?_
    rintro r H' ⟨rfl, rfl⟩
    first | refine nx rfl rfl ?_ | refine nx0 ?_
    repeat' (first | ((refine Qa rfl ?_); (refine Q1 ?_); (refine QX rfl rfl ?_)) | refine Qh ?_ | refine Qs ?_)
    refine awp_ret ?_
    exact ⟨_, rfl, rfl⟩
end Go.Abs
namespace Go.Abs
/-- The place of a record. -/
def plcN (seq off : Nat) : List UInt8 := pfN [seq, off] [8, 4] 2
theorem plcN_len (seq off : Nat) : (plcN seq off).length = 12 := by simp [plcN, pfN, putN_len]
def sumR (ver : Int) (seq off : Nat) (r : Rec) : Nat := updN 0 (plcN seq off ++ (headR ver r ++ (r.key ++ r.val)))
def encR (ver : Int) (seq off : Nat) (r : Rec) : List UInt8 := putN (headR ver r) (sumR ver seq off r) 4 ++ (r.key ++ r.val)
theorem encR_len (ver : Int) (seq off : Nat) (r : Rec) : (encR ver seq off r).length = lenR r := by
  simp only [encR, List.length_append, putN_len, headR, headN_len, lenR]; omega
attribute [local irreducible] AStep aops AWp Nx awM
set_option maxHeartbeats 0 in
set_option maxRecDepth 100000 in
theorem renc_x (X : Nat → Prop) (ver : Int) (seq off : Nat) (r : Rec) (hc : chkR ver r = 0) (hs : seq < 9223372036854775808) (ho : off ≤ 2147483647) :
    ACalls (E0 X) 127 [.int .i64 ver, .int .i64 (seq : Int), .int .i64 (off : Int), recA r] [] (fun q H' => q = .tup [.sl 1 ((encR ver seq off r).map u8A), .int .i64 0] ∧ H' = []) := by
  refine ACalls.cut0 ?_ ⟨idsL_map fun _ => u8A_ids, trivial, trivial⟩
  have hck := fun X => check_r X ver r
  rw [hc] at hck
  have hok := rec_ok hc
  have hhd := fun X => head_c X ver r hok
  have hhl : (headR ver r).length = 12 := headN_len _ _ _ _ _
  have hkl := hok.keyle
  have hvl := hok.val
  have hfi := fun X => fields_c X [seq, off] [8, 4] (by simp; omega) (by decide) rfl (by simp)
  have hpl := plcN_len seq off
  have hp : pfN [seq, off] [8, 4] [seq, off].length = plcN seq off := rfl
  rw [hp] at hfi
  have hen : encR ver seq off r = putN (headR ver r) (updN 0 (plcN seq off ++ (headR ver r ++ (r.key ++ r.val)))) 4 ++ (r.key ++ r.val) := rfl
  rw [hen]
  obtain ⟨kind, key, val, exp⟩ := r
  simp only at hkl hvl
  generalize headR ver ⟨kind, key, val, exp⟩ = hd at *
  generalize plcN seq off = pl at *
  have c1 := fun X => concat_c X [pl, hd, key, val] (by simp; omega) (by simp; omega) (by simp)
  have ef : [pl, hd, key, val].flatten = pl ++ (hd ++ (key ++ val)) := by simp
  rw [ef] at c1
  have hsu := fun X => crcSum_c X (pl ++ (hd ++ (key ++ val))) (by simp; omega)
  dsimp only
  clear hen hp ef
  generalize pl ++ (hd ++ (key ++ val)) = all at *
  have hlt := updN_lt (c := 0) (by decide) all
  have hpu := fun X => put_c X hd (updN 0 all) 4 (by decide) (by decide) (by omega)
  have hpul : (putN hd (updN 0 all) 4).length = 16 := by rw [putN_len, hhl]
  have c2 := fun X => concat_c X [putN hd (updN 0 all) 4, key, val] (by simp; omega) (by simp; omega) (by simp)
  have ef2 : [putN hd (updN 0 all) 4, key, val].flatten = putN hd (updN 0 all) 4 ++ (key ++ val) := by simp
  rw [ef2] at c2
  generalize putN hd (updN 0 all) 4 = hd16 at *
  have ns1 : ¬ (seq : Int) < 0 := by omega
  have ns2 : ¬ (off : Int) < 0 := by omega
  have ns3 : ¬ (2147483647 : Int) < (off : Int) := by omega
  show ACalls (E0 X) 127 [.int .i64 ver, .int .i64 (seq : Int), .int .i64 (off : Int), .agg [.int .i64 kind, .sl 1 (key.map u8A), .sl 1 (val.map u8A), .int .i64 exp]] [] _
  refine acalls_of Proofs.Tryd.func127 rfl Proofs.Tryd.ntmps127 (by kernel_rfl) rfl ?_
  intro hH hargs
  clear hH hargs
  repeat' (first | ((refine Qa rfl ?_); (first | refine Q0 ?_ | refine Q1 ?_ | refine Q3 rfl rfl rfl ?_ | refine QK rfl ?_); (refine QX rfl rfl ?_)) | refine Qa rfl ?_ | refine Qh ?_ | refine Ql ?_ | refine Qo rfl ?_)
  refine st_call (fun _ => rfl) rfl ?_
  refine ACalls.mono (acalls_pure (E := E0 X) (fun X => hck X) (by simp [IdsLtL, IdsLt]) _) ?_
  rintro r H' ⟨rfl, rfl⟩
  first | refine nx rfl rfl ?_ | refine nx0 ?_
  repeat' (first | ((refine Qa rfl ?_); (first | refine Q0 ?_ | refine Q1 ?_ | refine Q2 rfl ?_ | refine Q5 rfl ?_); (refine QX rfl rfl ?_)) | refine Qh ?_ | refine Ql ?_ | refine Qm ?_ | refine Qo rfl ?_ | refine Qq rfl ?_ | refine Qs ?_)
  rw [decide_eq_false ns1]
  skip
  rw [decide_eq_false ns2]
  skip
  rw [decide_eq_false ns3]
  repeat' (first | ((refine Qa rfl ?_); (first | refine Q0 ?_ | refine Q3 rfl rfl rfl ?_); (refine QX rfl rfl ?_)) | refine Qa rfl ?_ | refine Ql ?_ | refine Qm ?_ | refine Qo rfl ?_ | refine Qq rfl ?_)
  refine st_call (fun _ => rfl) rfl ?_
  refine ACalls.mono (acalls_pure (E := E0 X) (fun X => hhd X) (by simp [IdsLtL, IdsLt]) _) ?_
  rintro r H' ⟨rfl, rfl⟩
  first | refine nx rfl rfl ?_ | refine nx0 ?_
  repeat' (first | ((refine Qa rfl ?_); (refine Q1 ?_); (refine QX rfl rfl ?_)) | refine Qh ?_ | refine Ql ?_)
  refine awp_region_auto2 [] [] (by exact rfl) (by kernel_rfl) ?_
  repeat' ((apply Qd rfl rfl rfl rfl); (first | refine Q0 ?_ | refine QR rfl rfl rfl rfl rfl rfl rfl rfl rfl rfl rfl rfl ?_); (exact QX rfl rfl ⟨rfl, rfl⟩))
  apply ds rfl rfl rfl rfl
  · refine st_call (fun _ => rfl) rfl ?_
    refine ACalls.mono (acalls_pure (E := E0 X) (fun X => hfi X) ⟨trivial, ids_n _, ids_n _, trivial⟩ _) ?_
    rintro r H' ⟨rfl, rfl⟩
    first
    | exact nx rfl rfl ⟨rfl, rfl⟩
    | exact nx0 ⟨rfl, rfl⟩
  repeat' ((apply Qd rfl rfl rfl rfl); (first | refine Q0 ?_ | refine Q3 rfl rfl rfl ?_ | refine Q4 rfl rfl rfl rfl rfl ?_ | refine QR rfl rfl rfl rfl rfl rfl rfl rfl rfl rfl rfl rfl ?_); (exact QX rfl rfl ⟨rfl, rfl⟩))
  apply ds rfl rfl rfl rfl
  · refine st_call (fun _ => rfl) rfl ?_
    refine ACalls.mono (acalls_pure (E := E0 X) (fun X => c1 X) (by simp [IdsLtL, IdsLt]) _) ?_
    rintro r H' ⟨rfl, rfl⟩
    first
    | exact nx rfl rfl ⟨rfl, rfl⟩
    | exact nx0 ⟨rfl, rfl⟩
  skip
  apply ds rfl rfl rfl rfl
  · refine st_call (fun _ => rfl) rfl ?_
    refine ACalls.mono (acalls_pure (E := E0 X) (fun X => hsu X) (by simp [IdsLtL, IdsLt]) _) ?_
    rintro r H' ⟨rfl, rfl⟩
    first
    | exact nx rfl rfl ⟨rfl, rfl⟩
    | exact nx0 ⟨rfl, rfl⟩
  repeat' (first | ((apply Qd rfl rfl rfl rfl); (refine Q1 ?_); (exact QX rfl rfl ⟨rfl, rfl⟩)) | refine Qk ?_ | refine Ql ?_)
  refine awp_region_auto2 [] [] (by exact rfl) (by kernel_rfl) ?_
  repeat' ((apply Qd rfl rfl rfl rfl); (first | refine Q0 ?_ | refine QG rfl rfl rfl rfl ?_); (exact QX rfl rfl ⟨rfl, rfl⟩))
  rw [wrap64 (by omega)]
  apply ds rfl rfl rfl rfl
  · refine st_call (fun _ => rfl) rfl ?_
    refine ACalls.mono (acalls_pure (E := E0 X) (fun X => hpu X) (by simp [IdsLtL, IdsLt]) _) ?_
    rintro r H' ⟨rfl, rfl⟩
    first
    | exact nx rfl rfl ⟨rfl, rfl⟩
    | exact nx0 ⟨rfl, rfl⟩
  repeat' ((apply Qd rfl rfl rfl rfl); (first | refine Q3 rfl rfl rfl ?_ | refine Q4 rfl rfl rfl rfl rfl ?_ | refine QR rfl rfl rfl rfl rfl rfl rfl rfl rfl rfl rfl rfl ?_); (exact QX rfl rfl ⟨rfl, rfl⟩))
  apply ds rfl rfl rfl rfl
  · refine st_call (fun _ => rfl) rfl ?_
    refine ACalls.mono (acalls_pure (E := E0 X) (fun X => c2 X) (by simp [IdsLtL, IdsLt]) _) ?_
    rintro r H' ⟨rfl, rfl⟩
    first
    | exact nx rfl rfl ⟨rfl, rfl⟩
    | exact nx0 ⟨rfl, rfl⟩
  repeat' (first | ((apply Qd rfl rfl rfl rfl); (refine Q1 ?_); (exact QX rfl rfl ⟨rfl, rfl⟩)) | refine Qk ?_ | refine Qs ?_)
  refine awp_ret ?_
  exact ⟨_, rfl, rfl⟩
set_option maxHeartbeats 0 in
theorem rencbad_c (X : Nat → Prop) (ver seq off : Int) (r : Rec) (hc : chkR ver r ≠ 0) :
    ACalls (E0 X) 127 [.int .i64 ver, .int .i64 seq, .int .i64 off, recA r] [] (fun q H' => q = .tup [.nils, .int .i64 (chkR ver r)] ∧ H' = []) := by
  refine ACalls.cut0 ?_ ⟨trivial, trivial, trivial⟩
  have hck := fun X => check_r X ver r
  generalize chkR ver r = e at *
  refine acalls_of Proofs.Tryd.func127 rfl Proofs.Tryd.ntmps127 (by kernel_rfl) rfl ?_
  intro hH hargs
  clear hH hargs
  repeat' (first | ((refine Qa rfl ?_); (first | refine Q0 ?_ | refine Q1 ?_ | refine Q3 rfl rfl rfl ?_ | refine QK rfl ?_); (refine QX rfl rfl ?_)) | refine Qa rfl ?_ | refine Qh ?_ | refine Ql ?_ | refine Qo rfl ?_)
  refine st_call (fun _ => rfl) rfl ?_
  refine ACalls.mono (acalls_pure (E := E0 X) (fun X => hck X) (by simp [IdsLtL, IdsLt]) _) ?_
  rintro r H' ⟨rfl, rfl⟩
  first | refine nx rfl rfl ?_ | refine nx0 ?_
  repeat' (first | ((refine Qa rfl ?_); (first | refine Q0 ?_ | refine Q1 ?_ | refine Q2 rfl ?_); (refine QX rfl rfl ?_)) | refine Qh ?_ | refine Ql ?_ | refine Qo rfl ?_ | refine Qs ?_)
  rw [decide_eq_true hc]
  repeat' (first | ((refine Qa rfl ?_); (first | refine Q0 ?_ | refine Q1 ?_); (refine QX rfl rfl ?_)) | refine Qh ?_ | refine Ql ?_ | refine Qo rfl ?_ | refine Qp rfl ?_ | refine Qs ?_)
  refine awp_ret ?_
  exact ⟨_, rfl, rfl⟩
end Go.Abs

