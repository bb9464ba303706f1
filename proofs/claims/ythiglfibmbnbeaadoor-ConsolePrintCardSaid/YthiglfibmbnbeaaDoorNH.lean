/- The reference: some, but for crash. Printed by gen_some.py. Joined texts, each with what its own name promises; no condition beyond those stated. -/
import Derived.Test.YthiglfibmbnbeaaDoorNG
namespace Go.Abs
def someQ (w : List UInt8) (l : List (List UInt8)) : Opv :=
  if w = [103, 101, 116] ∨ w = [100, 101, 108, 101, 116, 101] then (if l.length = 1 then { op0 (if w = [100, 101, 108, 101, 116, 101] then 3 else 1) with key := (byR (l.getD 0 [])).1 } else op0 0)
  else if w = [115, 101, 116] then (if l.length = 3 then { op0 2 with key := (byR (l.getD 0 [])).1, val := (byR (l.getD 1 [])).1, n := (numQ (l.getD 2 []) : Int) } else op0 0)
  else if w = [116, 105, 99, 107] ∨ w = [102, 117, 115, 101] then (if l.length = 1 then { op0 (if w = [102, 117, 115, 101] then 11 else 6) with n := (numQ (l.getD 0 []) : Int) } else op0 0)
  else if w = [114, 101, 115, 105, 122, 101] then (if l.length = 2 then { op0 7 with a := (numQ (l.getD 0 []) : Int), b := (numQ (l.getD 1 []) : Int) } else op0 0)
  else if w = [99, 114, 97, 115, 104] then (if 0 < l.length then { op0 12 with keep := (bitsP (l.getD 0 [])).getD [], tears := (l.drop 1).map tearQ } else op0 0)
  else op0 (plK w)
def resO (w : List UInt8) (l : List (List UInt8)) : AV := .tup [opS (someQ w l), .bool (cmdP w l).isSome]
theorem resO_ids (w : List UInt8) (l : List (List UInt8)) : IdsLt 0 (resO w l) := ⟨opC_ids _, trivial, trivial⟩
theorem numQ_some {s : List UInt8} {n : Nat} (h : numP s = some n) : numQ s = n := by unfold numQ; rw [h]; rfl
theorem tearsQ_some : ∀ (l : List (List UInt8)) (ts : List Tr), tearsP l = some ts → l.map tearQ = ts
  | [], ts, h => by simp [tearsP] at h; subst h; rfl
  | s :: l, ts, h => by
    unfold tearsP at h
    cases ht : tearP s with
    | none => rw [ht] at h; cases h
    | some t =>
      rw [ht] at h
      simp only [Option.map_eq_some_iff] at h
      obtain ⟨ts', h1, rfl⟩ := h
      rw [List.map_cons, tearQ_some ht, tearsQ_some l ts' h1]
theorem tearsP_all : ∀ l : List (List UInt8), (tearsP l).isSome = l.all fun s => (tearP s).isSome
  | [] => rfl
  | s :: l => by
    unfold tearsP
    rw [List.all_cons, ← tearsP_all l]
    cases tearP s <;> cases tearsP l <;> rfl
def zOp : Opv := op0 0
theorem cmdP_get (l : List (List UInt8)) (h : l.length = 1) : cmdP [103, 101, 116] l = (textP (l.getD 0 [])).map fun k => { op0 1 with key := k } := by
  unfold cmdP
  rw [if_neg (fun h => absurd h.1 (by decide)), if_pos ⟨rfl, h⟩]
  all_goals rfl
theorem cmdP_get0 (l : List (List UInt8)) (h : ¬ (l.length = 1)) : cmdP [103, 101, 116] l = none := by
  unfold cmdP
  rw [if_neg (fun h2 => absurd h2.1 (by decide)), if_neg (fun h2 => h h2.2), if_neg (fun h2 => absurd h2.1 (by decide)), if_neg (fun h2 => absurd h2.1 (by decide)), if_neg (fun h2 => absurd h2.1 (by decide)), if_neg (fun h2 => absurd h2.1 (by decide)), if_neg (fun h2 => absurd h2.1 (by decide)), if_neg (fun h2 => absurd h2.1 (by decide))]
theorem cmdP_delete (l : List (List UInt8)) (h : l.length = 1) : cmdP [100, 101, 108, 101, 116, 101] l = (textP (l.getD 0 [])).map fun k => { op0 3 with key := k } := by
  unfold cmdP
  rw [if_neg (fun h => absurd h.1 (by decide)), if_neg (fun h => absurd h.1 (by decide)), if_pos ⟨rfl, h⟩]
  all_goals rfl
theorem cmdP_delete0 (l : List (List UInt8)) (h : ¬ (l.length = 1)) : cmdP [100, 101, 108, 101, 116, 101] l = none := by
  unfold cmdP
  rw [if_neg (fun h2 => absurd h2.1 (by decide)), if_neg (fun h2 => absurd h2.1 (by decide)), if_neg (fun h2 => h h2.2), if_neg (fun h2 => absurd h2.1 (by decide)), if_neg (fun h2 => absurd h2.1 (by decide)), if_neg (fun h2 => absurd h2.1 (by decide)), if_neg (fun h2 => absurd h2.1 (by decide)), if_neg (fun h2 => absurd h2.1 (by decide))]
theorem cmdP_set (l : List (List UInt8)) (h : l.length = 3) : cmdP [115, 101, 116] l = match textP (l.getD 0 []), textP (l.getD 1 []), numP (l.getD 2 []) with
      | some k, some v, some n => some { op0 2 with key := k, val := v, n := (n : Int) }
      | _, _, _ => none := by
  unfold cmdP
  rw [if_neg (fun h => absurd h.1 (by decide)), if_neg (fun h => absurd h.1 (by decide)), if_neg (fun h => absurd h.1 (by decide)), if_pos ⟨rfl, h⟩]
  all_goals rfl
theorem cmdP_set0 (l : List (List UInt8)) (h : ¬ (l.length = 3)) : cmdP [115, 101, 116] l = none := by
  unfold cmdP
  rw [if_neg (fun h2 => absurd h2.1 (by decide)), if_neg (fun h2 => absurd h2.1 (by decide)), if_neg (fun h2 => absurd h2.1 (by decide)), if_neg (fun h2 => h h2.2), if_neg (fun h2 => absurd h2.1 (by decide)), if_neg (fun h2 => absurd h2.1 (by decide)), if_neg (fun h2 => absurd h2.1 (by decide)), if_neg (fun h2 => absurd h2.1 (by decide))]
theorem cmdP_tick (l : List (List UInt8)) (h : l.length = 1) : cmdP [116, 105, 99, 107] l = (numP (l.getD 0 [])).map fun n : Nat => { op0 6 with n := (n : Int) } := by
  unfold cmdP
  rw [if_neg (fun h => absurd h.1 (by decide)), if_neg (fun h => absurd h.1 (by decide)), if_neg (fun h => absurd h.1 (by decide)), if_neg (fun h => absurd h.1 (by decide)), if_pos ⟨rfl, h⟩]
  all_goals rfl
theorem cmdP_tick0 (l : List (List UInt8)) (h : ¬ (l.length = 1)) : cmdP [116, 105, 99, 107] l = none := by
  unfold cmdP
  rw [if_neg (fun h2 => absurd h2.1 (by decide)), if_neg (fun h2 => absurd h2.1 (by decide)), if_neg (fun h2 => absurd h2.1 (by decide)), if_neg (fun h2 => absurd h2.1 (by decide)), if_neg (fun h2 => h h2.2), if_neg (fun h2 => absurd h2.1 (by decide)), if_neg (fun h2 => absurd h2.1 (by decide)), if_neg (fun h2 => absurd h2.1 (by decide))]
theorem cmdP_fuse (l : List (List UInt8)) (h : l.length = 1) : cmdP [102, 117, 115, 101] l = (numP (l.getD 0 [])).map fun n : Nat => { op0 11 with n := (n : Int) } := by
  unfold cmdP
  rw [if_neg (fun h => absurd h.1 (by decide)), if_neg (fun h => absurd h.1 (by decide)), if_neg (fun h => absurd h.1 (by decide)), if_neg (fun h => absurd h.1 (by decide)), if_neg (fun h => absurd h.1 (by decide)), if_pos ⟨rfl, h⟩]
  all_goals rfl
theorem cmdP_fuse0 (l : List (List UInt8)) (h : ¬ (l.length = 1)) : cmdP [102, 117, 115, 101] l = none := by
  unfold cmdP
  rw [if_neg (fun h2 => absurd h2.1 (by decide)), if_neg (fun h2 => absurd h2.1 (by decide)), if_neg (fun h2 => absurd h2.1 (by decide)), if_neg (fun h2 => absurd h2.1 (by decide)), if_neg (fun h2 => absurd h2.1 (by decide)), if_neg (fun h2 => h h2.2), if_neg (fun h2 => absurd h2.1 (by decide)), if_neg (fun h2 => absurd h2.1 (by decide))]
theorem cmdP_resize (l : List (List UInt8)) (h : l.length = 2) : cmdP [114, 101, 115, 105, 122, 101] l = match numP (l.getD 0 []), numP (l.getD 1 []) with
      | some a, some b => some { op0 7 with a := (a : Int), b := (b : Int) }
      | _, _ => none := by
  unfold cmdP
  rw [if_neg (fun h => absurd h.1 (by decide)), if_neg (fun h => absurd h.1 (by decide)), if_neg (fun h => absurd h.1 (by decide)), if_neg (fun h => absurd h.1 (by decide)), if_neg (fun h => absurd h.1 (by decide)), if_neg (fun h => absurd h.1 (by decide)), if_pos ⟨rfl, h⟩]
  all_goals rfl
theorem cmdP_resize0 (l : List (List UInt8)) (h : ¬ (l.length = 2)) : cmdP [114, 101, 115, 105, 122, 101] l = none := by
  unfold cmdP
  rw [if_neg (fun h2 => absurd h2.1 (by decide)), if_neg (fun h2 => absurd h2.1 (by decide)), if_neg (fun h2 => absurd h2.1 (by decide)), if_neg (fun h2 => absurd h2.1 (by decide)), if_neg (fun h2 => absurd h2.1 (by decide)), if_neg (fun h2 => absurd h2.1 (by decide)), if_neg (fun h2 => h h2.2), if_neg (fun h2 => absurd h2.1 (by decide))]
theorem cmdP_crash (l : List (List UInt8)) (h : 0 < l.length) : cmdP [99, 114, 97, 115, 104] l = match bitsP (l.getD 0 []), tearsP (l.drop 1) with
      | some k, some t => some { op0 12 with keep := k, tears := t }
      | _, _ => none := by
  unfold cmdP
  rw [if_neg (fun h => absurd h.1 (by decide)), if_neg (fun h => absurd h.1 (by decide)), if_neg (fun h => absurd h.1 (by decide)), if_neg (fun h => absurd h.1 (by decide)), if_neg (fun h => absurd h.1 (by decide)), if_neg (fun h => absurd h.1 (by decide)), if_neg (fun h => absurd h.1 (by decide)), if_pos ⟨rfl, h⟩]
  all_goals rfl
theorem cmdP_crash0 (l : List (List UInt8)) (h : ¬ (0 < l.length)) : cmdP [99, 114, 97, 115, 104] l = none := by
  unfold cmdP
  rw [if_neg (fun h2 => absurd h2.1 (by decide)), if_neg (fun h2 => absurd h2.1 (by decide)), if_neg (fun h2 => absurd h2.1 (by decide)), if_neg (fun h2 => absurd h2.1 (by decide)), if_neg (fun h2 => absurd h2.1 (by decide)), if_neg (fun h2 => absurd h2.1 (by decide)), if_neg (fun h2 => absurd h2.1 (by decide)), if_neg (fun h2 => h h2.2)]
attribute [local irreducible] AStep aops AWp Nx awM APanic
set_option maxHeartbeats 0 in
theorem rs_get (X : Nat → Prop) (l : List (List UInt8)) (hl : l.length ≤ 100000) (hs : ∀ s ∈ l, s.length ≤ 1000000) : ACalls (E0 X) 20 [.sl 1 (([103, 101, 116] :: l).map strA)] [] (fun r _ => Wk r (resO [103, 101, 116] l)) := by
  by_cases heq : l.length = 1
  rotate_left
  · have hR : resO [103, 101, 116] l = .tup [opS (op0 0), .bool false] := by
      rw [resO, cmdP_get0 l heq]
      simp [someQ, heq]
    rw [hR]
    refine acalls_of Proofs.Tryd.func20 rfl Proofs.Tryd.ntmps20 (by kernel_rfl) rfl ?_
    intro hH hargs
    clear hH hargs
    repeat' (first | ((refine Qa rfl ?_); (first | refine Q0 ?_ | refine Q1 ?_ | refine QJ rfl rfl ?_); (refine QX rfl rfl ?_)) | refine Qa rfl ?_ | refine Qh ?_ | refine Ql ?_ | refine Qo rfl ?_)
    refine st_ixm (show ([103, 101, 116] :: l)[0]? = some [103, 101, 116] from rfl) rfl rfl rfl rfl rfl rfl rfl (by first | rfl | omega) rfl ?_
    first | refine nx rfl rfl ?_ | refine nx0 ?_
    repeat' (first | ((refine Qa rfl ?_); (first | refine Q0 ?_ | refine Q1 ?_ | refine Q2 rfl ?_ | refine Q3 rfl rfl rfl ?_ | refine Q7 rfl rfl rfl ?_); (refine QX rfl rfl ?_)) | refine Qh ?_ | refine Ql ?_ | refine Qm ?_ | refine Qn ?_ | refine Qo rfl ?_ | refine Qp rfl ?_ | refine Qs ?_)
    refine awp_cond_dec rfl (fun g => ?_) (fun g => ?_)
    · repeat' (first | ((refine Qa rfl ?_); (first | refine Q1 ?_ | refine QP rfl rfl rfl rfl rfl rfl ?_); (refine QX rfl rfl ?_)) | (refine Qb rfl ?_; try (refine QS rfl rfl rfl rfl rfl rfl rfl ?_; (refine QX rfl rfl ?_))) | refine Qh ?_ | refine Ql ?_ | refine Qo rfl ?_ | refine Qs ?_)
      refine awp_ret ?_
      exact ⟨_, rfl, wk_tup (wkL_cons wk_z (WkL.refl _))⟩
    · exact absurd (by simp at g; omega) heq
  obtain ⟨s, rfl⟩ : ∃ s, l = [s] := ⟨_, len1 (d := []) heq⟩
  have hR : resO [103, 101, 116] [s] = .tup [opS { op0 1 with key := (byR s).1 }, .bool (byR s).2] := by
    rw [resO, cmdP_get [s] heq]
    have e1 : someQ [103, 101, 116] [s] = { op0 1 with key := (byR s).1 } := by simp [someQ]
    rw [e1]
    refine congrArg (fun q => AV.tup [opS { op0 1 with key := (byR s).1 }, .bool q]) ?_
    rw [byR_ok]; show (Option.map _ (textP s)).isSome = _; cases textP s <;> rfl
  rw [hR]
  refine acalls_of Proofs.Tryd.func20 rfl Proofs.Tryd.ntmps20 (by kernel_rfl) rfl ?_
  intro hH hargs
  clear hH hargs
  repeat' (first | ((refine Qa rfl ?_); (first | refine Q0 ?_ | refine Q1 ?_ | refine QJ rfl rfl ?_); (refine QX rfl rfl ?_)) | refine Qa rfl ?_ | refine Qh ?_ | refine Ql ?_ | refine Qo rfl ?_)
  refine st_ixm (show ([[103, 101, 116], s] : List (List UInt8))[0]? = some [103, 101, 116] from rfl) rfl rfl rfl rfl rfl rfl rfl (by first | rfl | omega) rfl ?_
  first | refine nx rfl rfl ?_ | refine nx0 ?_
  repeat' (first | ((refine Qa rfl ?_); (first | refine Q0 ?_ | refine Q1 ?_ | refine Q2 rfl ?_ | refine Q3 rfl rfl rfl ?_ | refine Q7 rfl rfl rfl ?_); (refine QX rfl rfl ?_)) | refine Qa rfl ?_ | refine Qh ?_ | refine Ql ?_ | refine Qm ?_ | refine Qn ?_ | refine Qo rfl ?_ | refine Qp rfl ?_ | refine Qq rfl ?_)
  skip
  refine st_ixm (show ([[103, 101, 116], s] : List (List UInt8))[1]? = some s from rfl) rfl rfl rfl rfl rfl rfl rfl (by first | rfl | omega) rfl ?_
  first | refine nx rfl rfl ?_ | refine nx0 ?_
  repeat' (first | ((refine Qa rfl ?_); (refine Q3 rfl rfl rfl ?_); (refine QX rfl rfl ?_)) | refine Qa rfl ?_)
  refine st_call (fun _ => rfl) rfl ?_
  refine ACalls.mono (acalls_pure (E := E0 X) (fun X => rbytes_c X s (hs s (by simp))) (by simp [IdsLtL, IdsLt]) _) ?_
  rintro r H' ⟨rfl, rfl⟩
  first | refine nx rfl rfl ?_ | refine nx0 ?_
  repeat' (first | ((refine Qa rfl ?_); (first | refine Q0 ?_ | refine Q1 ?_ | refine QC rfl rfl ?_ | refine QJ rfl rfl ?_ | refine QP rfl rfl rfl rfl rfl rfl ?_); (refine QX rfl rfl ?_)) | refine Qa rfl ?_ | (refine Qb rfl ?_; try (refine QS rfl rfl rfl rfl rfl rfl rfl ?_; (refine QX rfl rfl ?_))) | refine Qh ?_ | refine Ql ?_ | refine Qo rfl ?_)
  refine st_ixm (show ([[103, 101, 116], s] : List (List UInt8))[0]? = some [103, 101, 116] from rfl) rfl rfl rfl rfl rfl rfl rfl (by first | rfl | omega) rfl ?_
  first | refine nx rfl rfl ?_ | refine nx0 ?_
  repeat' (first | ((refine Qa rfl ?_); (first | refine Q0 ?_ | refine Q1 ?_ | refine Q2 rfl ?_ | refine Q3 rfl rfl rfl ?_); (refine QX rfl rfl ?_)) | (refine Qb rfl ?_; try (refine QS rfl rfl rfl rfl rfl rfl rfl ?_; (refine QX rfl rfl ?_))) | refine Qh ?_ | refine Ql ?_ | refine Qm ?_ | refine Qo rfl ?_ | refine Qq rfl ?_ | refine Qs ?_)
  refine awp_ret ?_
  exact ⟨_, rfl, wk_tup (wkL_cons (wk_agg (wkL_cons (Wk.refl _) (wkL_cons (Wk.refl _) (wkL_cons wk_nil (wkL_cons (Wk.refl _) (wkL_cons (Wk.refl _) (wkL_cons (Wk.refl _) (wkL_cons wk_nil (wkL_cons wk_nil (wkL_nil)))))))))) (WkL.refl _))⟩
set_option maxHeartbeats 0 in
theorem rs_delete (X : Nat → Prop) (l : List (List UInt8)) (hl : l.length ≤ 100000) (hs : ∀ s ∈ l, s.length ≤ 1000000) : ACalls (E0 X) 20 [.sl 1 (([100, 101, 108, 101, 116, 101] :: l).map strA)] [] (fun r _ => Wk r (resO [100, 101, 108, 101, 116, 101] l)) := by
  by_cases heq : l.length = 1
  rotate_left
  · have hR : resO [100, 101, 108, 101, 116, 101] l = .tup [opS (op0 0), .bool false] := by
      rw [resO, cmdP_delete0 l heq]
      simp [someQ, heq]
    rw [hR]
    refine acalls_of Proofs.Tryd.func20 rfl Proofs.Tryd.ntmps20 (by kernel_rfl) rfl ?_
    intro hH hargs
    clear hH hargs
    repeat' (first | ((refine Qa rfl ?_); (first | refine Q0 ?_ | refine Q1 ?_ | refine QJ rfl rfl ?_); (refine QX rfl rfl ?_)) | refine Qa rfl ?_ | refine Qh ?_ | refine Ql ?_ | refine Qo rfl ?_)
    refine st_ixm (show ([100, 101, 108, 101, 116, 101] :: l)[0]? = some [100, 101, 108, 101, 116, 101] from rfl) rfl rfl rfl rfl rfl rfl rfl (by first | rfl | omega) rfl ?_
    first | refine nx rfl rfl ?_ | refine nx0 ?_
    repeat' (first | ((refine Qa rfl ?_); (first | refine Q0 ?_ | refine Q1 ?_ | refine Q2 rfl ?_ | refine Q3 rfl rfl rfl ?_ | refine Q7 rfl rfl rfl ?_); (refine QX rfl rfl ?_)) | refine Qh ?_ | refine Ql ?_ | refine Qn ?_ | refine Qo rfl ?_ | refine Qp rfl ?_ | refine Qq rfl ?_ | refine Qs ?_)
    refine awp_cond_dec rfl (fun g => ?_) (fun g => ?_)
    · repeat' (first | ((refine Qa rfl ?_); (first | refine Q1 ?_ | refine QP rfl rfl rfl rfl rfl rfl ?_); (refine QX rfl rfl ?_)) | (refine Qb rfl ?_; try (refine QS rfl rfl rfl rfl rfl rfl rfl ?_; (refine QX rfl rfl ?_))) | refine Qh ?_ | refine Ql ?_ | refine Qo rfl ?_ | refine Qs ?_)
      refine awp_ret ?_
      exact ⟨_, rfl, wk_tup (wkL_cons wk_z (WkL.refl _))⟩
    · exact absurd (by simp at g; omega) heq
  obtain ⟨s, rfl⟩ : ∃ s, l = [s] := ⟨_, len1 (d := []) heq⟩
  have hR : resO [100, 101, 108, 101, 116, 101] [s] = .tup [opS { op0 3 with key := (byR s).1 }, .bool (byR s).2] := by
    rw [resO, cmdP_delete [s] heq]
    have e1 : someQ [100, 101, 108, 101, 116, 101] [s] = { op0 3 with key := (byR s).1 } := by simp [someQ]
    rw [e1]
    refine congrArg (fun q => AV.tup [opS { op0 3 with key := (byR s).1 }, .bool q]) ?_
    rw [byR_ok]; show (Option.map _ (textP s)).isSome = _; cases textP s <;> rfl
  rw [hR]
  refine acalls_of Proofs.Tryd.func20 rfl Proofs.Tryd.ntmps20 (by kernel_rfl) rfl ?_
  intro hH hargs
  clear hH hargs
  repeat' (first | ((refine Qa rfl ?_); (first | refine Q0 ?_ | refine Q1 ?_ | refine QJ rfl rfl ?_); (refine QX rfl rfl ?_)) | refine Qa rfl ?_ | refine Qh ?_ | refine Ql ?_ | refine Qo rfl ?_)
  refine st_ixm (show ([[100, 101, 108, 101, 116, 101], s] : List (List UInt8))[0]? = some [100, 101, 108, 101, 116, 101] from rfl) rfl rfl rfl rfl rfl rfl rfl (by first | rfl | omega) rfl ?_
  first | refine nx rfl rfl ?_ | refine nx0 ?_
  repeat' (first | ((refine Qa rfl ?_); (first | refine Q0 ?_ | refine Q1 ?_ | refine Q2 rfl ?_ | refine Q3 rfl rfl rfl ?_ | refine Q7 rfl rfl rfl ?_); (refine QX rfl rfl ?_)) | refine Qa rfl ?_ | refine Qh ?_ | refine Ql ?_ | refine Qm ?_ | refine Qn ?_ | refine Qo rfl ?_ | refine Qp rfl ?_ | refine Qq rfl ?_)
  skip
  refine st_ixm (show ([[100, 101, 108, 101, 116, 101], s] : List (List UInt8))[1]? = some s from rfl) rfl rfl rfl rfl rfl rfl rfl (by first | rfl | omega) rfl ?_
  first | refine nx rfl rfl ?_ | refine nx0 ?_
  repeat' (first | ((refine Qa rfl ?_); (refine Q3 rfl rfl rfl ?_); (refine QX rfl rfl ?_)) | refine Qa rfl ?_)
  refine st_call (fun _ => rfl) rfl ?_
  refine ACalls.mono (acalls_pure (E := E0 X) (fun X => rbytes_c X s (hs s (by simp))) (by simp [IdsLtL, IdsLt]) _) ?_
  rintro r H' ⟨rfl, rfl⟩
  first | refine nx rfl rfl ?_ | refine nx0 ?_
  repeat' (first | ((refine Qa rfl ?_); (first | refine Q0 ?_ | refine Q1 ?_ | refine QC rfl rfl ?_ | refine QJ rfl rfl ?_ | refine QP rfl rfl rfl rfl rfl rfl ?_); (refine QX rfl rfl ?_)) | refine Qa rfl ?_ | (refine Qb rfl ?_; try (refine QS rfl rfl rfl rfl rfl rfl rfl ?_; (refine QX rfl rfl ?_))) | refine Qh ?_ | refine Ql ?_ | refine Qo rfl ?_)
  refine st_ixm (show ([[100, 101, 108, 101, 116, 101], s] : List (List UInt8))[0]? = some [100, 101, 108, 101, 116, 101] from rfl) rfl rfl rfl rfl rfl rfl rfl (by first | rfl | omega) rfl ?_
  first | refine nx rfl rfl ?_ | refine nx0 ?_
  repeat' (first | ((refine Qa rfl ?_); (first | refine Q0 ?_ | refine Q1 ?_ | refine Q2 rfl ?_ | refine Q3 rfl rfl rfl ?_ | refine Q4 rfl rfl rfl rfl rfl ?_); (refine QX rfl rfl ?_)) | (refine Qb rfl ?_; try (refine QS rfl rfl rfl rfl rfl rfl rfl ?_; (refine QX rfl rfl ?_))) | refine Qh ?_ | refine Ql ?_ | refine Qo rfl ?_ | refine Qp rfl ?_ | refine Qs ?_)
  refine awp_ret ?_
  exact ⟨_, rfl, wk_tup (wkL_cons (wk_agg (wkL_cons (Wk.refl _) (wkL_cons (Wk.refl _) (wkL_cons wk_nil (wkL_cons (Wk.refl _) (wkL_cons (Wk.refl _) (wkL_cons (Wk.refl _) (wkL_cons wk_nil (wkL_cons wk_nil (wkL_nil)))))))))) (WkL.refl _))⟩
set_option maxHeartbeats 0 in
theorem rs_tick (X : Nat → Prop) (l : List (List UInt8)) (hl : l.length ≤ 100000) (hs : ∀ s ∈ l, s.length ≤ 1000000) : ACalls (E0 X) 20 [.sl 1 (([116, 105, 99, 107] :: l).map strA)] [] (fun r _ => Wk r (resO [116, 105, 99, 107] l)) := by
  by_cases heq : l.length = 1
  rotate_left
  · have hR : resO [116, 105, 99, 107] l = .tup [opS (op0 0), .bool false] := by
      rw [resO, cmdP_tick0 l heq]
      simp [someQ, heq]
    rw [hR]
    refine acalls_of Proofs.Tryd.func20 rfl Proofs.Tryd.ntmps20 (by kernel_rfl) rfl ?_
    intro hH hargs
    clear hH hargs
    repeat' (first | ((refine Qa rfl ?_); (first | refine Q0 ?_ | refine Q1 ?_ | refine QJ rfl rfl ?_); (refine QX rfl rfl ?_)) | refine Qa rfl ?_ | refine Qh ?_ | refine Ql ?_ | refine Qo rfl ?_)
    refine st_ixm (show ([116, 105, 99, 107] :: l)[0]? = some [116, 105, 99, 107] from rfl) rfl rfl rfl rfl rfl rfl rfl (by first | rfl | omega) rfl ?_
    first | refine nx rfl rfl ?_ | refine nx0 ?_
    repeat' (first | ((refine Qa rfl ?_); (first | refine Q0 ?_ | refine Q1 ?_ | refine Q2 rfl ?_ | refine Q3 rfl rfl rfl ?_ | refine Q7 rfl rfl rfl ?_); (refine QX rfl rfl ?_)) | refine Qh ?_ | refine Ql ?_ | refine Qm ?_ | refine Qn ?_ | refine Qo rfl ?_ | refine Qp rfl ?_ | refine Qq rfl ?_ | refine Qs ?_)
    refine awp_cond_dec rfl (fun g => ?_) (fun g => ?_)
    · repeat' (first | ((refine Qa rfl ?_); (first | refine Q1 ?_ | refine QP rfl rfl rfl rfl rfl rfl ?_); (refine QX rfl rfl ?_)) | (refine Qb rfl ?_; try (refine QS rfl rfl rfl rfl rfl rfl rfl ?_; (refine QX rfl rfl ?_))) | refine Qh ?_ | refine Ql ?_ | refine Qo rfl ?_ | refine Qs ?_)
      refine awp_ret ?_
      exact ⟨_, rfl, wk_tup (wkL_cons wk_z (WkL.refl _))⟩
    · exact absurd (by simp at g; omega) heq
  obtain ⟨s, rfl⟩ : ∃ s, l = [s] := ⟨_, len1 (d := []) heq⟩
  have hR : resO [116, 105, 99, 107] [s] = .tup [opS { op0 6 with n := (numQ s : Int) }, .bool (numP s).isSome] := by
    rw [resO, cmdP_tick [s] heq]
    have e1 : someQ [116, 105, 99, 107] [s] = { op0 6 with n := (numQ s : Int) } := by simp [someQ]
    rw [e1]
    refine congrArg (fun q => AV.tup [opS { op0 6 with n := (numQ s : Int) }, .bool q]) ?_
    show (Option.map _ (numP s)).isSome = _; cases numP s <;> rfl
  rw [hR]
  refine acalls_of Proofs.Tryd.func20 rfl Proofs.Tryd.ntmps20 (by kernel_rfl) rfl ?_
  intro hH hargs
  clear hH hargs
  repeat' (first | ((refine Qa rfl ?_); (first | refine Q0 ?_ | refine Q1 ?_ | refine QJ rfl rfl ?_); (refine QX rfl rfl ?_)) | refine Qa rfl ?_ | refine Qh ?_ | refine Ql ?_ | refine Qo rfl ?_)
  refine st_ixm (show ([[116, 105, 99, 107], s] : List (List UInt8))[0]? = some [116, 105, 99, 107] from rfl) rfl rfl rfl rfl rfl rfl rfl (by first | rfl | omega) rfl ?_
  first | refine nx rfl rfl ?_ | refine nx0 ?_
  repeat' (first | ((refine Qa rfl ?_); (first | refine Q0 ?_ | refine Q1 ?_ | refine Q2 rfl ?_ | refine Q3 rfl rfl rfl ?_ | refine Q7 rfl rfl rfl ?_); (refine QX rfl rfl ?_)) | refine Qa rfl ?_ | refine Qh ?_ | refine Ql ?_ | refine Qm ?_ | refine Qn ?_ | refine Qo rfl ?_ | refine Qp rfl ?_ | refine Qq rfl ?_)
  skip
  refine st_ixm (show ([[116, 105, 99, 107], s] : List (List UInt8))[1]? = some s from rfl) rfl rfl rfl rfl rfl rfl rfl (by first | rfl | omega) rfl ?_
  first | refine nx rfl rfl ?_ | refine nx0 ?_
  repeat' (first | ((refine Qa rfl ?_); (refine Q3 rfl rfl rfl ?_); (refine QX rfl rfl ?_)) | refine Qa rfl ?_)
  refine st_call (fun _ => rfl) rfl ?_
  refine ACalls.mono (acalls_pure (E := E0 X) (fun X => rnum_t X s) (by simp [IdsLtL, IdsLt]) _) ?_
  rintro r H' ⟨rfl, rfl⟩
  first | refine nx rfl rfl ?_ | refine nx0 ?_
  repeat' (first | ((refine Qa rfl ?_); (first | refine Q0 ?_ | refine Q1 ?_ | refine QC rfl rfl ?_ | refine QJ rfl rfl ?_ | refine QP rfl rfl rfl rfl rfl rfl ?_); (refine QX rfl rfl ?_)) | refine Qa rfl ?_ | (refine Qb rfl ?_; try (refine QS rfl rfl rfl rfl rfl rfl rfl ?_; (refine QX rfl rfl ?_))) | refine Qh ?_ | refine Ql ?_ | refine Qo rfl ?_)
  refine st_ixm (show ([[116, 105, 99, 107], s] : List (List UInt8))[0]? = some [116, 105, 99, 107] from rfl) rfl rfl rfl rfl rfl rfl rfl (by first | rfl | omega) rfl ?_
  first | refine nx rfl rfl ?_ | refine nx0 ?_
  repeat' (first | ((refine Qa rfl ?_); (first | refine Q0 ?_ | refine Q1 ?_ | refine Q2 rfl ?_ | refine Q3 rfl rfl rfl ?_); (refine QX rfl rfl ?_)) | (refine Qb rfl ?_; try (refine QS rfl rfl rfl rfl rfl rfl rfl ?_; (refine QX rfl rfl ?_))) | refine Qh ?_ | refine Ql ?_ | refine Qm ?_ | refine Qo rfl ?_ | refine Qq rfl ?_ | refine Qs ?_)
  refine awp_ret ?_
  exact ⟨_, rfl, wk_tup (wkL_cons (wk_agg (wkL_cons (Wk.refl _) (wkL_cons wk_nil (wkL_cons wk_nil (wkL_cons (Wk.refl _) (wkL_cons (Wk.refl _) (wkL_cons (Wk.refl _) (wkL_cons wk_nil (wkL_cons wk_nil (wkL_nil)))))))))) (WkL.refl _))⟩
set_option maxHeartbeats 0 in
theorem rs_fuse (X : Nat → Prop) (l : List (List UInt8)) (hl : l.length ≤ 100000) (hs : ∀ s ∈ l, s.length ≤ 1000000) : ACalls (E0 X) 20 [.sl 1 (([102, 117, 115, 101] :: l).map strA)] [] (fun r _ => Wk r (resO [102, 117, 115, 101] l)) := by
  by_cases heq : l.length = 1
  rotate_left
  · have hR : resO [102, 117, 115, 101] l = .tup [opS (op0 0), .bool false] := by
      rw [resO, cmdP_fuse0 l heq]
      simp [someQ, heq]
    rw [hR]
    refine acalls_of Proofs.Tryd.func20 rfl Proofs.Tryd.ntmps20 (by kernel_rfl) rfl ?_
    intro hH hargs
    clear hH hargs
    repeat' (first | ((refine Qa rfl ?_); (first | refine Q0 ?_ | refine Q1 ?_ | refine QJ rfl rfl ?_); (refine QX rfl rfl ?_)) | refine Qa rfl ?_ | refine Qh ?_ | refine Ql ?_ | refine Qo rfl ?_)
    refine st_ixm (show ([102, 117, 115, 101] :: l)[0]? = some [102, 117, 115, 101] from rfl) rfl rfl rfl rfl rfl rfl rfl (by first | rfl | omega) rfl ?_
    first | refine nx rfl rfl ?_ | refine nx0 ?_
    repeat' (first | ((refine Qa rfl ?_); (first | refine Q0 ?_ | refine Q1 ?_ | refine Q2 rfl ?_ | refine Q3 rfl rfl rfl ?_ | refine Q7 rfl rfl rfl ?_); (refine QX rfl rfl ?_)) | refine Qh ?_ | refine Ql ?_ | refine Qn ?_ | refine Qo rfl ?_ | refine Qp rfl ?_ | refine Qq rfl ?_ | refine Qs ?_)
    refine awp_cond_dec rfl (fun g => ?_) (fun g => ?_)
    · repeat' (first | ((refine Qa rfl ?_); (first | refine Q1 ?_ | refine QP rfl rfl rfl rfl rfl rfl ?_); (refine QX rfl rfl ?_)) | (refine Qb rfl ?_; try (refine QS rfl rfl rfl rfl rfl rfl rfl ?_; (refine QX rfl rfl ?_))) | refine Qh ?_ | refine Ql ?_ | refine Qo rfl ?_ | refine Qs ?_)
      refine awp_ret ?_
      exact ⟨_, rfl, wk_tup (wkL_cons wk_z (WkL.refl _))⟩
    · exact absurd (by simp at g; omega) heq
  obtain ⟨s, rfl⟩ : ∃ s, l = [s] := ⟨_, len1 (d := []) heq⟩
  have hR : resO [102, 117, 115, 101] [s] = .tup [opS { op0 11 with n := (numQ s : Int) }, .bool (numP s).isSome] := by
    rw [resO, cmdP_fuse [s] heq]
    have e1 : someQ [102, 117, 115, 101] [s] = { op0 11 with n := (numQ s : Int) } := by simp [someQ]
    rw [e1]
    refine congrArg (fun q => AV.tup [opS { op0 11 with n := (numQ s : Int) }, .bool q]) ?_
    show (Option.map _ (numP s)).isSome = _; cases numP s <;> rfl
  rw [hR]
  refine acalls_of Proofs.Tryd.func20 rfl Proofs.Tryd.ntmps20 (by kernel_rfl) rfl ?_
  intro hH hargs
  clear hH hargs
  repeat' (first | ((refine Qa rfl ?_); (first | refine Q0 ?_ | refine Q1 ?_ | refine QJ rfl rfl ?_); (refine QX rfl rfl ?_)) | refine Qa rfl ?_ | refine Qh ?_ | refine Ql ?_ | refine Qo rfl ?_)
  refine st_ixm (show ([[102, 117, 115, 101], s] : List (List UInt8))[0]? = some [102, 117, 115, 101] from rfl) rfl rfl rfl rfl rfl rfl rfl (by first | rfl | omega) rfl ?_
  first | refine nx rfl rfl ?_ | refine nx0 ?_
  repeat' (first | ((refine Qa rfl ?_); (first | refine Q0 ?_ | refine Q1 ?_ | refine Q2 rfl ?_ | refine Q3 rfl rfl rfl ?_ | refine Q7 rfl rfl rfl ?_); (refine QX rfl rfl ?_)) | refine Qa rfl ?_ | refine Qh ?_ | refine Ql ?_ | refine Qm ?_ | refine Qn ?_ | refine Qo rfl ?_ | refine Qp rfl ?_ | refine Qq rfl ?_)
  skip
  refine st_ixm (show ([[102, 117, 115, 101], s] : List (List UInt8))[1]? = some s from rfl) rfl rfl rfl rfl rfl rfl rfl (by first | rfl | omega) rfl ?_
  first | refine nx rfl rfl ?_ | refine nx0 ?_
  repeat' (first | ((refine Qa rfl ?_); (refine Q3 rfl rfl rfl ?_); (refine QX rfl rfl ?_)) | refine Qa rfl ?_)
  refine st_call (fun _ => rfl) rfl ?_
  refine ACalls.mono (acalls_pure (E := E0 X) (fun X => rnum_t X s) (by simp [IdsLtL, IdsLt]) _) ?_
  rintro r H' ⟨rfl, rfl⟩
  first | refine nx rfl rfl ?_ | refine nx0 ?_
  repeat' (first | ((refine Qa rfl ?_); (first | refine Q0 ?_ | refine Q1 ?_ | refine QC rfl rfl ?_ | refine QJ rfl rfl ?_ | refine QP rfl rfl rfl rfl rfl rfl ?_); (refine QX rfl rfl ?_)) | refine Qa rfl ?_ | (refine Qb rfl ?_; try (refine QS rfl rfl rfl rfl rfl rfl rfl ?_; (refine QX rfl rfl ?_))) | refine Qh ?_ | refine Ql ?_ | refine Qo rfl ?_)
  refine st_ixm (show ([[102, 117, 115, 101], s] : List (List UInt8))[0]? = some [102, 117, 115, 101] from rfl) rfl rfl rfl rfl rfl rfl rfl (by first | rfl | omega) rfl ?_
  first | refine nx rfl rfl ?_ | refine nx0 ?_
  repeat' (first | ((refine Qa rfl ?_); (first | refine Q0 ?_ | refine Q1 ?_ | refine Q2 rfl ?_ | refine Q3 rfl rfl rfl ?_ | refine Q4 rfl rfl rfl rfl rfl ?_); (refine QX rfl rfl ?_)) | (refine Qb rfl ?_; try (refine QS rfl rfl rfl rfl rfl rfl rfl ?_; (refine QX rfl rfl ?_))) | refine Qh ?_ | refine Ql ?_ | refine Qo rfl ?_ | refine Qp rfl ?_ | refine Qs ?_)
  refine awp_ret ?_
  exact ⟨_, rfl, wk_tup (wkL_cons (wk_agg (wkL_cons (Wk.refl _) (wkL_cons wk_nil (wkL_cons wk_nil (wkL_cons (Wk.refl _) (wkL_cons (Wk.refl _) (wkL_cons (Wk.refl _) (wkL_cons wk_nil (wkL_cons wk_nil (wkL_nil)))))))))) (WkL.refl _))⟩
set_option maxHeartbeats 0 in
theorem rs_set (X : Nat → Prop) (l : List (List UInt8)) (hl : l.length ≤ 100000) (hs : ∀ s ∈ l, s.length ≤ 1000000) : ACalls (E0 X) 20 [.sl 1 (([115, 101, 116] :: l).map strA)] [] (fun r _ => Wk r (resO [115, 101, 116] l)) := by
  by_cases heq : l.length = 3
  rotate_left
  · have hR : resO [115, 101, 116] l = .tup [opS (op0 0), .bool false] := by
      rw [resO, cmdP_set0 l heq]
      simp [someQ, heq]
    rw [hR]
    refine acalls_of Proofs.Tryd.func20 rfl Proofs.Tryd.ntmps20 (by kernel_rfl) rfl ?_
    intro hH hargs
    clear hH hargs
    repeat' (first | ((refine Qa rfl ?_); (first | refine Q0 ?_ | refine Q1 ?_ | refine QJ rfl rfl ?_); (refine QX rfl rfl ?_)) | refine Qa rfl ?_ | refine Qh ?_ | refine Ql ?_ | refine Qo rfl ?_)
    refine st_ixm (show ([115, 101, 116] :: l)[0]? = some [115, 101, 116] from rfl) rfl rfl rfl rfl rfl rfl rfl (by first | rfl | omega) rfl ?_
    first | refine nx rfl rfl ?_ | refine nx0 ?_
    repeat' (first | ((refine Qa rfl ?_); (first | refine Q0 ?_ | refine Q1 ?_ | refine Q2 rfl ?_ | refine Q3 rfl rfl rfl ?_ | refine Q7 rfl rfl rfl ?_); (refine QX rfl rfl ?_)) | refine Qh ?_ | refine Ql ?_ | refine Qn ?_ | refine Qo rfl ?_ | refine Qp rfl ?_ | refine Qq rfl ?_ | refine Qs ?_)
    refine awp_cond_dec rfl (fun g => ?_) (fun g => ?_)
    · repeat' (first | ((refine Qa rfl ?_); (first | refine Q1 ?_ | refine QP rfl rfl rfl rfl rfl rfl ?_); (refine QX rfl rfl ?_)) | (refine Qb rfl ?_; try (refine QS rfl rfl rfl rfl rfl rfl rfl ?_; (refine QX rfl rfl ?_))) | refine Qh ?_ | refine Ql ?_ | refine Qo rfl ?_ | refine Qs ?_)
      refine awp_ret ?_
      exact ⟨_, rfl, wk_tup (wkL_cons wk_z (WkL.refl _))⟩
    · exact absurd (by simp at g; omega) heq
  obtain ⟨a, b, c, rfl⟩ : ∃ a b c, l = [a, b, c] := ⟨_, _, _, len3 (d := []) heq⟩
  have hR : resO [115, 101, 116] [a, b, c] = .tup [opS { op0 2 with key := (byR a).1, val := (byR b).1, n := (numQ c : Int) }, .bool (((byR a).2 && (byR b).2) && (numP c).isSome)] := by
    rw [resO, cmdP_set [a, b, c] heq]
    have e1 : someQ [115, 101, 116] [a, b, c] = { op0 2 with key := (byR a).1, val := (byR b).1, n := (numQ c : Int) } := by simp [someQ]
    rw [e1]
    refine congrArg (fun q => AV.tup [opS { op0 2 with key := (byR a).1, val := (byR b).1, n := (numQ c : Int) }, .bool q]) ?_
    rw [byR_ok, byR_ok]; simp only [List.getD_cons_zero, List.getD_cons_succ]; cases textP a <;> cases textP b <;> cases numP c <;> rfl
  rw [hR]
  refine acalls_of Proofs.Tryd.func20 rfl Proofs.Tryd.ntmps20 (by kernel_rfl) rfl ?_
  intro hH hargs
  clear hH hargs
  repeat' (first | ((refine Qa rfl ?_); (first | refine Q0 ?_ | refine Q1 ?_ | refine QJ rfl rfl ?_); (refine QX rfl rfl ?_)) | refine Qa rfl ?_ | refine Qh ?_ | refine Ql ?_ | refine Qo rfl ?_)
  refine st_ixm (show ([[115, 101, 116], a, b, c] : List (List UInt8))[0]? = some [115, 101, 116] from rfl) rfl rfl rfl rfl rfl rfl rfl (by first | rfl | omega) rfl ?_
  first | refine nx rfl rfl ?_ | refine nx0 ?_
  repeat' (first | ((refine Qa rfl ?_); (first | refine Q0 ?_ | refine Q1 ?_ | refine Q2 rfl ?_ | refine Q3 rfl rfl rfl ?_ | refine Q7 rfl rfl rfl ?_); (refine QX rfl rfl ?_)) | refine Qa rfl ?_ | refine Qh ?_ | refine Ql ?_ | refine Qm ?_ | refine Qn ?_ | refine Qo rfl ?_ | refine Qp rfl ?_ | refine Qq rfl ?_)
  skip
  refine st_ixm (show ([[115, 101, 116], a, b, c] : List (List UInt8))[1]? = some a from rfl) rfl rfl rfl rfl rfl rfl rfl (by first | rfl | omega) rfl ?_
  first | refine nx rfl rfl ?_ | refine nx0 ?_
  repeat' (first | ((refine Qa rfl ?_); (refine Q3 rfl rfl rfl ?_); (refine QX rfl rfl ?_)) | refine Qa rfl ?_)
  refine st_call (fun _ => rfl) rfl ?_
  refine ACalls.mono (acalls_pure (E := E0 X) (fun X => rbytes_c X a (hs a (by simp))) (by simp [IdsLtL, IdsLt]) _) ?_
  rintro r H' ⟨rfl, rfl⟩
  first | refine nx rfl rfl ?_ | refine nx0 ?_
  repeat' (first | ((refine Qa rfl ?_); (first | refine Q0 ?_ | refine Q1 ?_ | refine QC rfl rfl ?_); (refine QX rfl rfl ?_)) | refine Qa rfl ?_ | refine Qh ?_ | refine Ql ?_ | refine Qo rfl ?_)
  refine st_ixm (show ([[115, 101, 116], a, b, c] : List (List UInt8))[2]? = some b from rfl) rfl rfl rfl rfl rfl rfl rfl (by first | rfl | omega) rfl ?_
  first | refine nx rfl rfl ?_ | refine nx0 ?_
  repeat' (first | ((refine Qa rfl ?_); (refine Q3 rfl rfl rfl ?_); (refine QX rfl rfl ?_)) | refine Qa rfl ?_)
  refine st_call (fun _ => rfl) rfl ?_
  refine ACalls.mono (acalls_pure (E := E0 X) (fun X => rbytes_c X b (hs b (by simp))) (by simp [IdsLtL, IdsLt]) _) ?_
  rintro r H' ⟨rfl, rfl⟩
  first | refine nx rfl rfl ?_ | refine nx0 ?_
  repeat' (first | ((refine Qa rfl ?_); (first | refine Q0 ?_ | refine Q1 ?_ | refine QC rfl rfl ?_); (refine QX rfl rfl ?_)) | refine Qa rfl ?_ | refine Qh ?_ | refine Ql ?_ | refine Qo rfl ?_)
  refine st_ixm (show ([[115, 101, 116], a, b, c] : List (List UInt8))[3]? = some c from rfl) rfl rfl rfl rfl rfl rfl rfl (by first | rfl | omega) rfl ?_
  first | refine nx rfl rfl ?_ | refine nx0 ?_
  repeat' (first | ((refine Qa rfl ?_); (refine Q3 rfl rfl rfl ?_); (refine QX rfl rfl ?_)) | refine Qa rfl ?_)
  refine st_call (fun _ => rfl) rfl ?_
  refine ACalls.mono (acalls_pure (E := E0 X) (fun X => rnum_t X c) (by simp [IdsLtL, IdsLt]) _) ?_
  rintro r H' ⟨rfl, rfl⟩
  first | refine nx rfl rfl ?_ | refine nx0 ?_
  repeat' (first | ((refine Qa rfl ?_); (first | refine Q0 ?_ | refine Q1 ?_ | refine QC rfl rfl ?_ | refine QP rfl rfl rfl rfl rfl rfl ?_); (refine QX rfl rfl ?_)) | refine Qh ?_ | refine Ql ?_ | refine Qo rfl ?_)
  cases (byR a).2 with
  | false =>
    repeat' (first | ((refine Qa rfl ?_); (first | refine Q0 ?_ | refine Q1 ?_ | refine Q5 rfl ?_); (refine QX rfl rfl ?_)) | (refine Qb rfl ?_; try (refine QS rfl rfl rfl rfl rfl rfl rfl ?_; (refine QX rfl rfl ?_))) | refine Qh ?_ | refine Qi rfl ?_ | refine Qs ?_)
    refine awp_ret ?_
    exact ⟨_, rfl, wk_tup (wkL_cons (wk_agg (wkL_cons (Wk.refl _) (wkL_cons (Wk.refl _) (wkL_cons (Wk.refl _) (wkL_cons (Wk.refl _) (wkL_cons (Wk.refl _) (wkL_cons (Wk.refl _) (wkL_cons wk_nil (wkL_cons wk_nil (wkL_nil)))))))))) (WkL.refl _))⟩
  | true =>
    repeat' ((refine Qa rfl ?_); (first | refine Q0 ?_ | refine Q5 rfl ?_); (refine QX rfl rfl ?_))
    cases (byR b).2 with
    | false =>
      repeat' (first | ((refine Qa rfl ?_); (first | refine Q1 ?_ | refine Q5 rfl ?_); (refine QX rfl rfl ?_)) | (refine Qb rfl ?_; try (refine QS rfl rfl rfl rfl rfl rfl rfl ?_; (refine QX rfl rfl ?_))) | refine Qh ?_ | refine Qi rfl ?_ | refine Qs ?_)
      refine awp_ret ?_
      exact ⟨_, rfl, wk_tup (wkL_cons (wk_agg (wkL_cons (Wk.refl _) (wkL_cons (Wk.refl _) (wkL_cons (Wk.refl _) (wkL_cons (Wk.refl _) (wkL_cons (Wk.refl _) (wkL_cons (Wk.refl _) (wkL_cons wk_nil (wkL_cons wk_nil (wkL_nil)))))))))) (WkL.refl _))⟩
    | true =>
      repeat' (first | ((refine Qa rfl ?_); (first | refine Q0 ?_ | refine Q1 ?_ | refine Q5 rfl ?_); (refine QX rfl rfl ?_)) | (refine Qb rfl ?_; try (refine QS rfl rfl rfl rfl rfl rfl rfl ?_; (refine QX rfl rfl ?_))) | refine Qh ?_ | refine Qs ?_)
      refine awp_ret ?_
      exact ⟨_, rfl, wk_tup (wkL_cons (wk_agg (wkL_cons (Wk.refl _) (wkL_cons (Wk.refl _) (wkL_cons (Wk.refl _) (wkL_cons (Wk.refl _) (wkL_cons (Wk.refl _) (wkL_cons (Wk.refl _) (wkL_cons wk_nil (wkL_cons wk_nil (wkL_nil)))))))))) (WkL.refl _))⟩
set_option maxHeartbeats 0 in
theorem rs_resize (X : Nat → Prop) (l : List (List UInt8)) (hl : l.length ≤ 100000) (hs : ∀ s ∈ l, s.length ≤ 1000000) : ACalls (E0 X) 20 [.sl 1 (([114, 101, 115, 105, 122, 101] :: l).map strA)] [] (fun r _ => Wk r (resO [114, 101, 115, 105, 122, 101] l)) := by
  by_cases heq : l.length = 2
  rotate_left
  · have hR : resO [114, 101, 115, 105, 122, 101] l = .tup [opS (op0 0), .bool false] := by
      rw [resO, cmdP_resize0 l heq]
      simp [someQ, heq]
    rw [hR]
    refine acalls_of Proofs.Tryd.func20 rfl Proofs.Tryd.ntmps20 (by kernel_rfl) rfl ?_
    intro hH hargs
    clear hH hargs
    repeat' (first | ((refine Qa rfl ?_); (first | refine Q0 ?_ | refine Q1 ?_ | refine QJ rfl rfl ?_); (refine QX rfl rfl ?_)) | refine Qa rfl ?_ | refine Qh ?_ | refine Ql ?_ | refine Qo rfl ?_)
    refine st_ixm (show ([114, 101, 115, 105, 122, 101] :: l)[0]? = some [114, 101, 115, 105, 122, 101] from rfl) rfl rfl rfl rfl rfl rfl rfl (by first | rfl | omega) rfl ?_
    first | refine nx rfl rfl ?_ | refine nx0 ?_
    repeat' (first | ((refine Qa rfl ?_); (first | refine Q0 ?_ | refine Q1 ?_ | refine Q2 rfl ?_ | refine Q3 rfl rfl rfl ?_ | refine Q7 rfl rfl rfl ?_); (refine QX rfl rfl ?_)) | refine Qh ?_ | refine Ql ?_ | refine Qn ?_ | refine Qo rfl ?_ | refine Qp rfl ?_ | refine Qq rfl ?_ | refine Qs ?_)
    refine awp_cond_dec rfl (fun g => ?_) (fun g => ?_)
    · repeat' (first | ((refine Qa rfl ?_); (first | refine Q1 ?_ | refine QP rfl rfl rfl rfl rfl rfl ?_); (refine QX rfl rfl ?_)) | (refine Qb rfl ?_; try (refine QS rfl rfl rfl rfl rfl rfl rfl ?_; (refine QX rfl rfl ?_))) | refine Qh ?_ | refine Ql ?_ | refine Qo rfl ?_ | refine Qs ?_)
      refine awp_ret ?_
      exact ⟨_, rfl, wk_tup (wkL_cons wk_z (WkL.refl _))⟩
    · exact absurd (by simp at g; omega) heq
  obtain ⟨a, b, rfl⟩ : ∃ a b, l = [a, b] := ⟨_, _, len2 (d := []) heq⟩
  have hR : resO [114, 101, 115, 105, 122, 101] [a, b] = .tup [opS { op0 7 with a := (numQ a : Int), b := (numQ b : Int) }, .bool ((numP a).isSome && (numP b).isSome)] := by
    rw [resO, cmdP_resize [a, b] heq]
    have e1 : someQ [114, 101, 115, 105, 122, 101] [a, b] = { op0 7 with a := (numQ a : Int), b := (numQ b : Int) } := by simp [someQ]
    rw [e1]
    refine congrArg (fun q => AV.tup [opS { op0 7 with a := (numQ a : Int), b := (numQ b : Int) }, .bool q]) ?_
    simp only [List.getD_cons_zero, List.getD_cons_succ]; cases numP a <;> cases numP b <;> rfl
  rw [hR]
  refine acalls_of Proofs.Tryd.func20 rfl Proofs.Tryd.ntmps20 (by kernel_rfl) rfl ?_
  intro hH hargs
  clear hH hargs
  repeat' (first | ((refine Qa rfl ?_); (first | refine Q0 ?_ | refine Q1 ?_ | refine QJ rfl rfl ?_); (refine QX rfl rfl ?_)) | refine Qa rfl ?_ | refine Qh ?_ | refine Ql ?_ | refine Qo rfl ?_)
  refine st_ixm (show ([[114, 101, 115, 105, 122, 101], a, b] : List (List UInt8))[0]? = some [114, 101, 115, 105, 122, 101] from rfl) rfl rfl rfl rfl rfl rfl rfl (by first | rfl | omega) rfl ?_
  first | refine nx rfl rfl ?_ | refine nx0 ?_
  repeat' (first | ((refine Qa rfl ?_); (first | refine Q0 ?_ | refine Q1 ?_ | refine Q2 rfl ?_ | refine Q3 rfl rfl rfl ?_ | refine Q7 rfl rfl rfl ?_); (refine QX rfl rfl ?_)) | refine Qa rfl ?_ | refine Qh ?_ | refine Ql ?_ | refine Qm ?_ | refine Qn ?_ | refine Qo rfl ?_ | refine Qp rfl ?_ | refine Qq rfl ?_)
  skip
  refine st_ixm (show ([[114, 101, 115, 105, 122, 101], a, b] : List (List UInt8))[1]? = some a from rfl) rfl rfl rfl rfl rfl rfl rfl (by first | rfl | omega) rfl ?_
  first | refine nx rfl rfl ?_ | refine nx0 ?_
  repeat' (first | ((refine Qa rfl ?_); (refine Q3 rfl rfl rfl ?_); (refine QX rfl rfl ?_)) | refine Qa rfl ?_)
  refine st_call (fun _ => rfl) rfl ?_
  refine ACalls.mono (acalls_pure (E := E0 X) (fun X => rnum_t X a) (by simp [IdsLtL, IdsLt]) _) ?_
  rintro r H' ⟨rfl, rfl⟩
  first | refine nx rfl rfl ?_ | refine nx0 ?_
  repeat' (first | ((refine Qa rfl ?_); (first | refine Q0 ?_ | refine Q1 ?_ | refine QC rfl rfl ?_); (refine QX rfl rfl ?_)) | refine Qa rfl ?_ | refine Qh ?_ | refine Ql ?_ | refine Qo rfl ?_)
  refine st_ixm (show ([[114, 101, 115, 105, 122, 101], a, b] : List (List UInt8))[2]? = some b from rfl) rfl rfl rfl rfl rfl rfl rfl (by first | rfl | omega) rfl ?_
  first | refine nx rfl rfl ?_ | refine nx0 ?_
  repeat' (first | ((refine Qa rfl ?_); (refine Q3 rfl rfl rfl ?_); (refine QX rfl rfl ?_)) | refine Qa rfl ?_)
  refine st_call (fun _ => rfl) rfl ?_
  refine ACalls.mono (acalls_pure (E := E0 X) (fun X => rnum_t X b) (by simp [IdsLtL, IdsLt]) _) ?_
  rintro r H' ⟨rfl, rfl⟩
  first | refine nx rfl rfl ?_ | refine nx0 ?_
  repeat' (first | ((refine Qa rfl ?_); (first | refine Q0 ?_ | refine Q1 ?_ | refine QC rfl rfl ?_ | refine QP rfl rfl rfl rfl rfl rfl ?_); (refine QX rfl rfl ?_)) | refine Qh ?_ | refine Ql ?_ | refine Qo rfl ?_)
  cases (numP a).isSome with
  | false =>
    repeat' (first | ((refine Qa rfl ?_); (first | refine Q1 ?_ | refine Q5 rfl ?_); (refine QX rfl rfl ?_)) | (refine Qb rfl ?_; try (refine QS rfl rfl rfl rfl rfl rfl rfl ?_; (refine QX rfl rfl ?_))) | refine Qh ?_ | refine Qi rfl ?_ | refine Qs ?_)
    refine awp_ret ?_
    exact ⟨_, rfl, wk_tup (wkL_cons (wk_agg (wkL_cons (Wk.refl _) (wkL_cons wk_nil (wkL_cons wk_nil (wkL_cons (Wk.refl _) (wkL_cons (Wk.refl _) (wkL_cons (Wk.refl _) (wkL_cons wk_nil (wkL_cons wk_nil (wkL_nil)))))))))) (WkL.refl _))⟩
  | true =>
    repeat' (first | ((refine Qa rfl ?_); (first | refine Q0 ?_ | refine Q1 ?_ | refine Q5 rfl ?_); (refine QX rfl rfl ?_)) | (refine Qb rfl ?_; try (refine QS rfl rfl rfl rfl rfl rfl rfl ?_; (refine QX rfl rfl ?_))) | refine Qh ?_ | refine Qs ?_)
    refine awp_ret ?_
    exact ⟨_, rfl, wk_tup (wkL_cons (wk_agg (wkL_cons (Wk.refl _) (wkL_cons wk_nil (wkL_cons wk_nil (wkL_cons (Wk.refl _) (wkL_cons (Wk.refl _) (wkL_cons (Wk.refl _) (wkL_cons wk_nil (wkL_cons wk_nil (wkL_nil)))))))))) (WkL.refl _))⟩
end Go.Abs
namespace Go.Abs
attribute [local irreducible] AStep aops AWp Nx awM APanic
theorem hok_cr (cs : List AV) (ts : List Tr) (h : IdsLtL 3 cs) : HOk 3 [some (.cells cel0 26), some (.cells cs 26), some (.arr (ts.map trA) 47)] := fun j o ho => by
  match j, ho with
  | 0, ho => cases ho; exact cel0_ids
  | 1, ho => cases ho; exact h
  | 2, ho => cases ho; exact tr_ids _
def crC (K : List Bool) (id i : Nat) : List AV := [.int .i64 12, .nils, .nils, .int .i64 0, .int .i64 0, .int .i64 0, .sl 1 (K.map boA), .own id 0 i]
theorem crC_ids (K : List Bool) (i : Nat) : IdsLtL 3 (crC K 2 i) := ⟨trivial, trivial, trivial, trivial, trivial, trivial, bo_ids' _, Nat.lt_succ_self 2, trivial⟩
def crH (K : List Bool) (ts : List Tr) (i : Nat) : Hp := [some (.cells cel0 26), some (.cells (crC K 2 i) 26), some (.arr (ts.map trA) 47)]
theorem ren_crC {f : Nat → Option Nat} (K : List Bool) {a b i : Nat} (h : f a = some b) : RenL f (crC K a i) (crC K b i) :=
  .cons (ren_val rfl trivial) (.cons (ren_val rfl trivial) (.cons (ren_val rfl trivial) (.cons (ren_val rfl trivial) (.cons (ren_val rfl trivial) (.cons (ren_val rfl trivial) (.cons (ren_val rfl (bo_ids' _)) (.cons (ren_own h) .nil)))))))
set_option maxHeartbeats 0 in
theorem rs_crash (X : Nat → Prop) (l : List (List UInt8)) (hl : l.length ≤ 100000) (hs : ∀ s ∈ l, s.length ≤ 1000000) : ACalls (E0 X) 20 [.sl 1 (([99, 114, 97, 115, 104] :: l).map strA)] [] (fun r _ => Wk r (resO [99, 114, 97, 115, 104] l)) := by
  by_cases heq : 0 < l.length
  rotate_left
  · have hl0 : l = [] := List.eq_nil_of_length_eq_zero (by omega)
    subst hl0
    have hR : resO [99, 114, 97, 115, 104] [] = .tup [opS (op0 0), .bool false] := by
      rw [resO, cmdP_crash0 [] heq]
      simp [someQ]
    rw [hR]
    refine acalls_of Proofs.Tryd.func20 rfl Proofs.Tryd.ntmps20 (by kernel_rfl) rfl ?_
    intro hH hargs
    clear hH hargs
    repeat' (first | ((refine Qa rfl ?_); (first | refine Q0 ?_ | refine Q1 ?_ | refine QJ rfl rfl ?_); (refine QX rfl rfl ?_)) | refine Qa rfl ?_ | refine Qh ?_ | refine Ql ?_ | refine Qo rfl ?_)
    refine st_ixm (show ([[99, 114, 97, 115, 104]] : List (List UInt8))[0]? = some [99, 114, 97, 115, 104] from rfl) rfl rfl rfl rfl rfl rfl rfl (by first | rfl | omega) rfl ?_
    first | refine nx rfl rfl ?_ | refine nx0 ?_
    repeat' (first | ((refine Qa rfl ?_); (first | refine Q0 ?_ | refine Q1 ?_ | refine Q2 rfl ?_ | refine Q3 rfl rfl rfl ?_ | refine Q7 rfl rfl rfl ?_ | refine QP rfl rfl rfl rfl rfl rfl ?_); (refine QX rfl rfl ?_)) | (refine Qb rfl ?_; try (refine QS rfl rfl rfl rfl rfl rfl rfl ?_; (refine QX rfl rfl ?_))) | refine Qh ?_ | refine Ql ?_ | refine Qn ?_ | refine Qo rfl ?_ | refine Qp rfl ?_ | refine Qq rfl ?_ | refine Qs ?_)
    refine awp_ret ?_
    exact ⟨_, rfl, wk_tup (wkL_cons wk_z (WkL.refl _))⟩
  obtain ⟨a, t, rfl⟩ : ∃ a t, l = a :: t := List.exists_cons_of_length_pos heq
  have hR : resO [99, 114, 97, 115, 104] (a :: t) = .tup [opS { op0 12 with keep := (bitsP a).getD [], tears := t.map tearQ }, .bool ((bitsP a).isSome && t.all fun s => (tearP s).isSome)] := by
    rw [resO, cmdP_crash (a :: t) heq]
    have e1 : someQ [99, 114, 97, 115, 104] (a :: t) = { op0 12 with keep := (bitsP a).getD [], tears := t.map tearQ } := by simp [someQ]
    rw [e1]
    refine congrArg (fun q => AV.tup [opS { op0 12 with keep := (bitsP a).getD [], tears := t.map tearQ }, .bool q]) ?_
    rw [← tearsP_all]
    simp only [List.getD_cons_zero, List.drop_succ_cons, List.drop_zero]
    cases bitsP a <;> cases tearsP t <;> rfl
  have hbt : resBt a = .tup [.sl 1 (((bitsP a).getD []).map boA), .bool (bitsP a).isSome] := by
    unfold resBt; cases bitsP a <;> rfl
  have htl : t.length ≤ 100000 := by simp at hl; omega
  rw [hR]
  refine acalls_of Proofs.Tryd.func20 rfl Proofs.Tryd.ntmps20 (by kernel_rfl) rfl ?_
  intro hH hargs
  clear hH hargs
  repeat' (first | ((refine Qa rfl ?_); (first | refine Q0 ?_ | refine Q1 ?_ | refine QJ rfl rfl ?_); (refine QX rfl rfl ?_)) | refine Qa rfl ?_ | refine Qh ?_ | refine Ql ?_ | refine Qo rfl ?_)
  refine st_ixm (show ([99, 114, 97, 115, 104] :: a :: t)[0]? = some [99, 114, 97, 115, 104] from rfl) rfl rfl rfl rfl rfl rfl rfl (by first | rfl | omega) rfl ?_
  first | refine nx rfl rfl ?_ | refine nx0 ?_
  repeat' (first | ((refine Qa rfl ?_); (first | refine Q0 ?_ | refine Q1 ?_ | refine Q2 rfl ?_ | refine Q3 rfl rfl rfl ?_ | refine Q7 rfl rfl rfl ?_); (refine QX rfl rfl ?_)) | refine Qa rfl ?_ | refine Qh ?_ | refine Ql ?_ | refine Qm ?_ | refine Qn ?_ | refine Qo rfl ?_ | refine Qp rfl ?_ | refine Qq rfl ?_)
  refine st_ixm (show ([99, 114, 97, 115, 104] :: a :: t)[1]? = some a from rfl) rfl rfl rfl rfl rfl rfl rfl (by first | rfl | omega) rfl ?_
  first | refine nx rfl rfl ?_ | refine nx0 ?_
  repeat' (first | ((refine Qa rfl ?_); (refine Q3 rfl rfl rfl ?_); (refine QX rfl rfl ?_)) | refine Qa rfl ?_)
  refine st_call (fun _ => rfl) rfl ?_
  refine ACalls.mono (acalls_pure (E := E0 X) (fun X => rbits_c X a (hs a (by simp))) (by simp [IdsLtL, IdsLt]) _) ?_
  rintro r H' ⟨rfl, rfl⟩
  first | refine nx rfl rfl ?_ | refine nx0 ?_
  rw [hbt]
  repeat' (first | ((refine Qa rfl ?_); (first | refine Q0 ?_ | refine Q1 ?_ | refine QC rfl rfl ?_ | refine QJ rfl rfl ?_ | refine QP rfl rfl rfl rfl rfl rfl ?_); (refine QX rfl rfl ?_)) | refine Qa rfl ?_ | (refine Qb rfl ?_; try (refine QS rfl rfl rfl rfl rfl rfl rfl ?_; (refine QX rfl rfl ?_))) | refine Qh ?_ | refine Ql ?_ | refine Qo rfl ?_)
  refine st_sls (l := 2) (h := t.length + 2) (ys := t) (bnd_some rfl rfl) ((by simp [Bnd])) (by omega) (by simp) (by simp) rfl rfl rfl rfl rfl ?_
  first | refine nx rfl rfl ?_ | refine nx0 ?_
  repeat' (first | ((refine Qa rfl ?_); (first | refine Q0 ?_ | refine Q7 rfl rfl rfl ?_); (refine QX rfl rfl ?_)) | refine Qh ?_ | refine Qn ?_)
  generalize hK : (bitsP a).getD [] = K
  generalize hA : (bitsP a).isSome = okA
  refine awp_loop2 (fun i : Nat => ⟨[(2, .ptr 0 0), (22, .ptr 1 0), (21, .bool (okA && (t.take i).all fun s => (tearP s).isSome)), (158, .sl 1 (t.map strA)), (159, .int .i64 (t.length : Int)), (160, .int .i64 (i : Int))], crH K ((t.take i).map tearQ) i⟩) (fun i => i ≤ t.length) (fun i => t.length - i) 0 (Nat.zero_le _) ?_ ?_
  · refine Imp.trans (imp_nilC 1 7 47 rfl rfl) (imp_cutk 3 (Nat.zero_le _) (hok_cr _ [] (crC_ids K 0)) rfl (by simp) ?_)
    refine fa_cons ⟨rfl, Nat.zero_lt_succ _⟩ (fa_cons ⟨rfl, by show 1 < 3; decide⟩ (fa_cons ⟨?_, trivial⟩ (fa_cons ⟨rfl, ids_str _⟩ (fa_cons ⟨?_, trivial⟩ (fa_cons ⟨rfl, trivial⟩ fa_nil)))))
    · show AV.bool okA = _
      simp
    · exact congrArg (fun n : Nat => AV.int .i64 (n : Int)) (List.length_map _)
  rintro i hi
  have hlen : ((t.take i).map tearQ).length = i := by rw [List.length_map, List.length_take]; omega
  show AWp _ _ _ _ _ ⟨_, [some (.cells cel0 26), some (.cells (crC K 2 i) 26), some (.arr (((t.take i).map tearQ).map trA) 47)]⟩
  unfold crC
  repeat' (first | ((refine Qa rfl ?_); (refine Q2 rfl ?_); (refine QX rfl rfl ?_)) | refine Qh ?_ | refine Ql ?_ | refine Qo rfl ?_)
  refine awp_cond_dec rfl (fun h5 => ?_) (fun h5 => ?_)
  · obtain ⟨s, hst⟩ : ∃ s, t[i]? = some s := ⟨_, List.getElem?_eq_getElem (by omega)⟩
    have hsl := hs s (List.mem_cons_of_mem _ (List.mem_of_getElem? hst))
    have htk : t.take (i + 1) = t.take i ++ [s] := by rw [List.take_add_one, hst]; rfl
    have htQ : (t.take (i + 1)).map tearQ = (t.take i).map tearQ ++ [tearQ s] := by rw [htk, List.map_append]; rfl
    have hw : IntKind.i64.wrap ((i : Int) + 1) = ((i + 1 : Nat) : Int) := by rw [wrap_in (by omega) (by omega)]; simp
    have hok : (okA && (t.take (i + 1)).all fun s => (tearP s).isSome) = ((okA && (t.take i).all fun s => (tearP s).isSome) && (tearP s).isSome) := by
      rw [htk, List.all_append]; simp [Bool.and_assoc]
    repeat' (first | refine Qa rfl ?_ | refine Ql ?_ | refine Qm ?_ | refine Qn ?_ | refine Qo rfl ?_)
    refine st_ixm hst rfl rfl rfl rfl rfl rfl rfl (by first | rfl | omega) rfl ?_
    first | refine nx rfl rfl ?_ | refine nx0 ?_
    repeat' (first | ((refine Qa rfl ?_); (first | refine Q0 ?_ | refine Q1 ?_ | refine Q3 rfl rfl rfl ?_); (refine QX rfl rfl ?_)) | refine Qa rfl ?_ | refine Qh ?_ | refine Ql ?_ | refine Qo rfl ?_)
    refine st_call (fun _ => rfl) rfl ?_
    refine ACalls.mono (acalls_pure (E := E0 X) (fun X => rtear_c X s hsl) (by simp [IdsLtL, IdsLt]) _) ?_
    rintro r H' ⟨rfl, rfl⟩
    first | refine nx rfl rfl ?_ | refine nx0 ?_
    repeat' (first | ((refine Qa rfl ?_); (first | refine Q0 ?_ | refine Q1 ?_ | refine QC rfl rfl ?_ | refine QJ rfl rfl ?_); (refine QX rfl rfl ?_)) | (refine Qb rfl ?_; try (refine QS rfl rfl rfl rfl rfl rfl rfl ?_; (refine QX rfl rfl ?_))) | refine Qh ?_ | refine Ql ?_ | refine Qo rfl ?_)
    have fin : ∀ q : Bool, q = (okA && (t.take (i + 1)).all fun s => (tearP s).isSome) → ∀ sl, get sl 2 = .ptr 0 0 → get sl 22 = .ptr 1 0 → get sl 21 = .bool q → get sl 158 = .sl 1 (t.map strA) → get sl 159 = .int .i64 (t.length : Int) → get sl 160 = .int .i64 (IntKind.i64.wrap ((i : Int) + 1)) → ∀ x y,
        Imp (E0 X) 195 0 ⟨sl, [some (.cells cel0 26), some (.cells (crC K 4 (i + 1)) 26), x, y, some (.arr (((t.take (i + 1)).map tearQ).map trA) 47)]⟩ ⟨[(2, .ptr 0 0), (22, .ptr 1 0), (21, .bool (okA && (t.take (i + 1)).all fun s => (tearP s).isSome)), (158, .sl 1 (t.map strA)), (159, .int .i64 (t.length : Int)), (160, .int .i64 ((i + 1 : Nat) : Int))], crH K ((t.take (i + 1)).map tearQ) (i + 1)⟩ := by
      intro q hq sl g1 g2 g3 g4 g5 g6 x y
      refine imp_tidy [0, 1, 4] (os := [.cells cel0 26, .cells (crC K 2 (i + 1)) 26, .arr (((t.take (i + 1)).map tearQ).map trA) 47]) (by simp) rfl ?_ ?_
      · exact fa_cons (by rw [g1]; exact ren_ptr rfl) (fa_cons (by rw [g2]; exact ren_ptr rfl) (fa_cons (ren_val2 (by rw [g3, hq]) trivial) (fa_cons (ren_val2 g4 (ids_str _)) (fa_cons (ren_val2 g5 trivial) (fa_cons (ren_val2 (by rw [g6, hw]) trivial) fa_nil)))))
      · exact os_cons rfl (renO_val rfl cel0_ids) (os_cons rfl (renO_cells (ren_crC K rfl)) (os_cons rfl (renO_val rfl (tr_ids _)) os_nil))
    cases hq : (okA && (t.take i).all fun s => (tearP s).isSome) with
    | true =>
      rw [hq] at hok
      repeat' (first | ((refine Qa rfl ?_); (first | refine Q0 ?_ | refine Q1 ?_ | refine Q3 rfl rfl rfl ?_ | refine Q4 rfl rfl rfl rfl rfl ?_ | refine Q5 rfl ?_ | refine QQ rfl rfl rfl rfl rfl rfl rfl rfl rfl rfl rfl ?_); (refine QX rfl rfl ?_)) | refine Qa rfl ?_ | refine Qh ?_ | refine Qo rfl ?_)
      refine st_app (oid := some 2) (es := ((t.take i).map tearQ).map trA) (out := ((t.take (i + 1)).map tearQ).map trA) (n := i + 1) (dst_own rfl (by rw [List.length_map, hlen])) (rfl) (oneEs_tr [tearQ s]) (by rw [htQ, List.map_append]; rfl) (by rw [List.length_map, hlen]; rfl) (by show _ ≤ 9223372036854775807; omega) (by show _ * 16 ≤ _; omega) rfl rfl rfl rfl rfl rfl rfl rfl ?_
      first | refine nx rfl rfl ?_ | refine nx0 ?_
      repeat' (first | ((refine Qa rfl ?_); (first | refine Q0 ?_ | refine Q2 rfl ?_ | refine Q4 rfl rfl rfl rfl rfl ?_); (refine QX rfl rfl ?_)) | (refine Qb rfl ?_; try (refine QS rfl rfl rfl rfl rfl rfl rfl ?_; (refine QX rfl rfl ?_))) | refine Qh ?_ | refine Qo rfl ?_ | refine Qs ?_)
      exact ⟨i + 1, by show i + 1 ≤ _; omega, by show t.length - (i + 1) < t.length - i; omega, fin (tearP s).isSome (by rw [hok, Bool.true_and]) _ rfl rfl rfl rfl rfl rfl _ _⟩
    | false =>
      rw [hq] at hok
      repeat' (first | ((refine Qa rfl ?_); (first | refine Q1 ?_ | refine Q3 rfl rfl rfl ?_ | refine Q4 rfl rfl rfl rfl rfl ?_ | refine Q5 rfl ?_ | refine QQ rfl rfl rfl rfl rfl rfl rfl rfl rfl rfl rfl ?_); (refine QX rfl rfl ?_)) | refine Qa rfl ?_ | refine Qh ?_ | refine Qi rfl ?_ | refine Qo rfl ?_)
      refine st_app (oid := some 2) (es := ((t.take i).map tearQ).map trA) (out := ((t.take (i + 1)).map tearQ).map trA) (n := i + 1) (dst_own rfl (by rw [List.length_map, hlen])) (rfl) (oneEs_tr [tearQ s]) (by rw [htQ, List.map_append]; rfl) (by rw [List.length_map, hlen]; rfl) (by show _ ≤ 9223372036854775807; omega) (by show _ * 16 ≤ _; omega) rfl rfl rfl rfl rfl rfl rfl rfl ?_
      first | refine nx rfl rfl ?_ | refine nx0 ?_
      repeat' (first | ((refine Qa rfl ?_); (first | refine Q0 ?_ | refine Q2 rfl ?_ | refine Q4 rfl rfl rfl rfl rfl ?_); (refine QX rfl rfl ?_)) | (refine Qb rfl ?_; try (refine QS rfl rfl rfl rfl rfl rfl rfl ?_; (refine QX rfl rfl ?_))) | refine Qh ?_ | refine Qo rfl ?_ | refine Qs ?_)
      exact ⟨i + 1, by show i + 1 ≤ _; omega, by show t.length - (i + 1) < t.length - i; omega, fin false (by rw [hok, Bool.false_and]) _ rfl rfl rfl rfl rfl rfl _ _⟩
  · have hie : i = t.length := by omega
    subst hie
    rw [List.take_length] at hlen ⊢
    repeat' (first | refine Ql ?_ | refine Qr ?_)
    refine awp_pre (imp_freezeH (id := 2) (k := 2) (es := (t.map tearQ).map trA) (e := 47) rfl rfl rfl) ?_
    have hfz : frz 2 2 ((t.map tearQ).map trA) (.own 2 0 t.length) = .sl 2 ((t.map tearQ).map trA) := frz_own (by rw [List.length_map, hlen])
    refine awp_pre (imp_cutk 2 (Nat.zero_le _) (H0 := [some (.cells cel0 26), some (.cells [.int .i64 12, .nils, .nils, .int .i64 0, .int .i64 0, .int .i64 0, .sl 1 (K.map boA), .sl 2 ((t.map tearQ).map trA)] 26)]) ?_ ?_ (by simp) (sl' := [(2, .ptr 0 0), (22, .ptr 1 0), (21, .bool (okA && t.all fun s => (tearP s).isSome))]) ?_) ?_
    · intro j o ho
      match j, ho with
      | 0, ho => cases ho; exact cel0_ids
      | 1, ho => cases ho; exact ⟨trivial, trivial, trivial, trivial, trivial, trivial, bo_ids' _, tr_ids _, trivial⟩
    · rw [← hfz]; rfl
    · exact fa_cons ⟨rfl, by show 0 < 2; decide⟩ (fa_cons ⟨rfl, by show 1 < 2; decide⟩ (fa_cons ⟨rfl, trivial⟩ fa_nil))
    repeat' (first | ((refine Qa rfl ?_); (first | refine Q0 ?_ | refine Q1 ?_ | refine Q3 rfl rfl rfl ?_); (refine QX rfl rfl ?_)) | (refine Qb rfl ?_; try (refine QS rfl rfl rfl rfl rfl rfl rfl ?_; (refine QX rfl rfl ?_))) | refine Qh ?_ | refine Qo rfl ?_ | refine Qs ?_)
    refine awp_ret ?_
    exact ⟨_, rfl, wk_tup (wkL_cons (wk_agg (wkL_cons (Wk.refl _) (wkL_cons wk_nil (wkL_cons wk_nil (wkL_cons (Wk.refl _) (wkL_cons (Wk.refl _) (wkL_cons (Wk.refl _) (wkL_cons (Wk.refl _) (wkL_cons (Wk.refl _) wkL_nil))))))))) (WkL.refl _))⟩
end Go.Abs
namespace Go.Abs
attribute [local irreducible] AStep aops AWp Nx awM APanic
set_option maxHeartbeats 0 in
theorem rs_else (X : Nat → Prop) (w : List UInt8) (l : List (List UInt8)) (_hl : l.length ≤ 100000) (h_get : w ≠ [103, 101, 116]) (h_delete : w ≠ [100, 101, 108, 101, 116, 101]) (h_set : w ≠ [115, 101, 116]) (h_tick : w ≠ [116, 105, 99, 107]) (h_fuse : w ≠ [102, 117, 115, 101]) (h_resize : w ≠ [114, 101, 115, 105, 122, 101]) (h_crash : w ≠ [99, 114, 97, 115, 104]) : ACalls (E0 X) 20 [.sl 1 ((w :: l).map strA)] [] (fun r _ => Wk r (resO w l)) := by
  have hQ : someQ w l = op0 (plK w) := by
    unfold someQ
    rw [if_neg (fun h => h.elim h_get h_delete), if_neg h_set, if_neg (fun h => h.elim h_tick h_fuse), if_neg h_resize, if_neg h_crash]
  have hC : (cmdP w l).isSome = decide (0 < plK w ∧ l = []) := by
    have hp := plK_idx w
    unfold cmdP
    by_cases h : 0 < idxS plainL w 0 ∧ l = []
    · rw [if_pos h, decide_eq_true]
      · rfl
      · exact ⟨by rw [hp.1 h.1]; exact h.1, h.2⟩
    · rw [if_neg h, if_neg (fun h2 => h_get h2.1), if_neg (fun h2 => h_delete h2.1), if_neg (fun h2 => h_set h2.1), if_neg (fun h2 => h_tick h2.1), if_neg (fun h2 => h_fuse h2.1), if_neg (fun h2 => h_resize h2.1), if_neg (fun h2 => h_crash h2.1), decide_eq_false]
      · rfl
      · rintro ⟨h2, h3⟩
        by_cases h4 : 0 < idxS plainL w 0
        · exact h ⟨h4, h3⟩
        · rw [hp.2 h4] at h2; omega
  have hR : resO w l = .tup [opS (op0 (plK w)), .bool (decide (0 < plK w ∧ l = []))] := by rw [resO, hQ, hC]
  rw [hR]
  refine acalls_of Proofs.Tryd.func20 rfl Proofs.Tryd.ntmps20 (by kernel_rfl) rfl ?_
  intro hH hargs
  clear hH hargs
  repeat' (first | ((refine Qa rfl ?_); (first | refine Q0 ?_ | refine Q1 ?_ | refine QJ rfl rfl ?_); (refine QX rfl rfl ?_)) | refine Qa rfl ?_ | refine Qh ?_ | refine Ql ?_ | refine Qo rfl ?_)
  refine st_ixm (show (w :: l)[0]? = some w from rfl) rfl rfl rfl rfl rfl rfl rfl (by first | rfl | omega) rfl ?_
  first | refine nx rfl rfl ?_ | refine nx0 ?_
  repeat' (first | ((refine Qa rfl ?_); (first | refine Q1 ?_ | refine Q2 rfl ?_ | refine Q3 rfl rfl rfl ?_); (refine QX rfl rfl ?_)) | refine Qh ?_ | refine Ql ?_ | refine Qn ?_ | refine Qo rfl ?_ | refine Qs ?_)
  refine awp_cond_dec rfl (fun g => ?_) (fun g => ?_)
  · exact absurd g h_get
  repeat' (first | ((refine Qa rfl ?_); (first | refine Q1 ?_ | refine Q2 rfl ?_); (refine QX rfl rfl ?_)) | refine Qh ?_ | refine Qo rfl ?_ | refine Qs ?_)
  refine awp_cond_dec rfl (fun g => ?_) (fun g => ?_)
  · exact absurd g h_delete
  repeat' (first | ((refine Qa rfl ?_); (first | refine Q1 ?_ | refine Q2 rfl ?_); (refine QX rfl rfl ?_)) | refine Qh ?_ | refine Ql ?_ | refine Qo rfl ?_ | refine Qs ?_)
  refine awp_cond_dec rfl (fun g => ?_) (fun g => ?_)
  · exact absurd g h_set
  repeat' (first | ((refine Qa rfl ?_); (first | refine Q1 ?_ | refine Q2 rfl ?_); (refine QX rfl rfl ?_)) | refine Qh ?_ | refine Ql ?_ | refine Qo rfl ?_ | refine Qs ?_)
  refine awp_cond_dec rfl (fun g => ?_) (fun g => ?_)
  · exact absurd g h_tick
  repeat' (first | ((refine Qa rfl ?_); (first | refine Q1 ?_ | refine Q2 rfl ?_); (refine QX rfl rfl ?_)) | refine Qh ?_ | refine Qo rfl ?_ | refine Qs ?_)
  refine awp_cond_dec rfl (fun g => ?_) (fun g => ?_)
  · exact absurd g h_fuse
  repeat' (first | ((refine Qa rfl ?_); (first | refine Q1 ?_ | refine Q2 rfl ?_); (refine QX rfl rfl ?_)) | refine Qh ?_ | refine Ql ?_ | refine Qo rfl ?_ | refine Qs ?_)
  refine awp_cond_dec rfl (fun g => ?_) (fun g => ?_)
  · exact absurd g h_resize
  repeat' (first | ((refine Qa rfl ?_); (first | refine Q1 ?_ | refine Q2 rfl ?_); (refine QX rfl rfl ?_)) | refine Qh ?_ | refine Ql ?_ | refine Qo rfl ?_ | refine Qs ?_)
  refine awp_cond_dec rfl (fun g => ?_) (fun g => ?_)
  · exact absurd g h_crash
  repeat' (first | ((refine Qa rfl ?_); (refine Q0 ?_); (refine QX rfl rfl ?_)) | refine Qa rfl ?_ | refine Ql ?_ | refine Qm ?_ | refine Qo rfl ?_)
  refine st_ixm (show (w :: l)[0]? = some w from rfl) rfl rfl rfl rfl rfl rfl rfl (by first | rfl | omega) rfl ?_
  first | refine nx rfl rfl ?_ | refine nx0 ?_
  repeat' (first | ((refine Qa rfl ?_); (refine Q3 rfl rfl rfl ?_); (refine QX rfl rfl ?_)) | refine Qa rfl ?_)
  refine st_call (fun _ => rfl) rfl ?_
  refine ACalls.mono (acalls_pure (E := E0 X) (fun X => rplain_c X w) (by simp [IdsLtL, IdsLt]) _) ?_
  rintro r H' ⟨rfl, rfl⟩
  first | refine nx rfl rfl ?_ | refine nx0 ?_
  repeat' (first | ((refine Qa rfl ?_); (first | refine Q0 ?_ | refine Q1 ?_ | refine Q2 rfl ?_ | refine QP rfl rfl rfl rfl rfl rfl ?_); (refine QX rfl rfl ?_)) | refine Qh ?_ | refine Ql ?_ | refine Qo rfl ?_)
  have hwk : Wk (.agg [.int .i64 (plK w), .nils, .nils, .int .i64 0, .int .i64 0, .int .i64 0, .nils, .nils]) (opS (op0 (plK w))) := wk_agg (wkL_cons (Wk.refl _) (wkL_cons wk_nil (wkL_cons wk_nil (wkL_cons (Wk.refl _) (wkL_cons (Wk.refl _) (wkL_cons (Wk.refl _) (wkL_cons wk_nil (wkL_cons wk_nil wkL_nil))))))))
  refine Qy rfl rfl (fun g => ?_) (fun g => ?_)
  · repeat' (first | ((refine Qa rfl ?_); (first | refine Q0 ?_ | refine Q1 ?_ | refine Q2 rfl ?_ | refine Q5 rfl ?_ | refine Q7 rfl rfl rfl ?_); (refine QX rfl rfl ?_)) | (refine Qb rfl ?_; try (refine QS rfl rfl rfl rfl rfl rfl rfl ?_; (refine QX rfl rfl ?_))) | refine Qh ?_ | refine Qs ?_)
    refine awp_ret ?_
    refine ⟨_, rfl, wk_tup (wkL_cons hwk (wkL_cons ?_ wkL_nil))⟩
    have e : AV.bool (decide ((((w :: l).map strA).length : Int) = 1)) = .bool (decide (0 < plK w ∧ l = [])) := congrArg AV.bool (decide_eq_decide.2 (len_1.trans ⟨fun h => ⟨g, h⟩, fun h => h.2⟩))
    rw [← e]
    exact Wk.refl _
  · repeat' (first | ((refine Qa rfl ?_); (first | refine Q1 ?_ | refine Q5 rfl ?_); (refine QX rfl rfl ?_)) | (refine Qb rfl ?_; try (refine QS rfl rfl rfl rfl rfl rfl rfl ?_; (refine QX rfl rfl ?_))) | refine Qh ?_ | refine Qi rfl ?_ | refine Qs ?_)
    refine awp_ret ?_
    refine ⟨_, rfl, wk_tup (wkL_cons hwk (wkL_cons ?_ wkL_nil))⟩
    have e : AV.bool false = .bool (decide (0 < plK w ∧ l = [])) := (congrArg AV.bool (decide_eq_false fun h => g h.1)).symm
    rw [← e]
    exact Wk.refl _
theorem rsome_c (X : Nat → Prop) (w : List UInt8) (l : List (List UInt8)) (hl : l.length ≤ 100000) (hs : ∀ s ∈ l, s.length ≤ 1000000) : ACalls (E0 X) 20 [.sl 1 ((w :: l).map strA)] [] (fun r H' => r = resO w l ∧ H' = []) := by
  refine ACalls.cut0 (ACalls.wkR (R := fun r _ => Wk r (resO w l)) ?_ fun r H' h => ⟨_, rfl, h⟩) (resO_ids _ _)
  by_cases h_get : w = [103, 101, 116]
  · subst h_get; exact rs_get X l hl hs
  by_cases h_delete : w = [100, 101, 108, 101, 116, 101]
  · subst h_delete; exact rs_delete X l hl hs
  by_cases h_set : w = [115, 101, 116]
  · subst h_set; exact rs_set X l hl hs
  by_cases h_tick : w = [116, 105, 99, 107]
  · subst h_tick; exact rs_tick X l hl hs
  by_cases h_fuse : w = [102, 117, 115, 101]
  · subst h_fuse; exact rs_fuse X l hl hs
  by_cases h_resize : w = [114, 101, 115, 105, 122, 101]
  · subst h_resize; exact rs_resize X l hl hs
  by_cases h_crash : w = [99, 114, 97, 115, 104]
  · subst h_crash; exact rs_crash X l hl hs
  exact rs_else X w l hl h_get h_delete h_set h_tick h_fuse h_resize h_crash
theorem someQ_some {w : List UInt8} {l : List (List UInt8)} {o : Opv} (h : cmdP w l = some o) : someQ w l = o := by
  unfold cmdP at h
  split at h
  · rename_i h1
    cases h
    have hp := (plK_idx w).1 h1.1
    rcases idx_plain h1.1 with ⟨e, rfl⟩ | ⟨e, rfl⟩ | ⟨e, rfl⟩ | ⟨e, rfl⟩ | ⟨e, rfl⟩ <;> rw [e] <;> rfl
  split at h
  · rename_i h1
    simp only [Option.map_eq_some_iff] at h
    obtain ⟨k, h2, rfl⟩ := h
    rw [h1.1, len1 (d := []) h1.2]
    have := byR_some h2
    simp [someQ] at this ⊢
    rw [this]
  split at h
  · rename_i h1
    simp only [Option.map_eq_some_iff] at h
    obtain ⟨k, h2, rfl⟩ := h
    rw [h1.1, len1 (d := []) h1.2]
    have := byR_some h2
    simp [someQ] at this ⊢
    rw [this]
  split at h
  · rename_i h1
    split at h
    · rename_i k v n e1 e2 e3
      cases h
      rw [h1.1, len3 (d := []) h1.2]
      have q1 := byR_some e1
      have q2 := byR_some e2
      have q3 := numQ_some e3
      simp [someQ] at q1 q2 q3 ⊢
      rw [q1, q2, q3]
      simp
    · cases h
  split at h
  · rename_i h1
    simp only [Option.map_eq_some_iff] at h
    obtain ⟨k, h2, rfl⟩ := h
    rw [h1.1, len1 (d := []) h1.2]
    have := numQ_some h2
    simp [someQ] at this ⊢
    rw [this]
  split at h
  · rename_i h1
    simp only [Option.map_eq_some_iff] at h
    obtain ⟨k, h2, rfl⟩ := h
    rw [h1.1, len1 (d := []) h1.2]
    have := numQ_some h2
    simp [someQ] at this ⊢
    rw [this]
  split at h
  · rename_i h1
    split at h
    · rename_i a b e1 e2
      cases h
      rw [h1.1, len2 (d := []) h1.2]
      have q1 := numQ_some e1
      have q2 := numQ_some e2
      simp [someQ] at q1 q2 ⊢
      rw [q1, q2]
      simp
    · cases h
  split at h
  · rename_i h1
    split at h
    · rename_i k t e1 e2
      cases h
      obtain ⟨x, l', rfl⟩ : ∃ x l', l = x :: l' := List.exists_cons_of_length_pos h1.2
      rw [h1.1]
      have q2 := tearsQ_some _ _ e2
      simp [someQ] at e1 q2 ⊢
      rw [e1, q2]
      simp
    · cases h
  cases h
set_option maxHeartbeats 0 in
theorem rparse_c (X : Nat → Prop) (s : List UInt8) (hs : s.length ≤ 1000000) : ACalls (E0 X) 8 [.str s] [] (fun r H' => r = resP (parseP s) ∧ H' = []) := by
  refine ACalls.cut0 (ACalls.wkR (R := fun r _ => Wk r (resP (parseP s))) ?_ fun r H' h => ⟨_, rfl, h⟩) (resP_ids _)
  by_cases h0 : 1000 < s.length
  · rw [parseP, if_pos h0]
    refine acalls_of Proofs.Tryd.func8 rfl Proofs.Tryd.ntmps8 (by kernel_rfl) rfl ?_
    intro hH hargs
    clear hH hargs
    repeat' (first | ((refine Qa rfl ?_); (first | refine Q0 ?_ | refine Q1 ?_ | refine Q2 rfl ?_ | refine Q8 rfl rfl rfl ?_ | refine QJ rfl rfl ?_); (refine QX rfl rfl ?_)) | refine Qh ?_ | refine Ql ?_ | refine Qo rfl ?_ | refine Qs ?_)
    refine awp_cond_dec rfl (fun h1 => ?_) (fun h1 => ?_)
    · repeat' (first | ((refine Qa rfl ?_); (first | refine Q1 ?_ | refine QP rfl rfl rfl rfl rfl rfl ?_); (refine QX rfl rfl ?_)) | (refine Qb rfl ?_; try (refine QS rfl rfl rfl rfl rfl rfl rfl ?_; (refine QX rfl rfl ?_))) | refine Qh ?_ | refine Ql ?_ | refine Qo rfl ?_ | refine Qs ?_)
      refine awp_ret ?_
      exact ⟨_, rfl, wk_tup (wkL_cons wk_z (WkL.refl _))⟩
    · exact absurd (by omega) h1
  have hb := words_bytes 32 s
  have hwl := words_len 32 s
  obtain ⟨w, l, hw⟩ := List.exists_cons_of_ne_nil (wordsB_ne 32 s)
  have hP : parseP s = cmdP w l := by rw [parseP, if_neg h0, hw]
  rw [hw] at hb hwl
  rw [hP]
  refine acalls_of Proofs.Tryd.func8 rfl Proofs.Tryd.ntmps8 (by kernel_rfl) rfl ?_
  intro hH hargs
  clear hH hargs
  repeat' (first | ((refine Qa rfl ?_); (first | refine Q0 ?_ | refine Q1 ?_ | refine Q2 rfl ?_ | refine Q8 rfl rfl rfl ?_ | refine QJ rfl rfl ?_); (refine QX rfl rfl ?_)) | refine Qh ?_ | refine Ql ?_ | refine Qo rfl ?_ | refine Qs ?_)
  refine awp_cond_dec rfl (fun h1 => ?_) (fun h1 => ?_)
  · exact absurd h1 (by omega)
  repeat' (first | ((refine Qa rfl ?_); (refine Q0 ?_); (refine QX rfl rfl ?_)) | refine Qa rfl ?_ | refine Ql ?_ | refine Qm ?_ | refine Qo rfl ?_)
  refine st_call (fun _ => rfl) rfl ?_
  refine ACalls.mono (acalls_pure (E := E0 X) (fun X => rwords_c X s hs) (by simp [IdsLtL, IdsLt]) _) ?_
  rintro r H' ⟨rfl, rfl⟩
  first | refine nx rfl rfl ?_ | refine nx0 ?_
  rw [hw]
  repeat' (refine Qa rfl ?_)
  refine st_call (fun _ => rfl) rfl ?_
  refine ACalls.mono (acalls_pure (E := E0 X) (fun X => rsome_c X w l (by simp at hwl; omega) (fun x hx => by have := hb x (List.mem_cons_of_mem _ hx); omega)) ⟨ids_str _, trivial⟩ _) ?_
  rintro r H' ⟨rfl, rfl⟩
  first | refine nx rfl rfl ?_ | refine nx0 ?_
  cases hc : cmdP w l with
  | none =>
    repeat' (first | ((refine Qa rfl ?_); (first | refine Q0 ?_ | refine Q1 ?_ | refine QC rfl rfl ?_ | refine QD rfl ?_ | refine QJ rfl rfl ?_ | refine QP rfl rfl rfl rfl rfl rfl ?_); (refine QX rfl rfl ?_)) | (refine Qb rfl ?_; try (refine QS rfl rfl rfl rfl rfl rfl rfl ?_; (refine QX rfl rfl ?_))) | refine Qh ?_ | refine Ql ?_ | refine Qo rfl ?_ | refine Qp rfl ?_ | refine Qs ?_)
    refine awp_ret ?_
    exact ⟨_, rfl, wk_tup (wkL_cons wk_z (WkL.refl _))⟩
  | some o =>
    rw [someQ_some hc]
    repeat' (first | ((refine Qa rfl ?_); (first | refine Q0 ?_ | refine Q1 ?_ | refine Q3 rfl rfl rfl ?_ | refine QC rfl rfl ?_ | refine QD rfl ?_ | refine QJ rfl rfl ?_); (refine QX rfl rfl ?_)) | (refine Qb rfl ?_; try (refine QS rfl rfl rfl rfl rfl rfl rfl ?_; (refine QX rfl rfl ?_))) | refine Qh ?_ | refine Ql ?_ | refine Qm ?_ | refine Qo rfl ?_ | refine Qq rfl ?_ | refine Qs ?_)
    refine awp_ret ?_
    exact ⟨_, rfl, Wk.refl _⟩
end Go.Abs

