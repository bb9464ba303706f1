/- Steps that leave the state in normal form; functions that need no object of the caller's. -/
import Derived.Test.YtfldnfchjaaoeaaA10
namespace Go.Abs

def nn : Nat → Option Nat
  | 0 => some 0
  | n + 1 => match nn n with
    | some k => some (k + 1)
    | none => none
def nl : List AV → Option (List AV)
  | [] => some []
  | x :: xs => match nl xs with
    | some ys => some (x :: ys)
    | none => none
def nv : AV → Option AV
  | .any => some .any
  | .int k n => some (.int k n)
  | .bool b => some (.bool b)
  | .str s => some (.str s)
  | .nilp => some .nilp
  | .nils => some .nils
  | .nilm => some .nilm
  | .nilf => some .nilf
  | .nili => some .nili
  | .fp cs => match nl cs with
    | some cs => some (.fp cs)
    | none => none
  | .ptr id off => match nn id, nn off with
    | some id, some off => some (.ptr id off)
    | _, _ => none
  | .pe id i off => match nn id, nn off with
    | some id, some off => some (.pe id i off)
    | _, _ => none
  | .sl k es => some (.sl k es)
  | .own id lo n => match nn id with
    | some id => some (.own id lo n)
    | none => none
  | .mp id => match nn id with
    | some id => some (.mp id)
    | none => none
  | .agg cs => match nl cs with
    | some cs => some (.agg cs)
    | none => none
  | .tup cs => match nl cs with
    | some cs => some (.tup cs)
    | none => none
  | .clo f a c => some (.clo f a c)
  | .ifc t x => some (.ifc t x)
def no : Option AO → Option (Option AO)
  | none => some none
  | some (.cells cs e) => match nl cs with
    | some cs => some (some (.cells cs e))
    | none => none
  | some (.arr es e) => some (some (.arr es e))
  | some (.map es) => some (some (.map es))
def nh : Hp → Option Hp
  | [] => some []
  | x :: xs => match no x, nh xs with
    | some y, some ys => some (y :: ys)
    | _, _ => none
theorem nn_eq : ∀ {n k : Nat}, nn n = some k → n = k
  | 0, _, h => by simp [nn] at h; exact h
  | n + 1, k, h => by
    simp only [nn] at h
    split at h
    · rename_i j hj; cases h; rw [nn_eq hj]
    · cases h
theorem nl_eq : ∀ {x y : List AV}, nl x = some y → x = y
  | [], _, h => by simp [nl] at h; exact h.symm
  | x :: xs, y, h => by
    simp only [nl] at h
    split at h
    · rename_i j hj; cases h; rw [nl_eq hj]
    · cases h
theorem nv_eq {x y : AV} (h : nv x = some y) : x = y := by
  unfold nv at h
  split at h
  all_goals first
    | (cases h; rfl)
    | (split at h
       · rename_i hj; cases h; rw [nl_eq hj]
       · cases h)
    | (split at h
       · rename_i hj; cases h; rw [nn_eq hj]
       · cases h)
    | (split at h
       · rename_i hj hk; cases h; rw [nn_eq hj, nn_eq hk]
       · cases h)
theorem no_eq {x y : Option AO} (h : no x = some y) : x = y := by
  unfold no at h
  split at h
  · cases h; rfl
  · split at h
    · rename_i hj; cases h; rw [nl_eq hj]
    · cases h
  · cases h; rfl
  · cases h; rfl
theorem nh_eq : ∀ {x y : Hp}, nh x = some y → x = y
  | [], _, h => by simp [nh] at h; exact h.symm
  | x :: xs, y, h => by
    simp only [nh] at h
    split at h
    · rename_i a b ha hb; cases h; rw [no_eq ha, nh_eq hb]
    · cases h

section
variable {E : Env} {N n0 : Nat} {Q : Exit → St → Prop} {sl : List (Nat × AV)} {hp : Hp} {K : St → Prop} {ops : Array Oper} {rest : List Oper}
variable {op : Op} {ty : TypeId} {pos : String} {after : Array Edge} {g : Option (Nat × Bool)}

/-- What is behind a step: the state in normal form. -/
def Nx (k : AV → Hp → Prop) (r : AV) (H : Hp) : Prop := ∃ r2 H2, nv r = some r2 ∧ nh H = some H2 ∧ k r2 H2
theorem nx {k : AV → Hp → Prop} {r r2 : AV} {H H2 : Hp} (h1 : nv r = some r2) (h2 : nh H = some H2) (h : k r2 H2) : Nx k r H := ⟨r2, H2, h1, h2, h⟩
theorem nx_id {k : AV → Hp → Prop} {r : AV} {H : Hp} (h : Nx k r H) : k r H := by
  obtain ⟨r2, H2, h1, h2, h⟩ := h
  rw [nv_eq h1, nh_eq h2]; exact h
theorem bs {d : Nat} (hw : wantedA ops ⟨some d, op, ty, pos, after, g⟩ sl = some true) (h : AStep E ⟨some d, op, ty, pos, after, g⟩ (ev E sl) hp (Nx fun r H' => aops E ops rest K ⟨(d, r) :: sl, H'⟩)) :
    aops E ops (⟨some d, op, ty, pos, after, g⟩ :: rest) K ⟨sl, hp⟩ :=
  aops_step hw (astep_mono h fun _ _ h => nx_id h)
theorem bs0 (hw : wantedA ops ⟨none, op, ty, pos, after, g⟩ sl = some true) (h : AStep E ⟨none, op, ty, pos, after, g⟩ (ev E sl) hp (Nx fun _ H' => aops E ops rest K ⟨sl, H'⟩)) :
    aops E ops (⟨none, op, ty, pos, after, g⟩ :: rest) K ⟨sl, hp⟩ :=
  aops_step hw (astep_mono h fun _ _ h => nx_id (k := fun _ H' => aops E ops rest K ⟨sl, H'⟩) h)
/-- A step whose result cannot be brought into normal form: it is taken as it is. -/
theorem bsR {d : Nat} (hw : wantedA ops ⟨some d, op, ty, pos, after, g⟩ sl = some true) (h : AStep E ⟨some d, op, ty, pos, after, g⟩ (ev E sl) hp (fun r H' => aops E ops rest K ⟨(d, r) :: sl, H'⟩)) :
    aops E ops (⟨some d, op, ty, pos, after, g⟩ :: rest) K ⟨sl, hp⟩ := aops_step hw h
theorem bskip {d : Nat} (hw : wantedA ops ⟨some d, op, ty, pos, after, g⟩ sl = some false) (h : aops E ops rest K ⟨(d, .tup []) :: sl, hp⟩) :
    aops E ops (⟨some d, op, ty, pos, after, g⟩ :: rest) K ⟨sl, hp⟩ := aops_skip hw h
theorem bskip0 (hw : wantedA ops ⟨none, op, ty, pos, after, g⟩ sl = some false) (h : aops E ops rest K ⟨sl, hp⟩) :
    aops E ops (⟨none, op, ty, pos, after, g⟩ :: rest) K ⟨sl, hp⟩ := aops_skip hw h
theorem bguard {o : Oper} {d : Nat} {p : Prop} [Decidable p] (hg : gslot ops o = some d) (hb : get sl d = .bool (decide p))
    (ht : p → aops E ops (o :: rest) K ⟨(d, .bool true) :: sl, hp⟩) (hf : ¬ p → aops E ops (o :: rest) K ⟨(d, .bool false) :: sl, hp⟩) : aops E ops (o :: rest) K ⟨sl, hp⟩ :=
  aops_guard_dec hg hb ht hf
theorem bguardB {o : Oper} {d : Nat} {b : Bool} (_hg : gslot ops o = some d) (hb : get sl d = .bool b)
    (ht : b = true → aops E ops (o :: rest) K ⟨(d, .bool true) :: sl, hp⟩) (hf : b = false → aops E ops (o :: rest) K ⟨(d, .bool false) :: sl, hp⟩) : aops E ops (o :: rest) K ⟨sl, hp⟩ :=
  aops_guard hb ht hf
end

def Env.wX (E : Env) (X : Nat → Prop) : Env := { P := E.P, ti := E.ti, n := E.n, G := E.G, X := X }
/-- A function that needs no object of its caller's, and leaves none. -/
theorem acalls_pure {E : Env} {f : FuncId} {args : List AV} {r : AV} (h : ∀ X, ACalls (E.wX X) f args [] (fun r' H' => r' = r ∧ H' = [])) (ha : IdsLtL 0 args) (H : Hp) : ACalls E f args H (fun r' H' => r' = r ∧ H' = H) := by
  refine ⟨(h E.X).1, fun m w vs hok hglob hargs hsim => ?_⟩
  have hc0 : ∀ i, i < 0 → (fun _ => none : Nat → Option Nat) i = some i := fun i h => absurd h (Nat.not_lt_zero _)
  have hc : Cmp (fun _ => none) E.cx (E.wX fun b => E.X b ∨ .blk b ∈ m).cx m [] := ⟨rfl, fun _ _ h => absurd h (by simp), fun b hb => hb.elim (fun h => absurd h (by simp)) (fun h => h.elim .inr .inl)⟩
  have hsim0 : (E.wX fun b => E.X b ∨ .blk b ∈ m).Sim [] w [] := ⟨rfl, fun _ _ h => by simp at h, fun _ h => by simp at h, fun _ _ _ h => by simp at h, fun b hb => hb.elim (hsim.xlt b) (fun h => hsim.lt h), fun b hb => absurd hb (by simp)⟩
  refine ((h fun b => E.X b ∨ .blk b ∈ m).2 [] w vs hok (fun g => Rel.cmp hc hc0 _ (hok.2.2 g) (hglob g)) (RelL.cmp hc hc0 _ ha hargs) hsim0).mono ?_
  rintro e w' ⟨v, m', r', H', he, hext, hr, hs', rfl, rfl⟩
  have hm' : m' = [] := List.eq_nil_of_length_eq_zero (by rw [hs'.len]; rfl)
  subst hm'
  have hext2 : Ext m w m w' := ⟨hext.os, hext.tape, hext.output, hext.size, fun b hb _ => hext.keep b hb (by simp), fun _ _ h => h, Nat.le_refl _, fun _ _ _ _ h => h, hext.shape⟩
  have hc2 : Cmp (fun _ => none) (E.wX fun b => E.X b ∨ .blk b ∈ m).cx E.cx [] m := ⟨rfl, fun _ _ h => absurd h (by simp), fun b hb => .inr (hb.elim .inr .inl)⟩
  exact ⟨v, m, r', H, he, hext2, Rel.cmp hc2 hc0 _ (by have := Rel.ids _ hr; simpa using this) hr, hsim.of_ext hext2 fun b hb => hext.keep b (hsim.lt hb) (by simp), rfl, rfl⟩
end Go.Abs
