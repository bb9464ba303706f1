/- Steps of a region that draws, in normal form. -/
import Derived.Test.YtfldnfchjaaoeaaA12
namespace Go.Abs
section
variable {E : Env} {ops : Array Oper} {ef so : List Nat} {K : St → Prop} {i : Nat} {rest : List Nat} {sl : List (Nat × AV)} {hp : Hp}
variable {op : Op} {ty : TypeId} {pos : String} {after : Array Edge} {g : Option (Nat × Bool)} {d : Nat}
theorem ds_nil {s : St} (h : K s) : awM E ops ef so K [] s := h
/-- A step with an effect. -/
theorem ds_ef (hi : ops[i]? = some ⟨some d, op, ty, pos, after, g⟩) (hw : wantedA ops ⟨some d, op, ty, pos, after, g⟩ sl = some true) (he : ef.contains i = true)
    (h : AStep E ⟨some d, op, ty, pos, after, g⟩ (evF E (tsOf ⟨some d, op, ty, pos, after, g⟩) (get sl)) hp (Nx fun r H' => awM E ops ef so K rest ⟨(d, r) :: sl, H'⟩)) : awM E ops ef so K (i :: rest) ⟨sl, hp⟩ := by
  simp only [awM, hi, hw, he, if_true]
  exact astep_mono h fun _ _ h => nx_id h
/-- A step without one. -/
theorem ds (hi : ops[i]? = some ⟨some d, op, ty, pos, after, g⟩) (hw : wantedA ops ⟨some d, op, ty, pos, after, g⟩ sl = some true) (he : ef.contains i = false) (hs : so.contains i = false)
    {v : AV} (h : AStep E ⟨some d, op, ty, pos, after, g⟩ (evF E (tsOf ⟨some d, op, ty, pos, after, g⟩) (get sl)) hp (Nx fun r H' => r = v ∧ H' = hp)) (h2 : awM E ops ef so K rest ⟨(d, v) :: sl, hp⟩) : awM E ops ef so K (i :: rest) ⟨sl, hp⟩ := by
  simp only [awM, hi, hw, he, hs, Bool.false_eq_true, if_false]
  exact ⟨v, astep_mono h fun _ _ h => nx_id (k := fun r H' => r = v ∧ H' = hp) h, h2⟩
/-- A step without one that is the same over every heap. -/
theorem ds_so (hi : ops[i]? = some ⟨some d, op, ty, pos, after, g⟩) (hw : wantedA ops ⟨some d, op, ty, pos, after, g⟩ sl = some true) (he : ef.contains i = false) (hs : so.contains i = true)
    {v : AV} (h : ∀ H, AStep E ⟨some d, op, ty, pos, after, g⟩ (evF E (tsOf ⟨some d, op, ty, pos, after, g⟩) (get sl)) H (fun r H' => r = v ∧ H' = H)) (h2 : awM E ops ef so K rest ⟨(d, v) :: sl, hp⟩) : awM E ops ef so K (i :: rest) ⟨sl, hp⟩ := by
  simp only [awM, hi, hw, he, hs, Bool.false_eq_true, if_false, if_true]
  exact ⟨v, h, h2⟩
theorem ds_skip (hi : ops[i]? = some ⟨some d, op, ty, pos, after, g⟩) (hw : wantedA ops ⟨some d, op, ty, pos, after, g⟩ sl = some false) (h : awM E ops ef so K rest ⟨(d, .tup []) :: sl, hp⟩) : awM E ops ef so K (i :: rest) ⟨sl, hp⟩ := by
  simp only [awM, hi, hw]
  exact h
end
end Go.Abs
