/- Steps of a region that draws, in normal form. -/
import Derived.Test.YtfldnfchjaaoeaaA12
namespace Go.Abs
section
variable {E : Env} {ops : Array Oper} {ef so : List Nat} {K : St → Prop} {i : Nat} {rest : List Nat} {sl : List (Nat × AV)} {hp : Hp}
variable {op : Op} {ty : TypeId} {pos : String} {after : Array Edge} {g : Option (Nat × Bool)} {d : Nat}
theorem ds_nil {s : St} (h : K s) : awM E ops ef so K [] s := ⟨s.sl, rfl, h⟩
theorem awM_pre : ∀ {ord : List Nat} {sl sl' : List (Nat × AV)} {hp : Hp}, get sl = get sl' → awM E ops ef so K ord ⟨sl', hp⟩ → awM E ops ef so K ord ⟨sl, hp⟩
  | [], _, _, _, hs, ⟨sl2, h1, h2⟩ => ⟨sl2, h1.trans hs.symm, h2⟩
  | i :: rest, sl, sl', hp, hs, h => by
    have hp2 : ∀ d r, get (put d r sl) = get (put d r sl') := fun d r => by funext k; simp [get_put, hs]
    simp only [awM] at h ⊢
    split
    · rename_i he; rw [he] at h; exact h.elim
    · rename_i o he
      rw [he] at h
      have hwa : wantedA ops o sl = wantedA ops o sl' := by unfold wantedA; split <;> simp [hs]
      simp only [hwa, hs] at h ⊢
      split
      · rename_i hw; rw [hw] at h; exact h.elim
      · rename_i hw; rw [hw] at h; exact awM_pre (hp2 _ _) h
      · rename_i hw
        rw [hw] at h
        simp only at h
        split
        · rename_i hc; rw [if_pos hc] at h; exact astep_mono h fun r H' h => awM_pre (hp2 _ _) h
        · rename_i hc
          rw [if_neg hc] at h
          split
          · rename_i hc2
            rw [if_pos hc2] at h
            obtain ⟨v, h1, h2⟩ := h
            exact ⟨v, h1, awM_pre (hp2 _ _) h2⟩
          · rename_i hc2
            rw [if_neg hc2] at h
            obtain ⟨v, h1, h2⟩ := h
            exact ⟨v, h1, awM_pre (hp2 _ _) h2⟩
/-- A guard that is not known: both ways. -/
theorem ds_guardB {o : Oper} {d : Nat} {b : Bool} (_hi : ops[i]? = some o) (_hg : gslot ops o = some d) (hb : get sl d = .bool b)
    (ht : b = true → awM E ops ef so K (i :: rest) ⟨(d, .bool true) :: sl, hp⟩) (hf : b = false → awM E ops ef so K (i :: rest) ⟨(d, .bool false) :: sl, hp⟩) : awM E ops ef so K (i :: rest) ⟨sl, hp⟩ := by
  have key : ∀ c, b = c → get sl = get ((d, .bool c) :: sl) := fun c hc => by
    funext k
    rw [get_cons]
    split
    · rename_i e; rw [← e, hb, hc]
    · rfl
  cases b with
  | true => exact awM_pre (key true rfl) (ht rfl)
  | false => exact awM_pre (key false rfl) (hf rfl)
theorem ds_guard {o : Oper} {d : Nat} {p : Prop} [Decidable p] (hi : ops[i]? = some o) (hg : gslot ops o = some d) (hb : get sl d = .bool (decide p))
    (ht : p → awM E ops ef so K (i :: rest) ⟨(d, .bool true) :: sl, hp⟩) (hf : ¬ p → awM E ops ef so K (i :: rest) ⟨(d, .bool false) :: sl, hp⟩) : awM E ops ef so K (i :: rest) ⟨sl, hp⟩ :=
  ds_guardB hi hg hb (fun h => ht (of_decide_eq_true h)) (fun h => hf (of_decide_eq_false h))
/-- A step with an effect. -/
theorem ds_ef (hi : ops[i]? = some ⟨some d, op, ty, pos, after, g⟩) (hw : wantedA ops ⟨some d, op, ty, pos, after, g⟩ sl = some true) (he : ef.contains i = true)
    (h : AStep E ⟨some d, op, ty, pos, after, g⟩ (evF E (tsOf ⟨some d, op, ty, pos, after, g⟩) (get sl)) hp (Nx fun r H' => awM E ops ef so K rest ⟨(d, r) :: sl, H'⟩)) : awM E ops ef so K (i :: rest) ⟨sl, hp⟩ := by
  simp only [awM, hi, hw, he, if_true]
  exact astep_mono h fun _ _ h => nx_id h
/-- A step without one. -/
theorem ds (hi : ops[i]? = some ⟨some d, op, ty, pos, after, g⟩) (hw : wantedA ops ⟨some d, op, ty, pos, after, g⟩ sl = some true) (he : ef.contains i = false) (hs : so.contains i = false)
    {v : AV} (h : AStep E ⟨some d, op, ty, pos, after, g⟩ (evF E (tsOf ⟨some d, op, ty, pos, after, g⟩) (get sl)) hp (Nx fun r H' => r = v ∧ H' = hp)) (h2 : awM E ops ef so K rest ⟨(d, v) :: sl, hp⟩) : awM E ops ef so K (i :: rest) ⟨sl, hp⟩ := by
  simp only [awM, hi, hw, he, hs, Bool.false_eq_true, if_false]
  exact ⟨v, astep_mono h fun _ _ h => nx_id (k := fun r H' => r = v ∧ H' = hp) h, h2⟩
/-- A step without one that is the same over every heap. -/
theorem ds_so (hi : ops[i]? = some ⟨some d, op, ty, pos, after, g⟩) (hw : wantedA ops ⟨some d, op, ty, pos, after, g⟩ sl = some true) (he : ef.contains i = false) (hs : so.contains i = true)
    {v : AV} (h : ∀ H, AStep E ⟨some d, op, ty, pos, after, g⟩ (evF E (tsOf ⟨some d, op, ty, pos, after, g⟩) (get sl)) H (fun r H' => r = v ∧ H' = H)) (h2 : awM E ops ef so K rest ⟨(d, v) :: sl, hp⟩) : awM E ops ef so K (i :: rest) ⟨sl, hp⟩ := by
  simp only [awM, hi, hw, he, hs, Bool.false_eq_true, if_false, if_true]
  exact ⟨v, h, h2⟩
theorem ds_skip (hi : ops[i]? = some ⟨some d, op, ty, pos, after, g⟩) (hw : wantedA ops ⟨some d, op, ty, pos, after, g⟩ sl = some false) (h : awM E ops ef so K rest ⟨(d, .tup []) :: sl, hp⟩) : awM E ops ef so K (i :: rest) ⟨sl, hp⟩ := by
  simp only [awM, hi, hw]
  exact h
end
end Go.Abs
