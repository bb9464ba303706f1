/- ChanceLimit: what is picked was hit, is in the list's order and fits, and what was hit and is not picked would not have fitted. No condition. -/
import Derived.Test.YtfldnfchjaaoeaaC6
import Derived.Test.YtfldnfchjaaoeaaC7
namespace Go.Proofs.Ytfldnfchjaaoeaa
open Go.Abs Go.RowKit Go.ChangeShapes
theorem limitLifted (os : Os) (started : os.Started) (H : Type) (enc : TypeId × Value → H) :
    ReturnsInHanded {} Try.checked os 4 .any (Rows.chanceLimitSpec.pre6 enc Try.prog Try.f4 Rows.chanceLimitRow.domain Rows.chanceLimitRow.apart)
      (Rows.chanceLimitSpec.post enc Try.prog Try.f4 Rows.chanceLimitRow.apart Rows.chanceLimitRow.fresh Rows.chanceLimitRow.handsOn Rows.chanceLimitRow.again) := by
  refine returnsInHanded_of_change (C := Try.checked) (by kernel_rfl) started (by kernel_rfl) Try.func4
    (ChangeSpec.witness6 (enc := enc) (C := Try.checked) false ⟨#[], #[.slice none 0 0, .int .i64 0], []⟩ 8 (by kernel_rfl) (by kernel_rfl) (by kernel_rfl) (by kernel_rfl)) ?_
  intro W base args ds gs before hval0 hW _ _
  have hval : ∀ (j : Nat) t v, Try.f4.params[j]? = some t → args[j]? = some v → Value.okWide Try.prog W .any base t v := hval0
  have hW2 := hW
  obtain ⟨p, q, hA0, hV, _, _, _⟩ := hW2
  have hA : DataW.TrodAll enc Try.prog W 0 (fun _ => true) true [22, 3] args.toList ds p := hA0
  obtain ⟨rfl, rfl⟩ := trodVars_none hV
  obtain ⟨v0, v1, d0, d1, p0, p1, rfl, rfl, rfl, h0, h1⟩ := trodAll_two hA
  obtain ⟨x0, r0, c0⟩ := arg_av (E := E0 fun _ => False) (E0_ok _) (fun _ h => h) (f := 4) rfl rfl (hval 0 22 v0 rfl rfl) h0
  obtain ⟨x1, r1, c1⟩ := arg_av (E := E0 fun _ => False) (E0_ok _) (fun _ h => h) (f := 1) rfl rfl (hval 1 3 v1 rfl rfl) h1
  obtain ⟨l, rfl⟩ := pairs_of c0
  obtain ⟨n, rfl, hn⟩ := int_of c1
  exact law_true (E := E0 fun _ => False) (avs := [.sl 6 (l.map pav), .int .i64 n]) (tb := 4) (E0_ok _) (fun _ => rfl) (by kernel_rfl) rfl (by kernel_rfl) (by kernel_rfl) (by kernel_rfl) rfl rfl rfl hW (fun _ h => h)
    (RelL.cons r0 (RelL.cons r1 (by simp [Abs.RelL]))) (chanceLimit_c _ l n hn)

theorem chanceLimit_holds : Rows.ChanceLimitSaid :=
  OpenClaim.holds_of_wide 4 Try.f4 rfl rfl rfl rfl rfl rfl rfl ⟨rfl, rfl, rfl, rfl, rfl⟩ rfl rfl rfl rfl rfl (by kernel_rfl) Try.func4 (by kernel_rfl)
    (of_decide_eq_true (by kernel_rfl)) (by unfold Func.isWrapper; rw [if_neg (of_decide_eq_false (by kernel_rfl))]; exact ⟨rfl, rfl⟩)
    (fun os started H enc _ => limitLifted os started H enc)
#print axioms chanceLimit_holds
end Go.Proofs.Ytfldnfchjaaoeaa
