/- ChancePick: Pick agrees with the reference, for up to 30 pairs. No condition. -/
import Derived.Test.YtfldnfchjaaoeaaC5
import Derived.Test.YtfldnfchjaaoeaaA15
import Derived.Test.YtfldnfchjaaoeaaRows
namespace Go.Abs

theorem pair_of {X : Nat → Prop} {ys : List AV} (h : hasC (E0 X) 3 30 ys) : ∃ p, elA true ys = pav p := by
  have h1 : hasF (E0 X) (hasC (E0 X) 2) [(0, 9), (1, 28)] ys := h
  obtain ⟨a, b, rfl, ⟨s, rfl, _⟩, c, d, rfl, h2, rfl⟩ := h1
  have h3 : hasF (E0 X) (hasC (E0 X) 1) [(0, 3), (1, 3), (2, 3), (3, 3), (4, 4)] c := h2
  obtain ⟨_, _, rfl, ⟨n0, rfl, _⟩, _, _, rfl, ⟨n1, rfl, _⟩, _, _, rfl, ⟨n2, rfl, _⟩, _, _, rfl, ⟨n3, rfl, _⟩, _, _, rfl, ⟨b4, rfl⟩, rfl⟩ := h3
  exact ⟨⟨s, n0, n1, n2, n3, b4⟩, rfl⟩
theorem pairs_of {X : Nat → Prop} {x : AV} (h : hasC (E0 X) 4 22 [x]) : ∃ l : List Pr, x = .sl 6 (l.map pav) := by
  have h1 : ∃ es, [x] = [.sl 6 es] ∧ es.length ≤ maxLen ∧ ∀ y ∈ es, ∃ ys, y = elA true ys ∧ hasC (E0 X) 3 30 ys := h
  obtain ⟨es, h2, hlen, h3⟩ := h1
  clear hlen
  simp only [List.cons.injEq, and_true] at h2
  subst h2
  have : ∃ l : List Pr, es = l.map pav := by
    clear h
    induction es with
    | nil => exact ⟨[], rfl⟩
    | cons y es ih =>
      obtain ⟨l, rfl⟩ := ih fun z hz => h3 z (List.mem_cons_of_mem _ hz)
      obtain ⟨ys, rfl, h4⟩ := h3 y (by simp)
      obtain ⟨p, hp⟩ := pair_of h4
      exact ⟨p :: l, by rw [hp]; rfl⟩
  obtain ⟨l, rfl⟩ := this
  exact ⟨l, rfl⟩
theorem int_of {X : Nat → Prop} {x : AV} (h : hasC (E0 X) 1 3 [x]) : ∃ n, x = .int .i64 n ∧ n ≤ 9223372036854775807 := by
  have h1 : ∃ n, [x] = [.int .i64 n] ∧ IntKind.i64.min ≤ n ∧ n ≤ IntKind.i64.max := h
  obtain ⟨n, h2, _, h3⟩ := h1
  simp only [List.cons.injEq, and_true] at h2
  exact ⟨n, h2, by have : IntKind.i64.max = 9223372036854775807 := rfl
                   omega⟩
end Go.Abs
namespace Go.Proofs.Ytfldnfchjaaoeaa
open Go.Abs Go.RowKit Go.ChangeShapes
theorem pickLifted (os : Os) (started : os.Started) (H : Type) (enc : TypeId × Value → H) :
    ReturnsInHanded {} Try.checked os 3 .any (Rows.chancePickSpec.pre6 enc Try.prog Try.f3 Rows.chancePickRow.domain Rows.chancePickRow.apart)
      (Rows.chancePickSpec.post enc Try.prog Try.f3 Rows.chancePickRow.apart Rows.chancePickRow.fresh Rows.chancePickRow.handsOn Rows.chancePickRow.again) := by
  refine returnsInHanded_of_change (C := Try.checked) (by kernel_rfl) started (by kernel_rfl) Try.func3
    (ChangeSpec.witness6 (enc := enc) (C := Try.checked) false ⟨#[], #[.slice none 0 0, .int .i64 0], []⟩ 8 (by kernel_rfl) (by kernel_rfl) (by kernel_rfl) (by kernel_rfl)) ?_
  intro W base args ds gs before hval0 hW _ _
  have hval : ∀ (j : Nat) t v, Try.f3.params[j]? = some t → args[j]? = some v → Value.okWide Try.prog W .any base t v := hval0
  have hW2 := hW
  obtain ⟨p, q, hA0, hV, _, _, _⟩ := hW2
  have hA : DataW.TrodAll enc Try.prog W 0 (fun _ => true) true [22, 3] args.toList ds p := hA0
  obtain ⟨rfl, rfl⟩ := trodVars_none hV
  obtain ⟨v0, v1, d0, d1, p0, p1, rfl, rfl, rfl, h0, h1⟩ := trodAll_two hA
  obtain ⟨x0, r0, c0⟩ := arg_av (E := E0 fun _ => False) (E0_ok _) (fun _ h => h) (f := 4) rfl rfl (hval 0 22 v0 rfl rfl) h0
  obtain ⟨x1, r1, c1⟩ := arg_av (E := E0 fun _ => False) (E0_ok _) (fun _ h => h) (f := 1) rfl rfl (hval 1 3 v1 rfl rfl) h1
  obtain ⟨l, rfl⟩ := pairs_of c0
  obtain ⟨n, rfl, hn⟩ := int_of c1
  exact law_true (E := E0 fun _ => False) (avs := [.sl 6 (l.map pav), .int .i64 n]) (tb := 4) (E0_ok _) (fun _ => rfl) (by kernel_rfl) rfl (by kernel_rfl) (by kernel_rfl) (by kernel_rfl) rfl rfl rfl hW (fun _ h => h)
    (RelL.cons r0 (RelL.cons r1 (by simp [Abs.RelL]))) (chancePick_c _ l n hn)

theorem chancePick_holds : Rows.ChancePickSaid :=
  OpenClaim.holds_of_wide 3 Try.f3 rfl rfl rfl rfl rfl rfl rfl ⟨rfl, rfl, rfl, rfl, rfl⟩ rfl rfl rfl rfl rfl (by kernel_rfl) Try.func3 (by kernel_rfl)
    (of_decide_eq_true (by kernel_rfl)) (by unfold Func.isWrapper; rw [if_neg (of_decide_eq_false (by kernel_rfl))]; exact ⟨rfl, rfl⟩)
    (fun os started H enc _ => pickLifted os started H enc)
#print axioms chancePick_holds
end Go.Proofs.Ytfldnfchjaaoeaa
