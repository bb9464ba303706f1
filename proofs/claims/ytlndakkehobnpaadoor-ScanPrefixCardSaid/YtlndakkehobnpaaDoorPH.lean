/- ScanRegion: the walk. Joined texts, each with what its own name promises; no condition beyond those stated. -/
import Derived.Test.YtlndakkehobnpaaDoorPG
namespace Go.Abs
/-- The layouts of the scan laws. -/
structure LyOk (l : La) (R : Nat) : Prop where
  rs : l.rs = (R : Int)
  two : 2 ≤ R ∧ R ≤ 16
  id : l.id = 3
  ver : l.ver = 1 ∨ l.ver = 2
  form : formB l = true
  regs : l.regs = 4
theorem lay_ok (ver log : Int) : ∃ l R, LyOk l R ∧ ∀ X, ACalls (E0 X) 47 [.int .i64 ver, .int .i64 log] [] (fun r H' => r = laA l ∧ H' = []) := by
  obtain ⟨a, b, ha, hb, h⟩ := lay14_c ver log
  refine ⟨la14 a b, 2 ^ (b + 1), ⟨rfl, ?_, rfl, ?_, la14_form ha hb, rfl⟩, h⟩
  · rcases (show b = 0 ∨ b = 1 ∨ b = 2 ∨ b = 3 by omega) with rfl | rfl | rfl | rfl <;> decide
  · rcases (show a = 0 ∨ a = 1 by omega) with rfl | rfl
    · exact .inl rfl
    · exact .inr rfl
theorem LyOk.slot {l : La} {R : Nat} (h : LyOk l R) {k : Int} (h0 : 0 ≤ k) (h1 : k < 4) : slotOk l k := ⟨h.form, h0, by rw [h.regs]; exact h1⟩
theorem csA_ids {c : Cs} {n : Nat} : IdsLtL n (csL c) := ⟨trivial, trivial, idsL_map fun _ => recA_ids, idsL_map fun _ => boA_ids, idsL_map fun _ => spA_ids, trivial, trivial⟩
attribute [local irreducible] AStep aops AWp Nx awM
end Go.Abs
namespace Go.Proofs.YtlndakkehobnpaaDoor
open Go.Abs Go.RowKit Go.ChangeShapes Go.WideShapes
end Go.Proofs.YtlndakkehobnpaaDoor

