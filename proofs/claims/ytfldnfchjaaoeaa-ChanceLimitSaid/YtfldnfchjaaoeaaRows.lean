/-
  No cell of these rows narrows 'for every input' (looked for: loops, veiled, ifaces, maps, wideKeys, modest, calm, conditions, laid).
  DERIVED. THE GIVEN ROWS OF THIS SEAT. 2 by the template 'for every input the law returns true; each argument reads behind the call as it read before'; 0 by the template 'total and deterministic' (their statements: YtfldnfchjaaoeaaTotals.lean).
  GIVEN WITH THE SEED: the statements are not yours to turn. If you find one false, say at which input.
  Laid BY PROGRAM, IN A SANDBOX (cutbox-rows.mjs): the forced cells as the released guide's own fill.sh prints them over the translation 6c1bd48abd1cc59d… (all of the seat's roots in one cut). By AI agents, Wed Nov 11 2026. No macro, syntax, notation, axiom, sorry.
-/
import Derived.Test.YtfldnfchjaaoeaaChecked
import GoSem.Claim
import GoSem.ClaimJoined
import GoSem.ClaimMapViews
import Derived.JoinedTies
import Derived.KernelRfl
namespace Go.Proofs.Ytfldnfchjaaoeaa
/- THE CELL 'sum', in the pinned program and in every row, IS THE sha256 OF THE DUMP (.gsa) THAT YtfldnfchjaaoeaaProg.lean LOADS. Nothing in Lean hashes anything: it is a label: what it is worth is what the hold of that sum in a sandbox is worth. -/
noncomputable def Try.pinned : Pinned := { name := "ytfldnfchjaaoeaa", sum := "6c1bd48abd1cc59de4089bb57d60bb386534dc303f7a114d6c5a7e2383ddee03", checked := Try.checked }
namespace Rows
def none {H : Type} : Left H := { results := [], args := [] }

/-- 'flashcachelaw24.ChancePick': WHATEVER THE INPUT: true; the input reads as it did. -/
def chancePickSpec : ChangeSpec := { name := "chancePick", fn := fun _ => fun
  | [d1, d2] => { results := [.lit (.bool true)], args := [d1, d2] }
  | _ => none }
def chancePickRow : OpenClaim := { program := "ytfldnfchjaaoeaa", sum := "6c1bd48abd1cc59de4089bb57d60bb386534dc303f7a114d6c5a7e2383ddee03", func := "flashcache/flashcachelaw24.ChancePick", spec := "chancePick", apart := false }
def ChancePickSaid : Prop := chancePickRow.holds Try.pinned (OpenSpec.ofChange chancePickSpec)

/-- ITS FALSE NEIGHBOUR: 'it returns false'. Refute it at one input. -/
def chancePickWrong : ChangeSpec := { name := "chancePick", fn := fun _ => fun
  | [d1, d2] => { results := [.lit (.bool false)], args := [d1, d2] }
  | _ => none }
def ChancePickWrongFalsely : Prop := chancePickRow.holds Try.pinned (OpenSpec.ofChange chancePickWrong)

/-- 'flashcachelaw24.ChanceLimit': WHATEVER THE INPUT: true; the input reads as it did. -/
def chanceLimitSpec : ChangeSpec := { name := "chanceLimit", fn := fun _ => fun
  | [d1, d2] => { results := [.lit (.bool true)], args := [d1, d2] }
  | _ => none }
def chanceLimitRow : OpenClaim := { program := "ytfldnfchjaaoeaa", sum := "6c1bd48abd1cc59de4089bb57d60bb386534dc303f7a114d6c5a7e2383ddee03", func := "flashcache/flashcachelaw24.ChanceLimit", spec := "chanceLimit", apart := false }
def ChanceLimitSaid : Prop := chanceLimitRow.holds Try.pinned (OpenSpec.ofChange chanceLimitSpec)

/-- ITS FALSE NEIGHBOUR: 'it returns false'. Refute it at one input. -/
def chanceLimitWrong : ChangeSpec := { name := "chanceLimit", fn := fun _ => fun
  | [d1, d2] => { results := [.lit (.bool false)], args := [d1, d2] }
  | _ => none }
def ChanceLimitWrongFalsely : Prop := chanceLimitRow.holds Try.pinned (OpenSpec.ofChange chanceLimitWrong)

/- THE SECOND FORM. 'bulk': how many values and letters a reading holds, each counted each time it is reached (what is shared counts as often as it is met; a slice's spare places count too). A statement '..UptoSaid' is the law's where the arguments, and the package variables that the reading takes, are together of bulk at most 1048576: NARROWER than '..Said'. Prove '..Said' where nothing that the law and all that it calls make is longer than what came in: it says more and counts as full. Else prove '..UptoSaid'. A law counts once. -/
mutual
def uptoBulk {H : Type} : DataW H → Nat
  | .lit (.string bytes) => bytes.length + 1
  | .lit _ => 1
  | .nil => 1
  | .ptr d => uptoBulk d + 1
  | .slice elems spare => uptoBulkAll elems + uptoBulkAll spare + 1
  | .agg parts => uptoBulkAll parts + 1
  | .iface _ d => uptoBulk d + 1
  | .map entries => uptoBulkEntries entries + 1
  | .held _ => 1
def uptoBulkAll {H : Type} : List (DataW H) → Nat
  | [] => 0
  | d :: r => uptoBulk d + uptoBulkAll r
def uptoBulkEntries {H : Type} : List (Lit × DataW H) → Nat
  | [] => 0
  | x :: r => uptoBulkEntry x + uptoBulkEntries r
def uptoBulkEntry {H : Type} : Lit × DataW H → Nat
  | (.string bytes, d) => bytes.length + uptoBulk d + 1
  | (_, d) => uptoBulk d + 1
 end
def uptoSmall : (H : Type) → List (DataW H) → Bool := fun _ ds => decide (uptoBulkAll ds ≤ 1048576)
def OpenSpec.upto (s : _root_.Go.ChangeSpec) : _root_.Go.OpenSpec := { _root_.Go.OpenSpec.ofChange s with cond := some uptoSmall }

/-- 'flashcachelaw24.ChancePick', WHERE WHAT IT READS IS OF BULK AT MOST 1048576: true; the input reads as it did. -/
def chancePickUptoRow : OpenClaim := { program := "ytfldnfchjaaoeaa", sum := "6c1bd48abd1cc59de4089bb57d60bb386534dc303f7a114d6c5a7e2383ddee03", func := "flashcache/flashcachelaw24.ChancePick", spec := "chancePick", apart := false, narrowed := true }
def ChancePickUptoSaid : Prop := chancePickUptoRow.holds Try.pinned (OpenSpec.upto chancePickSpec)

/-- 'flashcachelaw24.ChanceLimit', WHERE WHAT IT READS IS OF BULK AT MOST 1048576: true; the input reads as it did. -/
def chanceLimitUptoRow : OpenClaim := { program := "ytfldnfchjaaoeaa", sum := "6c1bd48abd1cc59de4089bb57d60bb386534dc303f7a114d6c5a7e2383ddee03", func := "flashcache/flashcachelaw24.ChanceLimit", spec := "chanceLimit", apart := false, narrowed := true }
def ChanceLimitUptoSaid : Prop := chanceLimitUptoRow.holds Try.pinned (OpenSpec.upto chanceLimitSpec)

end Rows
end Go.Proofs.Ytfldnfchjaaoeaa
