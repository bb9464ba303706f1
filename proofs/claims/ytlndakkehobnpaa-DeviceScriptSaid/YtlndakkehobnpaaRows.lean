/-
  No cell of these rows narrows 'for every input' (looked for: loops, veiled, ifaces, maps, wideKeys, modest, calm, conditions, laid).
  DERIVED. THE GIVEN ROWS OF THIS SEAT. 6 by the template 'for every input the law returns true; each argument reads behind the call as it read before'; 0 by the template 'total and deterministic' (their statements: YtlndakkehobnpaaTotals.lean).
  GIVEN WITH THE SEED: the statements are not yours to turn. If you find one false, say at which input.
  Laid BY PROGRAM, IN A SANDBOX (cutbox-rows.mjs): the forced cells as the released guide's own fill.sh prints them over the translation e0ac7020818642c5… (all of the seat's roots in one cut). By AI agents, Wed Nov 11 2026. No macro, syntax, notation, axiom, sorry.
-/
import Derived.Test.YtlndakkehobnpaaChecked
import GoSem.Claim
import GoSem.ClaimJoined
import GoSem.ClaimMapViews
import Derived.JoinedTies
import Derived.KernelRfl
namespace Go.Proofs.Ytlndakkehobnpaa
/- THE CELL 'sum', in the pinned program and in every row, IS THE sha256 OF THE DUMP (.gsa) THAT YtlndakkehobnpaaProg.lean LOADS. Nothing in Lean hashes anything: it is a label: what it is worth is what the hold of that sum in a sandbox is worth. -/
noncomputable def Try.pinned : Pinned := { name := "ytlndakkehobnpaa", sum := "e0ac7020818642c57e1f7eb289f5ec88c358d4142f00d8e4153f4582a5f5c6a7", checked := Try.checked }
namespace Rows
def none {H : Type} : Left H := { results := [], args := [] }

/-- 'flashcachelaw03.DeviceSafe': WHATEVER THE INPUT: true; the input reads as it did. -/
def deviceSafeSpec : ChangeSpec := { name := "deviceSafe", fn := fun _ => fun
  | [d1, d2, d3] => { results := [.lit (.bool true)], args := [d1, d2, d3] }
  | _ => none }
def deviceSafeRow : OpenClaim := { program := "ytlndakkehobnpaa", sum := "e0ac7020818642c57e1f7eb289f5ec88c358d4142f00d8e4153f4582a5f5c6a7", func := "flashcache/flashcachelaw03.DeviceSafe", spec := "deviceSafe", unfollowed := true, recurses := true, apart := false }
def DeviceSafeSaid : Prop := deviceSafeRow.holds Try.pinned (OpenSpec.ofChange deviceSafeSpec)

/-- ITS FALSE NEIGHBOUR: 'it returns false'. Refute it at one input. -/
def deviceSafeWrong : ChangeSpec := { name := "deviceSafe", fn := fun _ => fun
  | [d1, d2, d3] => { results := [.lit (.bool false)], args := [d1, d2, d3] }
  | _ => none }
def DeviceSafeWrongFalsely : Prop := deviceSafeRow.holds Try.pinned (OpenSpec.ofChange deviceSafeWrong)

/-- 'flashcachelaw03.DeviceFuse': WHATEVER THE INPUT: true; the input reads as it did. -/
def deviceFuseSpec : ChangeSpec := { name := "deviceFuse", fn := fun _ => fun
  | [d1, d2] => { results := [.lit (.bool true)], args := [d1, d2] }
  | _ => none }
def deviceFuseRow : OpenClaim := { program := "ytlndakkehobnpaa", sum := "e0ac7020818642c57e1f7eb289f5ec88c358d4142f00d8e4153f4582a5f5c6a7", func := "flashcache/flashcachelaw03.DeviceFuse", spec := "deviceFuse", unfollowed := true, recurses := true, apart := false }
def DeviceFuseSaid : Prop := deviceFuseRow.holds Try.pinned (OpenSpec.ofChange deviceFuseSpec)

/-- ITS FALSE NEIGHBOUR: 'it returns false'. Refute it at one input. -/
def deviceFuseWrong : ChangeSpec := { name := "deviceFuse", fn := fun _ => fun
  | [d1, d2] => { results := [.lit (.bool false)], args := [d1, d2] }
  | _ => none }
def DeviceFuseWrongFalsely : Prop := deviceFuseRow.holds Try.pinned (OpenSpec.ofChange deviceFuseWrong)

/-- 'flashcachelaw03.DeviceNew': WHATEVER THE INPUT: true; the input reads as it did. -/
def deviceNewSpec : ChangeSpec := { name := "deviceNew", fn := fun _ => fun
  | [d] => { results := [.lit (.bool true)], args := [d] }
  | _ => none }
def deviceNewRow : OpenClaim := { program := "ytlndakkehobnpaa", sum := "e0ac7020818642c57e1f7eb289f5ec88c358d4142f00d8e4153f4582a5f5c6a7", func := "flashcache/flashcachelaw03.DeviceNew", spec := "deviceNew", unfollowed := true, recurses := true, apart := false }
def DeviceNewSaid : Prop := deviceNewRow.holds Try.pinned (OpenSpec.ofChange deviceNewSpec)

/-- ITS FALSE NEIGHBOUR: 'it returns false'. Refute it at one input. -/
def deviceNewWrong : ChangeSpec := { name := "deviceNew", fn := fun _ => fun
  | [d] => { results := [.lit (.bool false)], args := [d] }
  | _ => none }
def DeviceNewWrongFalsely : Prop := deviceNewRow.holds Try.pinned (OpenSpec.ofChange deviceNewWrong)

/-- 'flashcachelaw03.DeviceKeep': WHATEVER THE INPUT: true; the input reads as it did. -/
def deviceKeepSpec : ChangeSpec := { name := "deviceKeep", fn := fun _ => fun
  | [d1, d2, d3] => { results := [.lit (.bool true)], args := [d1, d2, d3] }
  | _ => none }
def deviceKeepRow : OpenClaim := { program := "ytlndakkehobnpaa", sum := "e0ac7020818642c57e1f7eb289f5ec88c358d4142f00d8e4153f4582a5f5c6a7", func := "flashcache/flashcachelaw03.DeviceKeep", spec := "deviceKeep", unfollowed := true, recurses := true, apart := false }
def DeviceKeepSaid : Prop := deviceKeepRow.holds Try.pinned (OpenSpec.ofChange deviceKeepSpec)

/-- ITS FALSE NEIGHBOUR: 'it returns false'. Refute it at one input. -/
def deviceKeepWrong : ChangeSpec := { name := "deviceKeep", fn := fun _ => fun
  | [d1, d2, d3] => { results := [.lit (.bool false)], args := [d1, d2, d3] }
  | _ => none }
def DeviceKeepWrongFalsely : Prop := deviceKeepRow.holds Try.pinned (OpenSpec.ofChange deviceKeepWrong)

/-- 'flashcachelaw03.DeviceLoad': WHATEVER THE INPUT: true; the input reads as it did. -/
def deviceLoadSpec : ChangeSpec := { name := "deviceLoad", fn := fun _ => fun
  | [d] => { results := [.lit (.bool true)], args := [d] }
  | _ => none }
def deviceLoadRow : OpenClaim := { program := "ytlndakkehobnpaa", sum := "e0ac7020818642c57e1f7eb289f5ec88c358d4142f00d8e4153f4582a5f5c6a7", func := "flashcache/flashcachelaw03.DeviceLoad", spec := "deviceLoad", unfollowed := true, recurses := true, apart := false }
def DeviceLoadSaid : Prop := deviceLoadRow.holds Try.pinned (OpenSpec.ofChange deviceLoadSpec)

/-- ITS FALSE NEIGHBOUR: 'it returns false'. Refute it at one input. -/
def deviceLoadWrong : ChangeSpec := { name := "deviceLoad", fn := fun _ => fun
  | [d] => { results := [.lit (.bool false)], args := [d] }
  | _ => none }
def DeviceLoadWrongFalsely : Prop := deviceLoadRow.holds Try.pinned (OpenSpec.ofChange deviceLoadWrong)

/-- 'flashcachelaw03.DeviceScript': WHATEVER THE INPUT: true; the input reads as it did. -/
def deviceScriptSpec : ChangeSpec := { name := "deviceScript", fn := fun _ => fun
  | [d1, d2] => { results := [.lit (.bool true)], args := [d1, d2] }
  | _ => none }
def deviceScriptRow : OpenClaim := { program := "ytlndakkehobnpaa", sum := "e0ac7020818642c57e1f7eb289f5ec88c358d4142f00d8e4153f4582a5f5c6a7", func := "flashcache/flashcachelaw03.DeviceScript", spec := "deviceScript", unfollowed := true, recurses := true, apart := false }
def DeviceScriptSaid : Prop := deviceScriptRow.holds Try.pinned (OpenSpec.ofChange deviceScriptSpec)

/-- ITS FALSE NEIGHBOUR: 'it returns false'. Refute it at one input. -/
def deviceScriptWrong : ChangeSpec := { name := "deviceScript", fn := fun _ => fun
  | [d1, d2] => { results := [.lit (.bool false)], args := [d1, d2] }
  | _ => none }
def DeviceScriptWrongFalsely : Prop := deviceScriptRow.holds Try.pinned (OpenSpec.ofChange deviceScriptWrong)

/- THE SECOND FORM. 'bulk': how many values and letters a reading holds, each counted each time it is reached (what is shared counts as often as it is met; a slice's spare places count too). A statement '..UptoSaid' is the law's where the arguments, and the package variables that the reading takes, are together of bulk at most 1048576: NARROWER than '..Said'. Prove '..Said' where nothing that the law and all that it calls make is longer than what came in: it says more and counts as full. Else prove '..UptoSaid'. A law counts once. -/
mutual
def uptoBulk {H : Type} : DataW H → Nat
  | .lit (.string bytes) => bytes.length + 1
  | .lit _ => 1
  | .nil => 1
  | .ptr d => uptoBulk d + 1
  | .slice elems spare => uptoBulkAll elems + uptoBulkAll spare + 1
  | .agg parts => uptoBulkAll parts + 1
  | .iface _ d => uptoBulk d + 1
  | .map entries => uptoBulkEntries entries + 1
  | .held _ => 1
def uptoBulkAll {H : Type} : List (DataW H) → Nat
  | [] => 0
  | d :: r => uptoBulk d + uptoBulkAll r
def uptoBulkEntries {H : Type} : List (Lit × DataW H) → Nat
  | [] => 0
  | x :: r => uptoBulkEntry x + uptoBulkEntries r
def uptoBulkEntry {H : Type} : Lit × DataW H → Nat
  | (.string bytes, d) => bytes.length + uptoBulk d + 1
  | (_, d) => uptoBulk d + 1
 end
def uptoSmall : (H : Type) → List (DataW H) → Bool := fun _ ds => decide (uptoBulkAll ds ≤ 1048576)
def OpenSpec.upto (s : _root_.Go.ChangeSpec) : _root_.Go.OpenSpec := { _root_.Go.OpenSpec.ofChange s with cond := some uptoSmall }

/-- 'flashcachelaw03.DeviceSafe', WHERE WHAT IT READS IS OF BULK AT MOST 1048576: true; the input reads as it did. -/
def deviceSafeUptoRow : OpenClaim := { program := "ytlndakkehobnpaa", sum := "e0ac7020818642c57e1f7eb289f5ec88c358d4142f00d8e4153f4582a5f5c6a7", func := "flashcache/flashcachelaw03.DeviceSafe", spec := "deviceSafe", unfollowed := true, recurses := true, apart := false, narrowed := true }
def DeviceSafeUptoSaid : Prop := deviceSafeUptoRow.holds Try.pinned (OpenSpec.upto deviceSafeSpec)

/-- 'flashcachelaw03.DeviceFuse', WHERE WHAT IT READS IS OF BULK AT MOST 1048576: true; the input reads as it did. -/
def deviceFuseUptoRow : OpenClaim := { program := "ytlndakkehobnpaa", sum := "e0ac7020818642c57e1f7eb289f5ec88c358d4142f00d8e4153f4582a5f5c6a7", func := "flashcache/flashcachelaw03.DeviceFuse", spec := "deviceFuse", unfollowed := true, recurses := true, apart := false, narrowed := true }
def DeviceFuseUptoSaid : Prop := deviceFuseUptoRow.holds Try.pinned (OpenSpec.upto deviceFuseSpec)

/-- 'flashcachelaw03.DeviceNew', WHERE WHAT IT READS IS OF BULK AT MOST 1048576: true; the input reads as it did. -/
def deviceNewUptoRow : OpenClaim := { program := "ytlndakkehobnpaa", sum := "e0ac7020818642c57e1f7eb289f5ec88c358d4142f00d8e4153f4582a5f5c6a7", func := "flashcache/flashcachelaw03.DeviceNew", spec := "deviceNew", unfollowed := true, recurses := true, apart := false, narrowed := true }
def DeviceNewUptoSaid : Prop := deviceNewUptoRow.holds Try.pinned (OpenSpec.upto deviceNewSpec)

/-- 'flashcachelaw03.DeviceKeep', WHERE WHAT IT READS IS OF BULK AT MOST 1048576: true; the input reads as it did. -/
def deviceKeepUptoRow : OpenClaim := { program := "ytlndakkehobnpaa", sum := "e0ac7020818642c57e1f7eb289f5ec88c358d4142f00d8e4153f4582a5f5c6a7", func := "flashcache/flashcachelaw03.DeviceKeep", spec := "deviceKeep", unfollowed := true, recurses := true, apart := false, narrowed := true }
def DeviceKeepUptoSaid : Prop := deviceKeepUptoRow.holds Try.pinned (OpenSpec.upto deviceKeepSpec)

/-- 'flashcachelaw03.DeviceLoad', WHERE WHAT IT READS IS OF BULK AT MOST 1048576: true; the input reads as it did. -/
def deviceLoadUptoRow : OpenClaim := { program := "ytlndakkehobnpaa", sum := "e0ac7020818642c57e1f7eb289f5ec88c358d4142f00d8e4153f4582a5f5c6a7", func := "flashcache/flashcachelaw03.DeviceLoad", spec := "deviceLoad", unfollowed := true, recurses := true, apart := false, narrowed := true }
def DeviceLoadUptoSaid : Prop := deviceLoadUptoRow.holds Try.pinned (OpenSpec.upto deviceLoadSpec)

/-- 'flashcachelaw03.DeviceScript', WHERE WHAT IT READS IS OF BULK AT MOST 1048576: true; the input reads as it did. -/
def deviceScriptUptoRow : OpenClaim := { program := "ytlndakkehobnpaa", sum := "e0ac7020818642c57e1f7eb289f5ec88c358d4142f00d8e4153f4582a5f5c6a7", func := "flashcache/flashcachelaw03.DeviceScript", spec := "deviceScript", unfollowed := true, recurses := true, apart := false, narrowed := true }
def DeviceScriptUptoSaid : Prop := deviceScriptUptoRow.holds Try.pinned (OpenSpec.upto deviceScriptSpec)

end Rows
end Go.Proofs.Ytlndakkehobnpaa
