/-
  NARROWER THAN 'FOR EVERY INPUT', by the rows' own cells (each row's printed sentence says how): CheckDevice: laid · RecoveryRaw: laid · RecoveryLoad: laid · RecoveryForm: laid · RecoveryTwice: laid.
  DERIVED. THE GIVEN ROWS OF THIS SEAT. 5 by the template 'for every input the law returns true; each argument reads behind the call as it read before'; 0 by the template 'total and deterministic' (their statements: YtkmmdlicifiknaaGreatDoorTotals.lean).
  GIVEN WITH THE SEED: the statements are not yours to turn. If you find one false, say at which input.
  Laid BY PROGRAM, IN A SANDBOX (cutbox-rows.mjs): the forced cells as the released guide's own fill.sh prints them over the translation 8c23473a214a2147… (all of the seat's roots in one cut). By AI agents, Wed Nov 11 2026. No macro, syntax, notation, axiom, sorry.
-/
import Derived.Test.YtkmmdlicifiknaaGreatDoorChecked
import GoSem.Claim
import GoSem.ClaimJoined
import GoSem.ClaimMapViews
import Derived.JoinedTies
import Derived.KernelRfl
namespace Go.Proofs.YtkmmdlicifiknaaGreatDoor
/- THE CELL 'sum', in the pinned program and in every row, IS THE sha256 OF THE DUMP (.gsa) THAT YtkmmdlicifiknaaGreatDoorProg.lean LOADS. Nothing in Lean hashes anything: it is a label: what it is worth is what the hold of that sum in a sandbox is worth. -/
noncomputable def Tryz.pinned : Pinned := { name := "ytkmmdlicifiknaagreatdoor", sum := "8c23473a214a214725c5c6fe8c57c5f489d1146738d288e79ae1205dd5ce7867", checked := Tryz.checked }
namespace Rows
def none {H : Type} : Left H := { results := [], args := [] }

/- WHAT THE LISTED PACKAGE-LEVEL VARIABLES READ AS WHEN THE CALL BEGINS. Each datum BY PROGRAM (the guide's laid-datum.mjs) off the statement by which the dump's own 'gosem.cut.vars' lays the variable. In a bare row this is a premise. The card (YtkmmdlicifiknaaGreatDoorCards.lean) ties it to the program's text. -/
def laid_flashcache_crc_table {H : Type} : DataW H := .agg [.lit (.int .u32 0), .lit (.int .u32 274646895), .lit (.int .u32 549293790), .lit (.int .u32 820201905), .lit (.int .u32 1098587580), .lit (.int .u32 1361435347), .lit (.int .u32 1640403810), .lit (.int .u32 1905808397), .lit (.int .u32 2197175160), .lit (.int .u32 2460548119), .lit (.int .u32 2722870694), .lit (.int .u32 2987750089), .lit (.int .u32 3280807620), .lit (.int .u32 3553878443), .lit (.int .u32 3811616794), .lit (.int .u32 4084100981)]

/-- 'flashcachelaw29.CheckDevice': WHATEVER THE INPUT: true; the input reads as it did. -/
def checkDeviceSpec : ChangeSpec := { name := "checkDevice", fn := fun _ => fun
  | [d1, d2, d3] => { results := [.lit (.bool true)], args := [d1, d2, d3] }
  | _ => none }
def checkDeviceRow : OpenClaim := { program := "ytkmmdlicifiknaagreatdoor", sum := "8c23473a214a214725c5c6fe8c57c5f489d1146738d288e79ae1205dd5ce7867", func := "flashcache/flashcachelaw29.CheckDevice", spec := "checkDevice", unfollowed := true, recurses := true, named := ["flashcache/crc.table"], apart := false, laid := [("flashcache/crc.table", laid_flashcache_crc_table)] }
def CheckDeviceSaid : Prop := checkDeviceRow.holds Tryz.pinned (OpenSpec.ofChange checkDeviceSpec)

/-- ITS FALSE NEIGHBOUR: 'it returns false'. Refute it at one input. -/
def checkDeviceWrong : ChangeSpec := { name := "checkDevice", fn := fun _ => fun
  | [d1, d2, d3] => { results := [.lit (.bool false)], args := [d1, d2, d3] }
  | _ => none }
def CheckDeviceWrongFalsely : Prop := checkDeviceRow.holds Tryz.pinned (OpenSpec.ofChange checkDeviceWrong)

/-- 'flashcachelaw23.RecoveryRaw': WHATEVER THE INPUT: true; the input reads as it did. -/
def recoveryRawSpec : ChangeSpec := { name := "recoveryRaw", fn := fun _ => fun
  | [d1, d2] => { results := [.lit (.bool true)], args := [d1, d2] }
  | _ => none }
def recoveryRawRow : OpenClaim := { program := "ytkmmdlicifiknaagreatdoor", sum := "8c23473a214a214725c5c6fe8c57c5f489d1146738d288e79ae1205dd5ce7867", func := "flashcache/flashcachelaw23.RecoveryRaw", spec := "recoveryRaw", unfollowed := true, recurses := true, named := ["flashcache/crc.table"], apart := false, laid := [("flashcache/crc.table", laid_flashcache_crc_table)] }
def RecoveryRawSaid : Prop := recoveryRawRow.holds Tryz.pinned (OpenSpec.ofChange recoveryRawSpec)

/-- ITS FALSE NEIGHBOUR: 'it returns false'. Refute it at one input. -/
def recoveryRawWrong : ChangeSpec := { name := "recoveryRaw", fn := fun _ => fun
  | [d1, d2] => { results := [.lit (.bool false)], args := [d1, d2] }
  | _ => none }
def RecoveryRawWrongFalsely : Prop := recoveryRawRow.holds Tryz.pinned (OpenSpec.ofChange recoveryRawWrong)

/-- 'flashcachelaw23.RecoveryLoad': WHATEVER THE INPUT: true; the input reads as it did. -/
def recoveryLoadSpec : ChangeSpec := { name := "recoveryLoad", fn := fun _ => fun
  | [d1, d2, d3] => { results := [.lit (.bool true)], args := [d1, d2, d3] }
  | _ => none }
def recoveryLoadRow : OpenClaim := { program := "ytkmmdlicifiknaagreatdoor", sum := "8c23473a214a214725c5c6fe8c57c5f489d1146738d288e79ae1205dd5ce7867", func := "flashcache/flashcachelaw23.RecoveryLoad", spec := "recoveryLoad", unfollowed := true, recurses := true, named := ["flashcache/crc.table"], apart := false, laid := [("flashcache/crc.table", laid_flashcache_crc_table)] }
def RecoveryLoadSaid : Prop := recoveryLoadRow.holds Tryz.pinned (OpenSpec.ofChange recoveryLoadSpec)

/-- ITS FALSE NEIGHBOUR: 'it returns false'. Refute it at one input. -/
def recoveryLoadWrong : ChangeSpec := { name := "recoveryLoad", fn := fun _ => fun
  | [d1, d2, d3] => { results := [.lit (.bool false)], args := [d1, d2, d3] }
  | _ => none }
def RecoveryLoadWrongFalsely : Prop := recoveryLoadRow.holds Tryz.pinned (OpenSpec.ofChange recoveryLoadWrong)

/-- 'flashcachelaw23.RecoveryForm': WHATEVER THE INPUT: true; the input reads as it did. -/
def recoveryFormSpec : ChangeSpec := { name := "recoveryForm", fn := fun _ => fun
  | [d1, d2, d3] => { results := [.lit (.bool true)], args := [d1, d2, d3] }
  | _ => none }
def recoveryFormRow : OpenClaim := { program := "ytkmmdlicifiknaagreatdoor", sum := "8c23473a214a214725c5c6fe8c57c5f489d1146738d288e79ae1205dd5ce7867", func := "flashcache/flashcachelaw23.RecoveryForm", spec := "recoveryForm", unfollowed := true, recurses := true, named := ["flashcache/crc.table"], apart := false, laid := [("flashcache/crc.table", laid_flashcache_crc_table)] }
def RecoveryFormSaid : Prop := recoveryFormRow.holds Tryz.pinned (OpenSpec.ofChange recoveryFormSpec)

/-- ITS FALSE NEIGHBOUR: 'it returns false'. Refute it at one input. -/
def recoveryFormWrong : ChangeSpec := { name := "recoveryForm", fn := fun _ => fun
  | [d1, d2, d3] => { results := [.lit (.bool false)], args := [d1, d2, d3] }
  | _ => none }
def RecoveryFormWrongFalsely : Prop := recoveryFormRow.holds Tryz.pinned (OpenSpec.ofChange recoveryFormWrong)

/-- 'flashcachelaw23.RecoveryTwice': WHATEVER THE INPUT: true; the input reads as it did. -/
def recoveryTwiceSpec : ChangeSpec := { name := "recoveryTwice", fn := fun _ => fun
  | [d] => { results := [.lit (.bool true)], args := [d] }
  | _ => none }
def recoveryTwiceRow : OpenClaim := { program := "ytkmmdlicifiknaagreatdoor", sum := "8c23473a214a214725c5c6fe8c57c5f489d1146738d288e79ae1205dd5ce7867", func := "flashcache/flashcachelaw23.RecoveryTwice", spec := "recoveryTwice", unfollowed := true, recurses := true, named := ["flashcache/crc.table"], apart := false, laid := [("flashcache/crc.table", laid_flashcache_crc_table)] }
def RecoveryTwiceSaid : Prop := recoveryTwiceRow.holds Tryz.pinned (OpenSpec.ofChange recoveryTwiceSpec)

/-- ITS FALSE NEIGHBOUR: 'it returns false'. Refute it at one input. -/
def recoveryTwiceWrong : ChangeSpec := { name := "recoveryTwice", fn := fun _ => fun
  | [d] => { results := [.lit (.bool false)], args := [d] }
  | _ => none }
def RecoveryTwiceWrongFalsely : Prop := recoveryTwiceRow.holds Tryz.pinned (OpenSpec.ofChange recoveryTwiceWrong)

/- THE SECOND FORM. 'bulk': how many values and letters a reading holds, each counted each time it is reached (what is shared counts as often as it is met; a slice's spare places count too). A statement '..UptoSaid' is the law's where the arguments, and the package variables that the reading takes, are together of bulk at most 1048576: NARROWER than '..Said'. Prove '..Said' where nothing that the law and all that it calls make is longer than what came in: it says more and counts as full. Else prove '..UptoSaid'. A law counts once. -/
mutual
def uptoBulk {H : Type} : DataW H → Nat
  | .lit (.string bytes) => bytes.length + 1
  | .lit _ => 1
  | .nil => 1
  | .ptr d => uptoBulk d + 1
  | .slice elems spare => uptoBulkAll elems + uptoBulkAll spare + 1
  | .agg parts => uptoBulkAll parts + 1
  | .iface _ d => uptoBulk d + 1
  | .map entries => uptoBulkEntries entries + 1
  | .held _ => 1
def uptoBulkAll {H : Type} : List (DataW H) → Nat
  | [] => 0
  | d :: r => uptoBulk d + uptoBulkAll r
def uptoBulkEntries {H : Type} : List (Lit × DataW H) → Nat
  | [] => 0
  | x :: r => uptoBulkEntry x + uptoBulkEntries r
def uptoBulkEntry {H : Type} : Lit × DataW H → Nat
  | (.string bytes, d) => bytes.length + uptoBulk d + 1
  | (_, d) => uptoBulk d + 1
 end
def uptoSmall : (H : Type) → List (DataW H) → Bool := fun _ ds => decide (uptoBulkAll ds ≤ 1048576)
def OpenSpec.upto (s : _root_.Go.ChangeSpec) : _root_.Go.OpenSpec := { _root_.Go.OpenSpec.ofChange s with cond := some uptoSmall }

/-- 'flashcachelaw29.CheckDevice', WHERE WHAT IT READS IS OF BULK AT MOST 1048576: true; the input reads as it did. -/
def checkDeviceUptoRow : OpenClaim := { program := "ytkmmdlicifiknaagreatdoor", sum := "8c23473a214a214725c5c6fe8c57c5f489d1146738d288e79ae1205dd5ce7867", func := "flashcache/flashcachelaw29.CheckDevice", spec := "checkDevice", unfollowed := true, recurses := true, named := ["flashcache/crc.table"], apart := false, laid := [("flashcache/crc.table", laid_flashcache_crc_table)], narrowed := true }
def CheckDeviceUptoSaid : Prop := checkDeviceUptoRow.holds Tryz.pinned (OpenSpec.upto checkDeviceSpec)

/-- 'flashcachelaw23.RecoveryRaw', WHERE WHAT IT READS IS OF BULK AT MOST 1048576: true; the input reads as it did. -/
def recoveryRawUptoRow : OpenClaim := { program := "ytkmmdlicifiknaagreatdoor", sum := "8c23473a214a214725c5c6fe8c57c5f489d1146738d288e79ae1205dd5ce7867", func := "flashcache/flashcachelaw23.RecoveryRaw", spec := "recoveryRaw", unfollowed := true, recurses := true, named := ["flashcache/crc.table"], apart := false, laid := [("flashcache/crc.table", laid_flashcache_crc_table)], narrowed := true }
def RecoveryRawUptoSaid : Prop := recoveryRawUptoRow.holds Tryz.pinned (OpenSpec.upto recoveryRawSpec)

/-- 'flashcachelaw23.RecoveryLoad', WHERE WHAT IT READS IS OF BULK AT MOST 1048576: true; the input reads as it did. -/
def recoveryLoadUptoRow : OpenClaim := { program := "ytkmmdlicifiknaagreatdoor", sum := "8c23473a214a214725c5c6fe8c57c5f489d1146738d288e79ae1205dd5ce7867", func := "flashcache/flashcachelaw23.RecoveryLoad", spec := "recoveryLoad", unfollowed := true, recurses := true, named := ["flashcache/crc.table"], apart := false, laid := [("flashcache/crc.table", laid_flashcache_crc_table)], narrowed := true }
def RecoveryLoadUptoSaid : Prop := recoveryLoadUptoRow.holds Tryz.pinned (OpenSpec.upto recoveryLoadSpec)

/-- 'flashcachelaw23.RecoveryForm', WHERE WHAT IT READS IS OF BULK AT MOST 1048576: true; the input reads as it did. -/
def recoveryFormUptoRow : OpenClaim := { program := "ytkmmdlicifiknaagreatdoor", sum := "8c23473a214a214725c5c6fe8c57c5f489d1146738d288e79ae1205dd5ce7867", func := "flashcache/flashcachelaw23.RecoveryForm", spec := "recoveryForm", unfollowed := true, recurses := true, named := ["flashcache/crc.table"], apart := false, laid := [("flashcache/crc.table", laid_flashcache_crc_table)], narrowed := true }
def RecoveryFormUptoSaid : Prop := recoveryFormUptoRow.holds Tryz.pinned (OpenSpec.upto recoveryFormSpec)

/-- 'flashcachelaw23.RecoveryTwice', WHERE WHAT IT READS IS OF BULK AT MOST 1048576: true; the input reads as it did. -/
def recoveryTwiceUptoRow : OpenClaim := { program := "ytkmmdlicifiknaagreatdoor", sum := "8c23473a214a214725c5c6fe8c57c5f489d1146738d288e79ae1205dd5ce7867", func := "flashcache/flashcachelaw23.RecoveryTwice", spec := "recoveryTwice", unfollowed := true, recurses := true, named := ["flashcache/crc.table"], apart := false, laid := [("flashcache/crc.table", laid_flashcache_crc_table)], narrowed := true }
def RecoveryTwiceUptoSaid : Prop := recoveryTwiceUptoRow.holds Tryz.pinned (OpenSpec.upto recoveryTwiceSpec)

end Rows
end Go.Proofs.YtkmmdlicifiknaaGreatDoor
