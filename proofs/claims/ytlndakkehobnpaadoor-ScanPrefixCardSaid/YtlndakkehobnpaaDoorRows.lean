/-
  NARROWER THAN 'FOR EVERY INPUT', by the rows' own cells (each row's printed sentence says how): LogSector: laid · LogApart: laid · LogFull: laid · LogScript: laid · PairLoad: laid · PairPublish: laid · ScanRegion: laid · ScanRound: laid · ScanOther: laid · LogCrash: laid · PairAtomic: laid · PairTorn: laid · ScanPrefix: laid.
  DERIVED. THE GIVEN ROWS OF THIS SEAT. 13 by the template 'for every input the law returns true; each argument reads behind the call as it read before'; 0 by the template 'total and deterministic' (their statements: YtlndakkehobnpaaDoorTotals.lean).
  GIVEN WITH THE SEED: the statements are not yours to turn. If you find one false, say at which input.
  Laid BY PROGRAM, IN A SANDBOX (cutbox-rows.mjs): the forced cells as the released guide's own fill.sh prints them over the translation 95c7ccca03c3026c… (all of the seat's roots in one cut). By AI agents, Wed Nov 11 2026. No macro, syntax, notation, axiom, sorry.
-/
import Derived.Test.YtlndakkehobnpaaDoorChecked
import GoSem.Claim
import GoSem.ClaimJoined
import GoSem.ClaimMapViews
import Derived.JoinedTies
import Derived.KernelRfl
namespace Go.Proofs.YtlndakkehobnpaaDoor
/- THE CELL 'sum', in the pinned program and in every row, IS THE sha256 OF THE DUMP (.gsa) THAT YtlndakkehobnpaaDoorProg.lean LOADS. Nothing in Lean hashes anything: it is a label: what it is worth is what the hold of that sum in a sandbox is worth. -/
noncomputable def Tryd.pinned : Pinned := { name := "ytlndakkehobnpaadoor", sum := "95c7ccca03c3026c9ebd4645e03a8d1b1c9e5f0cc64ee7f08b0798a386072a8e", checked := Tryd.checked }
namespace Rows
def none {H : Type} : Left H := { results := [], args := [] }

/- WHAT THE LISTED PACKAGE-LEVEL VARIABLES READ AS WHEN THE CALL BEGINS. Each datum BY PROGRAM (the guide's laid-datum.mjs) off the statement by which the dump's own 'gosem.cut.vars' lays the variable. In a bare row this is a premise. The card (YtlndakkehobnpaaDoorCards.lean) ties it to the program's text. -/
def laid_flashcache_crc_table {H : Type} : DataW H := .agg [.lit (.int .u32 0), .lit (.int .u32 274646895), .lit (.int .u32 549293790), .lit (.int .u32 820201905), .lit (.int .u32 1098587580), .lit (.int .u32 1361435347), .lit (.int .u32 1640403810), .lit (.int .u32 1905808397), .lit (.int .u32 2197175160), .lit (.int .u32 2460548119), .lit (.int .u32 2722870694), .lit (.int .u32 2987750089), .lit (.int .u32 3280807620), .lit (.int .u32 3553878443), .lit (.int .u32 3811616794), .lit (.int .u32 4084100981)]

/-- 'flashcachelaw11.LogSector': WHATEVER THE INPUT: true; the input reads as it did. -/
def logSectorSpec : ChangeSpec := { name := "logSector", fn := fun _ => fun
  | [d1, d2, d3] => { results := [.lit (.bool true)], args := [d1, d2, d3] }
  | _ => none }
def logSectorRow : OpenClaim := { program := "ytlndakkehobnpaadoor", sum := "95c7ccca03c3026c9ebd4645e03a8d1b1c9e5f0cc64ee7f08b0798a386072a8e", func := "flashcache/flashcachelaw11.LogSector", spec := "logSector", unfollowed := true, recurses := true, named := ["flashcache/crc.table"], apart := false, laid := [("flashcache/crc.table", laid_flashcache_crc_table)] }
def LogSectorSaid : Prop := logSectorRow.holds Tryd.pinned (OpenSpec.ofChange logSectorSpec)

/-- ITS FALSE NEIGHBOUR: 'it returns false'. Refute it at one input. -/
def logSectorWrong : ChangeSpec := { name := "logSector", fn := fun _ => fun
  | [d1, d2, d3] => { results := [.lit (.bool false)], args := [d1, d2, d3] }
  | _ => none }
def LogSectorWrongFalsely : Prop := logSectorRow.holds Tryd.pinned (OpenSpec.ofChange logSectorWrong)

/-- 'flashcachelaw11.LogApart': WHATEVER THE INPUT: true; the input reads as it did. -/
def logApartSpec : ChangeSpec := { name := "logApart", fn := fun _ => fun
  | [d1, d2, d3] => { results := [.lit (.bool true)], args := [d1, d2, d3] }
  | _ => none }
def logApartRow : OpenClaim := { program := "ytlndakkehobnpaadoor", sum := "95c7ccca03c3026c9ebd4645e03a8d1b1c9e5f0cc64ee7f08b0798a386072a8e", func := "flashcache/flashcachelaw11.LogApart", spec := "logApart", unfollowed := true, recurses := true, named := ["flashcache/crc.table"], apart := false, laid := [("flashcache/crc.table", laid_flashcache_crc_table)] }
def LogApartSaid : Prop := logApartRow.holds Tryd.pinned (OpenSpec.ofChange logApartSpec)

/-- ITS FALSE NEIGHBOUR: 'it returns false'. Refute it at one input. -/
def logApartWrong : ChangeSpec := { name := "logApart", fn := fun _ => fun
  | [d1, d2, d3] => { results := [.lit (.bool false)], args := [d1, d2, d3] }
  | _ => none }
def LogApartWrongFalsely : Prop := logApartRow.holds Tryd.pinned (OpenSpec.ofChange logApartWrong)

/-- 'flashcachelaw11.LogFull': WHATEVER THE INPUT: true; the input reads as it did. -/
def logFullSpec : ChangeSpec := { name := "logFull", fn := fun _ => fun
  | [d1, d2] => { results := [.lit (.bool true)], args := [d1, d2] }
  | _ => none }
def logFullRow : OpenClaim := { program := "ytlndakkehobnpaadoor", sum := "95c7ccca03c3026c9ebd4645e03a8d1b1c9e5f0cc64ee7f08b0798a386072a8e", func := "flashcache/flashcachelaw11.LogFull", spec := "logFull", unfollowed := true, recurses := true, named := ["flashcache/crc.table"], apart := false, laid := [("flashcache/crc.table", laid_flashcache_crc_table)] }
def LogFullSaid : Prop := logFullRow.holds Tryd.pinned (OpenSpec.ofChange logFullSpec)

/-- ITS FALSE NEIGHBOUR: 'it returns false'. Refute it at one input. -/
def logFullWrong : ChangeSpec := { name := "logFull", fn := fun _ => fun
  | [d1, d2] => { results := [.lit (.bool false)], args := [d1, d2] }
  | _ => none }
def LogFullWrongFalsely : Prop := logFullRow.holds Tryd.pinned (OpenSpec.ofChange logFullWrong)

/-- 'flashcachelaw11.LogScript': WHATEVER THE INPUT: true; the input reads as it did. -/
def logScriptSpec : ChangeSpec := { name := "logScript", fn := fun _ => fun
  | [d1, d2] => { results := [.lit (.bool true)], args := [d1, d2] }
  | _ => none }
def logScriptRow : OpenClaim := { program := "ytlndakkehobnpaadoor", sum := "95c7ccca03c3026c9ebd4645e03a8d1b1c9e5f0cc64ee7f08b0798a386072a8e", func := "flashcache/flashcachelaw11.LogScript", spec := "logScript", unfollowed := true, recurses := true, named := ["flashcache/crc.table"], apart := false, laid := [("flashcache/crc.table", laid_flashcache_crc_table)] }
def LogScriptSaid : Prop := logScriptRow.holds Tryd.pinned (OpenSpec.ofChange logScriptSpec)

/-- ITS FALSE NEIGHBOUR: 'it returns false'. Refute it at one input. -/
def logScriptWrong : ChangeSpec := { name := "logScript", fn := fun _ => fun
  | [d1, d2] => { results := [.lit (.bool false)], args := [d1, d2] }
  | _ => none }
def LogScriptWrongFalsely : Prop := logScriptRow.holds Tryd.pinned (OpenSpec.ofChange logScriptWrong)

/-- 'flashcachelaw09.PairLoad': WHATEVER THE INPUT: true; the input reads as it did. -/
def pairLoadSpec : ChangeSpec := { name := "pairLoad", fn := fun _ => fun
  | [d] => { results := [.lit (.bool true)], args := [d] }
  | _ => none }
def pairLoadRow : OpenClaim := { program := "ytlndakkehobnpaadoor", sum := "95c7ccca03c3026c9ebd4645e03a8d1b1c9e5f0cc64ee7f08b0798a386072a8e", func := "flashcache/flashcachelaw09.PairLoad", spec := "pairLoad", unfollowed := true, recurses := true, named := ["flashcache/crc.table"], apart := false, laid := [("flashcache/crc.table", laid_flashcache_crc_table)] }
def PairLoadSaid : Prop := pairLoadRow.holds Tryd.pinned (OpenSpec.ofChange pairLoadSpec)

/-- ITS FALSE NEIGHBOUR: 'it returns false'. Refute it at one input. -/
def pairLoadWrong : ChangeSpec := { name := "pairLoad", fn := fun _ => fun
  | [d] => { results := [.lit (.bool false)], args := [d] }
  | _ => none }
def PairLoadWrongFalsely : Prop := pairLoadRow.holds Tryd.pinned (OpenSpec.ofChange pairLoadWrong)

/-- 'flashcachelaw09.PairPublish': WHATEVER THE INPUT: true; the input reads as it did. -/
def pairPublishSpec : ChangeSpec := { name := "pairPublish", fn := fun _ => fun
  | [d1, d2] => { results := [.lit (.bool true)], args := [d1, d2] }
  | _ => none }
def pairPublishRow : OpenClaim := { program := "ytlndakkehobnpaadoor", sum := "95c7ccca03c3026c9ebd4645e03a8d1b1c9e5f0cc64ee7f08b0798a386072a8e", func := "flashcache/flashcachelaw09.PairPublish", spec := "pairPublish", unfollowed := true, recurses := true, named := ["flashcache/crc.table"], apart := false, laid := [("flashcache/crc.table", laid_flashcache_crc_table)] }
def PairPublishSaid : Prop := pairPublishRow.holds Tryd.pinned (OpenSpec.ofChange pairPublishSpec)

/-- ITS FALSE NEIGHBOUR: 'it returns false'. Refute it at one input. -/
def pairPublishWrong : ChangeSpec := { name := "pairPublish", fn := fun _ => fun
  | [d1, d2] => { results := [.lit (.bool false)], args := [d1, d2] }
  | _ => none }
def PairPublishWrongFalsely : Prop := pairPublishRow.holds Tryd.pinned (OpenSpec.ofChange pairPublishWrong)

/-- 'flashcachelaw15.ScanRegion': WHATEVER THE INPUT: true; the input reads as it did. -/
def scanRegionSpec : ChangeSpec := { name := "scanRegion", fn := fun _ => fun
  | [d] => { results := [.lit (.bool true)], args := [d] }
  | _ => none }
def scanRegionRow : OpenClaim := { program := "ytlndakkehobnpaadoor", sum := "95c7ccca03c3026c9ebd4645e03a8d1b1c9e5f0cc64ee7f08b0798a386072a8e", func := "flashcache/flashcachelaw15.ScanRegion", spec := "scanRegion", unfollowed := true, recurses := true, named := ["flashcache/crc.table"], apart := false, laid := [("flashcache/crc.table", laid_flashcache_crc_table)] }
def ScanRegionSaid : Prop := scanRegionRow.holds Tryd.pinned (OpenSpec.ofChange scanRegionSpec)

/-- ITS FALSE NEIGHBOUR: 'it returns false'. Refute it at one input. -/
def scanRegionWrong : ChangeSpec := { name := "scanRegion", fn := fun _ => fun
  | [d] => { results := [.lit (.bool false)], args := [d] }
  | _ => none }
def ScanRegionWrongFalsely : Prop := scanRegionRow.holds Tryd.pinned (OpenSpec.ofChange scanRegionWrong)

/-- 'flashcachelaw15.ScanRound': WHATEVER THE INPUT: true; the input reads as it did. -/
def scanRoundSpec : ChangeSpec := { name := "scanRound", fn := fun _ => fun
  | [d] => { results := [.lit (.bool true)], args := [d] }
  | _ => none }
def scanRoundRow : OpenClaim := { program := "ytlndakkehobnpaadoor", sum := "95c7ccca03c3026c9ebd4645e03a8d1b1c9e5f0cc64ee7f08b0798a386072a8e", func := "flashcache/flashcachelaw15.ScanRound", spec := "scanRound", unfollowed := true, recurses := true, named := ["flashcache/crc.table"], apart := false, laid := [("flashcache/crc.table", laid_flashcache_crc_table)] }
def ScanRoundSaid : Prop := scanRoundRow.holds Tryd.pinned (OpenSpec.ofChange scanRoundSpec)

/-- ITS FALSE NEIGHBOUR: 'it returns false'. Refute it at one input. -/
def scanRoundWrong : ChangeSpec := { name := "scanRound", fn := fun _ => fun
  | [d] => { results := [.lit (.bool false)], args := [d] }
  | _ => none }
def ScanRoundWrongFalsely : Prop := scanRoundRow.holds Tryd.pinned (OpenSpec.ofChange scanRoundWrong)

/-- 'flashcachelaw15.ScanOther': WHATEVER THE INPUT: true; the input reads as it did. -/
def scanOtherSpec : ChangeSpec := { name := "scanOther", fn := fun _ => fun
  | [d1, d2] => { results := [.lit (.bool true)], args := [d1, d2] }
  | _ => none }
def scanOtherRow : OpenClaim := { program := "ytlndakkehobnpaadoor", sum := "95c7ccca03c3026c9ebd4645e03a8d1b1c9e5f0cc64ee7f08b0798a386072a8e", func := "flashcache/flashcachelaw15.ScanOther", spec := "scanOther", unfollowed := true, recurses := true, named := ["flashcache/crc.table"], apart := false, laid := [("flashcache/crc.table", laid_flashcache_crc_table)] }
def ScanOtherSaid : Prop := scanOtherRow.holds Tryd.pinned (OpenSpec.ofChange scanOtherSpec)

/-- ITS FALSE NEIGHBOUR: 'it returns false'. Refute it at one input. -/
def scanOtherWrong : ChangeSpec := { name := "scanOther", fn := fun _ => fun
  | [d1, d2] => { results := [.lit (.bool false)], args := [d1, d2] }
  | _ => none }
def ScanOtherWrongFalsely : Prop := scanOtherRow.holds Tryd.pinned (OpenSpec.ofChange scanOtherWrong)

/-- 'flashcachelaw11.LogCrash': WHATEVER THE INPUT: true; the input reads as it did. -/
def logCrashSpec : ChangeSpec := { name := "logCrash", fn := fun _ => fun
  | [d] => { results := [.lit (.bool true)], args := [d] }
  | _ => none }
def logCrashRow : OpenClaim := { program := "ytlndakkehobnpaadoor", sum := "95c7ccca03c3026c9ebd4645e03a8d1b1c9e5f0cc64ee7f08b0798a386072a8e", func := "flashcache/flashcachelaw11.LogCrash", spec := "logCrash", unfollowed := true, recurses := true, named := ["flashcache/crc.table"], apart := false, laid := [("flashcache/crc.table", laid_flashcache_crc_table)] }
def LogCrashSaid : Prop := logCrashRow.holds Tryd.pinned (OpenSpec.ofChange logCrashSpec)

/-- ITS FALSE NEIGHBOUR: 'it returns false'. Refute it at one input. -/
def logCrashWrong : ChangeSpec := { name := "logCrash", fn := fun _ => fun
  | [d] => { results := [.lit (.bool false)], args := [d] }
  | _ => none }
def LogCrashWrongFalsely : Prop := logCrashRow.holds Tryd.pinned (OpenSpec.ofChange logCrashWrong)

/-- 'flashcachelaw09.PairAtomic': WHATEVER THE INPUT: true; the input reads as it did. -/
def pairAtomicSpec : ChangeSpec := { name := "pairAtomic", fn := fun _ => fun
  | [d] => { results := [.lit (.bool true)], args := [d] }
  | _ => none }
def pairAtomicRow : OpenClaim := { program := "ytlndakkehobnpaadoor", sum := "95c7ccca03c3026c9ebd4645e03a8d1b1c9e5f0cc64ee7f08b0798a386072a8e", func := "flashcache/flashcachelaw09.PairAtomic", spec := "pairAtomic", unfollowed := true, recurses := true, named := ["flashcache/crc.table"], apart := false, laid := [("flashcache/crc.table", laid_flashcache_crc_table)] }
def PairAtomicSaid : Prop := pairAtomicRow.holds Tryd.pinned (OpenSpec.ofChange pairAtomicSpec)

/-- ITS FALSE NEIGHBOUR: 'it returns false'. Refute it at one input. -/
def pairAtomicWrong : ChangeSpec := { name := "pairAtomic", fn := fun _ => fun
  | [d] => { results := [.lit (.bool false)], args := [d] }
  | _ => none }
def PairAtomicWrongFalsely : Prop := pairAtomicRow.holds Tryd.pinned (OpenSpec.ofChange pairAtomicWrong)

/-- 'flashcachelaw09.PairTorn': WHATEVER THE INPUT: true; the input reads as it did. -/
def pairTornSpec : ChangeSpec := { name := "pairTorn", fn := fun _ => fun
  | [d1, d2, d3] => { results := [.lit (.bool true)], args := [d1, d2, d3] }
  | _ => none }
def pairTornRow : OpenClaim := { program := "ytlndakkehobnpaadoor", sum := "95c7ccca03c3026c9ebd4645e03a8d1b1c9e5f0cc64ee7f08b0798a386072a8e", func := "flashcache/flashcachelaw09.PairTorn", spec := "pairTorn", unfollowed := true, recurses := true, named := ["flashcache/crc.table"], apart := false, laid := [("flashcache/crc.table", laid_flashcache_crc_table)] }
def PairTornSaid : Prop := pairTornRow.holds Tryd.pinned (OpenSpec.ofChange pairTornSpec)

/-- ITS FALSE NEIGHBOUR: 'it returns false'. Refute it at one input. -/
def pairTornWrong : ChangeSpec := { name := "pairTorn", fn := fun _ => fun
  | [d1, d2, d3] => { results := [.lit (.bool false)], args := [d1, d2, d3] }
  | _ => none }
def PairTornWrongFalsely : Prop := pairTornRow.holds Tryd.pinned (OpenSpec.ofChange pairTornWrong)

/-- 'flashcachelaw15.ScanPrefix': WHATEVER THE INPUT: true; the input reads as it did. -/
def scanPrefixSpec : ChangeSpec := { name := "scanPrefix", fn := fun _ => fun
  | [d1, d2] => { results := [.lit (.bool true)], args := [d1, d2] }
  | _ => none }
def scanPrefixRow : OpenClaim := { program := "ytlndakkehobnpaadoor", sum := "95c7ccca03c3026c9ebd4645e03a8d1b1c9e5f0cc64ee7f08b0798a386072a8e", func := "flashcache/flashcachelaw15.ScanPrefix", spec := "scanPrefix", unfollowed := true, recurses := true, named := ["flashcache/crc.table"], apart := false, laid := [("flashcache/crc.table", laid_flashcache_crc_table)] }
def ScanPrefixSaid : Prop := scanPrefixRow.holds Tryd.pinned (OpenSpec.ofChange scanPrefixSpec)

/-- ITS FALSE NEIGHBOUR: 'it returns false'. Refute it at one input. -/
def scanPrefixWrong : ChangeSpec := { name := "scanPrefix", fn := fun _ => fun
  | [d1, d2] => { results := [.lit (.bool false)], args := [d1, d2] }
  | _ => none }
def ScanPrefixWrongFalsely : Prop := scanPrefixRow.holds Tryd.pinned (OpenSpec.ofChange scanPrefixWrong)

/- THE SECOND FORM. 'bulk': how many values and letters a reading holds, each counted each time it is reached (what is shared counts as often as it is met; a slice's spare places count too). A statement '..UptoSaid' is the law's where the arguments, and the package variables that the reading takes, are together of bulk at most 1048576: NARROWER than '..Said'. Prove '..Said' where nothing that the law and all that it calls make is longer than what came in: it says more and counts as full. Else prove '..UptoSaid'. A law counts once. -/
mutual
def uptoBulk {H : Type} : DataW H → Nat
  | .lit (.string bytes) => bytes.length + 1
  | .lit _ => 1
  | .nil => 1
  | .ptr d => uptoBulk d + 1
  | .slice elems spare => uptoBulkAll elems + uptoBulkAll spare + 1
  | .agg parts => uptoBulkAll parts + 1
  | .iface _ d => uptoBulk d + 1
  | .map entries => uptoBulkEntries entries + 1
  | .held _ => 1
def uptoBulkAll {H : Type} : List (DataW H) → Nat
  | [] => 0
  | d :: r => uptoBulk d + uptoBulkAll r
def uptoBulkEntries {H : Type} : List (Lit × DataW H) → Nat
  | [] => 0
  | x :: r => uptoBulkEntry x + uptoBulkEntries r
def uptoBulkEntry {H : Type} : Lit × DataW H → Nat
  | (.string bytes, d) => bytes.length + uptoBulk d + 1
  | (_, d) => uptoBulk d + 1
 end
def uptoSmall : (H : Type) → List (DataW H) → Bool := fun _ ds => decide (uptoBulkAll ds ≤ 1048576)
def OpenSpec.upto (s : _root_.Go.ChangeSpec) : _root_.Go.OpenSpec := { _root_.Go.OpenSpec.ofChange s with cond := some uptoSmall }

/-- 'flashcachelaw11.LogSector', WHERE WHAT IT READS IS OF BULK AT MOST 1048576: true; the input reads as it did. -/
def logSectorUptoRow : OpenClaim := { program := "ytlndakkehobnpaadoor", sum := "95c7ccca03c3026c9ebd4645e03a8d1b1c9e5f0cc64ee7f08b0798a386072a8e", func := "flashcache/flashcachelaw11.LogSector", spec := "logSector", unfollowed := true, recurses := true, named := ["flashcache/crc.table"], apart := false, laid := [("flashcache/crc.table", laid_flashcache_crc_table)], narrowed := true }
def LogSectorUptoSaid : Prop := logSectorUptoRow.holds Tryd.pinned (OpenSpec.upto logSectorSpec)

/-- 'flashcachelaw11.LogApart', WHERE WHAT IT READS IS OF BULK AT MOST 1048576: true; the input reads as it did. -/
def logApartUptoRow : OpenClaim := { program := "ytlndakkehobnpaadoor", sum := "95c7ccca03c3026c9ebd4645e03a8d1b1c9e5f0cc64ee7f08b0798a386072a8e", func := "flashcache/flashcachelaw11.LogApart", spec := "logApart", unfollowed := true, recurses := true, named := ["flashcache/crc.table"], apart := false, laid := [("flashcache/crc.table", laid_flashcache_crc_table)], narrowed := true }
def LogApartUptoSaid : Prop := logApartUptoRow.holds Tryd.pinned (OpenSpec.upto logApartSpec)

/-- 'flashcachelaw11.LogFull', WHERE WHAT IT READS IS OF BULK AT MOST 1048576: true; the input reads as it did. -/
def logFullUptoRow : OpenClaim := { program := "ytlndakkehobnpaadoor", sum := "95c7ccca03c3026c9ebd4645e03a8d1b1c9e5f0cc64ee7f08b0798a386072a8e", func := "flashcache/flashcachelaw11.LogFull", spec := "logFull", unfollowed := true, recurses := true, named := ["flashcache/crc.table"], apart := false, laid := [("flashcache/crc.table", laid_flashcache_crc_table)], narrowed := true }
def LogFullUptoSaid : Prop := logFullUptoRow.holds Tryd.pinned (OpenSpec.upto logFullSpec)

/-- 'flashcachelaw11.LogScript', WHERE WHAT IT READS IS OF BULK AT MOST 1048576: true; the input reads as it did. -/
def logScriptUptoRow : OpenClaim := { program := "ytlndakkehobnpaadoor", sum := "95c7ccca03c3026c9ebd4645e03a8d1b1c9e5f0cc64ee7f08b0798a386072a8e", func := "flashcache/flashcachelaw11.LogScript", spec := "logScript", unfollowed := true, recurses := true, named := ["flashcache/crc.table"], apart := false, laid := [("flashcache/crc.table", laid_flashcache_crc_table)], narrowed := true }
def LogScriptUptoSaid : Prop := logScriptUptoRow.holds Tryd.pinned (OpenSpec.upto logScriptSpec)

/-- 'flashcachelaw09.PairLoad', WHERE WHAT IT READS IS OF BULK AT MOST 1048576: true; the input reads as it did. -/
def pairLoadUptoRow : OpenClaim := { program := "ytlndakkehobnpaadoor", sum := "95c7ccca03c3026c9ebd4645e03a8d1b1c9e5f0cc64ee7f08b0798a386072a8e", func := "flashcache/flashcachelaw09.PairLoad", spec := "pairLoad", unfollowed := true, recurses := true, named := ["flashcache/crc.table"], apart := false, laid := [("flashcache/crc.table", laid_flashcache_crc_table)], narrowed := true }
def PairLoadUptoSaid : Prop := pairLoadUptoRow.holds Tryd.pinned (OpenSpec.upto pairLoadSpec)

/-- 'flashcachelaw09.PairPublish', WHERE WHAT IT READS IS OF BULK AT MOST 1048576: true; the input reads as it did. -/
def pairPublishUptoRow : OpenClaim := { program := "ytlndakkehobnpaadoor", sum := "95c7ccca03c3026c9ebd4645e03a8d1b1c9e5f0cc64ee7f08b0798a386072a8e", func := "flashcache/flashcachelaw09.PairPublish", spec := "pairPublish", unfollowed := true, recurses := true, named := ["flashcache/crc.table"], apart := false, laid := [("flashcache/crc.table", laid_flashcache_crc_table)], narrowed := true }
def PairPublishUptoSaid : Prop := pairPublishUptoRow.holds Tryd.pinned (OpenSpec.upto pairPublishSpec)

/-- 'flashcachelaw15.ScanRegion', WHERE WHAT IT READS IS OF BULK AT MOST 1048576: true; the input reads as it did. -/
def scanRegionUptoRow : OpenClaim := { program := "ytlndakkehobnpaadoor", sum := "95c7ccca03c3026c9ebd4645e03a8d1b1c9e5f0cc64ee7f08b0798a386072a8e", func := "flashcache/flashcachelaw15.ScanRegion", spec := "scanRegion", unfollowed := true, recurses := true, named := ["flashcache/crc.table"], apart := false, laid := [("flashcache/crc.table", laid_flashcache_crc_table)], narrowed := true }
def ScanRegionUptoSaid : Prop := scanRegionUptoRow.holds Tryd.pinned (OpenSpec.upto scanRegionSpec)

/-- 'flashcachelaw15.ScanRound', WHERE WHAT IT READS IS OF BULK AT MOST 1048576: true; the input reads as it did. -/
def scanRoundUptoRow : OpenClaim := { program := "ytlndakkehobnpaadoor", sum := "95c7ccca03c3026c9ebd4645e03a8d1b1c9e5f0cc64ee7f08b0798a386072a8e", func := "flashcache/flashcachelaw15.ScanRound", spec := "scanRound", unfollowed := true, recurses := true, named := ["flashcache/crc.table"], apart := false, laid := [("flashcache/crc.table", laid_flashcache_crc_table)], narrowed := true }
def ScanRoundUptoSaid : Prop := scanRoundUptoRow.holds Tryd.pinned (OpenSpec.upto scanRoundSpec)

/-- 'flashcachelaw15.ScanOther', WHERE WHAT IT READS IS OF BULK AT MOST 1048576: true; the input reads as it did. -/
def scanOtherUptoRow : OpenClaim := { program := "ytlndakkehobnpaadoor", sum := "95c7ccca03c3026c9ebd4645e03a8d1b1c9e5f0cc64ee7f08b0798a386072a8e", func := "flashcache/flashcachelaw15.ScanOther", spec := "scanOther", unfollowed := true, recurses := true, named := ["flashcache/crc.table"], apart := false, laid := [("flashcache/crc.table", laid_flashcache_crc_table)], narrowed := true }
def ScanOtherUptoSaid : Prop := scanOtherUptoRow.holds Tryd.pinned (OpenSpec.upto scanOtherSpec)

/-- 'flashcachelaw11.LogCrash', WHERE WHAT IT READS IS OF BULK AT MOST 1048576: true; the input reads as it did. -/
def logCrashUptoRow : OpenClaim := { program := "ytlndakkehobnpaadoor", sum := "95c7ccca03c3026c9ebd4645e03a8d1b1c9e5f0cc64ee7f08b0798a386072a8e", func := "flashcache/flashcachelaw11.LogCrash", spec := "logCrash", unfollowed := true, recurses := true, named := ["flashcache/crc.table"], apart := false, laid := [("flashcache/crc.table", laid_flashcache_crc_table)], narrowed := true }
def LogCrashUptoSaid : Prop := logCrashUptoRow.holds Tryd.pinned (OpenSpec.upto logCrashSpec)

/-- 'flashcachelaw09.PairAtomic', WHERE WHAT IT READS IS OF BULK AT MOST 1048576: true; the input reads as it did. -/
def pairAtomicUptoRow : OpenClaim := { program := "ytlndakkehobnpaadoor", sum := "95c7ccca03c3026c9ebd4645e03a8d1b1c9e5f0cc64ee7f08b0798a386072a8e", func := "flashcache/flashcachelaw09.PairAtomic", spec := "pairAtomic", unfollowed := true, recurses := true, named := ["flashcache/crc.table"], apart := false, laid := [("flashcache/crc.table", laid_flashcache_crc_table)], narrowed := true }
def PairAtomicUptoSaid : Prop := pairAtomicUptoRow.holds Tryd.pinned (OpenSpec.upto pairAtomicSpec)

/-- 'flashcachelaw09.PairTorn', WHERE WHAT IT READS IS OF BULK AT MOST 1048576: true; the input reads as it did. -/
def pairTornUptoRow : OpenClaim := { program := "ytlndakkehobnpaadoor", sum := "95c7ccca03c3026c9ebd4645e03a8d1b1c9e5f0cc64ee7f08b0798a386072a8e", func := "flashcache/flashcachelaw09.PairTorn", spec := "pairTorn", unfollowed := true, recurses := true, named := ["flashcache/crc.table"], apart := false, laid := [("flashcache/crc.table", laid_flashcache_crc_table)], narrowed := true }
def PairTornUptoSaid : Prop := pairTornUptoRow.holds Tryd.pinned (OpenSpec.upto pairTornSpec)

/-- 'flashcachelaw15.ScanPrefix', WHERE WHAT IT READS IS OF BULK AT MOST 1048576: true; the input reads as it did. -/
def scanPrefixUptoRow : OpenClaim := { program := "ytlndakkehobnpaadoor", sum := "95c7ccca03c3026c9ebd4645e03a8d1b1c9e5f0cc64ee7f08b0798a386072a8e", func := "flashcache/flashcachelaw15.ScanPrefix", spec := "scanPrefix", unfollowed := true, recurses := true, named := ["flashcache/crc.table"], apart := false, laid := [("flashcache/crc.table", laid_flashcache_crc_table)], narrowed := true }
def ScanPrefixUptoSaid : Prop := scanPrefixUptoRow.holds Tryd.pinned (OpenSpec.upto scanPrefixSpec)

end Rows
end Go.Proofs.YtlndakkehobnpaaDoor
