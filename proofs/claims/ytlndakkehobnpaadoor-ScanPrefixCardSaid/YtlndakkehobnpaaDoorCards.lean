/-
  DERIVED. GIVEN WITH THE SEED: THE CARDS: each row of YtlndakkehobnpaaDoorRows.lean that lists a variable, with what it lists TIED to the program's text (the seventh form; the later family's looks); each row that meets fmt, with fmt's text TOLD by the authors' own Lean function (tested against real Go, not proved from fmt's source: count such statements apart). THE CARD IS WHAT COUNTS. Prove the row's statement (the work); the ties are given (YtlndakkehobnpaaDoorTie.lean); close each card by the builder's one call (the guide's Derived/Test/ToyasCard.lean, 'card_holds'). Laid BY PROGRAM, IN A SANDBOX (cutbox-door.mjs). By AI agents, Wed Nov 11 2026. No macro, syntax, notation, axiom, sorry.
-/
import Derived.Test.YtlndakkehobnpaaDoorRows
import GoSem.ClaimSeven
namespace Go.Proofs.YtlndakkehobnpaaDoor
namespace Rows

/-- THE TIED CARD OF 'flashcachelaw11.LogSector'. -/
def logSectorCard : Claim7 := { stood := { row := logSectorRow, standIns := [], harness := (true, "ef1fa8f3014c6e3fe2b1907d4f734f2c932dc2d5fe76d3eb980f0835b0714608"), looks := false }, kinds := [], alts := [], laidByText := true, laidKinds := [.data], laidTests := true, laidLooks := .later }
def LogSectorCardSaid : Prop := Claim7.holds Tryd.pinned (.plain (OpenSpec.ofChange logSectorSpec)) logSectorCard

/-- THE TIED CARD OF 'flashcachelaw11.LogApart'. -/
def logApartCard : Claim7 := { stood := { row := logApartRow, standIns := [], harness := (true, "ef1fa8f3014c6e3fe2b1907d4f734f2c932dc2d5fe76d3eb980f0835b0714608"), looks := false }, kinds := [], alts := [], laidByText := true, laidKinds := [.data], laidTests := true, laidLooks := .later }
def LogApartCardSaid : Prop := Claim7.holds Tryd.pinned (.plain (OpenSpec.ofChange logApartSpec)) logApartCard

/-- THE TIED CARD OF 'flashcachelaw11.LogFull'. -/
def logFullCard : Claim7 := { stood := { row := logFullRow, standIns := [], harness := (true, "ef1fa8f3014c6e3fe2b1907d4f734f2c932dc2d5fe76d3eb980f0835b0714608"), looks := false }, kinds := [], alts := [], laidByText := true, laidKinds := [.data], laidTests := true, laidLooks := .later }
def LogFullCardSaid : Prop := Claim7.holds Tryd.pinned (.plain (OpenSpec.ofChange logFullSpec)) logFullCard

/-- THE TIED CARD OF 'flashcachelaw11.LogScript'. -/
def logScriptCard : Claim7 := { stood := { row := logScriptRow, standIns := [], harness := (true, "ef1fa8f3014c6e3fe2b1907d4f734f2c932dc2d5fe76d3eb980f0835b0714608"), looks := false }, kinds := [], alts := [], laidByText := true, laidKinds := [.data], laidTests := true, laidLooks := .later }
def LogScriptCardSaid : Prop := Claim7.holds Tryd.pinned (.plain (OpenSpec.ofChange logScriptSpec)) logScriptCard

/-- THE TIED CARD OF 'flashcachelaw09.PairLoad'. -/
def pairLoadCard : Claim7 := { stood := { row := pairLoadRow, standIns := [], harness := (true, "ef1fa8f3014c6e3fe2b1907d4f734f2c932dc2d5fe76d3eb980f0835b0714608"), looks := false }, kinds := [], alts := [], laidByText := true, laidKinds := [.data], laidTests := true, laidLooks := .later }
def PairLoadCardSaid : Prop := Claim7.holds Tryd.pinned (.plain (OpenSpec.ofChange pairLoadSpec)) pairLoadCard

/-- THE TIED CARD OF 'flashcachelaw09.PairPublish'. -/
def pairPublishCard : Claim7 := { stood := { row := pairPublishRow, standIns := [], harness := (true, "ef1fa8f3014c6e3fe2b1907d4f734f2c932dc2d5fe76d3eb980f0835b0714608"), looks := false }, kinds := [], alts := [], laidByText := true, laidKinds := [.data], laidTests := true, laidLooks := .later }
def PairPublishCardSaid : Prop := Claim7.holds Tryd.pinned (.plain (OpenSpec.ofChange pairPublishSpec)) pairPublishCard

/-- THE TIED CARD OF 'flashcachelaw15.ScanRegion'. -/
def scanRegionCard : Claim7 := { stood := { row := scanRegionRow, standIns := [], harness := (true, "ef1fa8f3014c6e3fe2b1907d4f734f2c932dc2d5fe76d3eb980f0835b0714608"), looks := false }, kinds := [], alts := [], laidByText := true, laidKinds := [.data], laidTests := true, laidLooks := .later }
def ScanRegionCardSaid : Prop := Claim7.holds Tryd.pinned (.plain (OpenSpec.ofChange scanRegionSpec)) scanRegionCard

/-- THE TIED CARD OF 'flashcachelaw15.ScanRound'. -/
def scanRoundCard : Claim7 := { stood := { row := scanRoundRow, standIns := [], harness := (true, "ef1fa8f3014c6e3fe2b1907d4f734f2c932dc2d5fe76d3eb980f0835b0714608"), looks := false }, kinds := [], alts := [], laidByText := true, laidKinds := [.data], laidTests := true, laidLooks := .later }
def ScanRoundCardSaid : Prop := Claim7.holds Tryd.pinned (.plain (OpenSpec.ofChange scanRoundSpec)) scanRoundCard

/-- THE TIED CARD OF 'flashcachelaw15.ScanOther'. -/
def scanOtherCard : Claim7 := { stood := { row := scanOtherRow, standIns := [], harness := (true, "ef1fa8f3014c6e3fe2b1907d4f734f2c932dc2d5fe76d3eb980f0835b0714608"), looks := false }, kinds := [], alts := [], laidByText := true, laidKinds := [.data], laidTests := true, laidLooks := .later }
def ScanOtherCardSaid : Prop := Claim7.holds Tryd.pinned (.plain (OpenSpec.ofChange scanOtherSpec)) scanOtherCard

/-- THE TIED CARD OF 'flashcachelaw11.LogCrash'. -/
def logCrashCard : Claim7 := { stood := { row := logCrashRow, standIns := [], harness := (true, "ef1fa8f3014c6e3fe2b1907d4f734f2c932dc2d5fe76d3eb980f0835b0714608"), looks := false }, kinds := [], alts := [], laidByText := true, laidKinds := [.data], laidTests := true, laidLooks := .later }
def LogCrashCardSaid : Prop := Claim7.holds Tryd.pinned (.plain (OpenSpec.ofChange logCrashSpec)) logCrashCard

/-- THE TIED CARD OF 'flashcachelaw09.PairAtomic'. -/
def pairAtomicCard : Claim7 := { stood := { row := pairAtomicRow, standIns := [], harness := (true, "ef1fa8f3014c6e3fe2b1907d4f734f2c932dc2d5fe76d3eb980f0835b0714608"), looks := false }, kinds := [], alts := [], laidByText := true, laidKinds := [.data], laidTests := true, laidLooks := .later }
def PairAtomicCardSaid : Prop := Claim7.holds Tryd.pinned (.plain (OpenSpec.ofChange pairAtomicSpec)) pairAtomicCard

/-- THE TIED CARD OF 'flashcachelaw09.PairTorn'. -/
def pairTornCard : Claim7 := { stood := { row := pairTornRow, standIns := [], harness := (true, "ef1fa8f3014c6e3fe2b1907d4f734f2c932dc2d5fe76d3eb980f0835b0714608"), looks := false }, kinds := [], alts := [], laidByText := true, laidKinds := [.data], laidTests := true, laidLooks := .later }
def PairTornCardSaid : Prop := Claim7.holds Tryd.pinned (.plain (OpenSpec.ofChange pairTornSpec)) pairTornCard

/-- THE TIED CARD OF 'flashcachelaw15.ScanPrefix'. -/
def scanPrefixCard : Claim7 := { stood := { row := scanPrefixRow, standIns := [], harness := (true, "ef1fa8f3014c6e3fe2b1907d4f734f2c932dc2d5fe76d3eb980f0835b0714608"), looks := false }, kinds := [], alts := [], laidByText := true, laidKinds := [.data], laidTests := true, laidLooks := .later }
def ScanPrefixCardSaid : Prop := Claim7.holds Tryd.pinned (.plain (OpenSpec.ofChange scanPrefixSpec)) scanPrefixCard

/-- THE SECOND FORM's CARD OF 'flashcachelaw11.LogSector'. -/
def logSectorUptoCard : Claim7 := { stood := { row := logSectorUptoRow, standIns := [], harness := (true, "ef1fa8f3014c6e3fe2b1907d4f734f2c932dc2d5fe76d3eb980f0835b0714608"), looks := false }, kinds := [], alts := [], laidByText := true, laidKinds := [.data], laidTests := true, laidLooks := .later }
def LogSectorUptoCardSaid : Prop := Claim7.holds Tryd.pinned (.plain (OpenSpec.upto logSectorSpec)) logSectorUptoCard

/-- THE SECOND FORM's CARD OF 'flashcachelaw11.LogApart'. -/
def logApartUptoCard : Claim7 := { stood := { row := logApartUptoRow, standIns := [], harness := (true, "ef1fa8f3014c6e3fe2b1907d4f734f2c932dc2d5fe76d3eb980f0835b0714608"), looks := false }, kinds := [], alts := [], laidByText := true, laidKinds := [.data], laidTests := true, laidLooks := .later }
def LogApartUptoCardSaid : Prop := Claim7.holds Tryd.pinned (.plain (OpenSpec.upto logApartSpec)) logApartUptoCard

/-- THE SECOND FORM's CARD OF 'flashcachelaw11.LogFull'. -/
def logFullUptoCard : Claim7 := { stood := { row := logFullUptoRow, standIns := [], harness := (true, "ef1fa8f3014c6e3fe2b1907d4f734f2c932dc2d5fe76d3eb980f0835b0714608"), looks := false }, kinds := [], alts := [], laidByText := true, laidKinds := [.data], laidTests := true, laidLooks := .later }
def LogFullUptoCardSaid : Prop := Claim7.holds Tryd.pinned (.plain (OpenSpec.upto logFullSpec)) logFullUptoCard

/-- THE SECOND FORM's CARD OF 'flashcachelaw11.LogScript'. -/
def logScriptUptoCard : Claim7 := { stood := { row := logScriptUptoRow, standIns := [], harness := (true, "ef1fa8f3014c6e3fe2b1907d4f734f2c932dc2d5fe76d3eb980f0835b0714608"), looks := false }, kinds := [], alts := [], laidByText := true, laidKinds := [.data], laidTests := true, laidLooks := .later }
def LogScriptUptoCardSaid : Prop := Claim7.holds Tryd.pinned (.plain (OpenSpec.upto logScriptSpec)) logScriptUptoCard

/-- THE SECOND FORM's CARD OF 'flashcachelaw09.PairLoad'. -/
def pairLoadUptoCard : Claim7 := { stood := { row := pairLoadUptoRow, standIns := [], harness := (true, "ef1fa8f3014c6e3fe2b1907d4f734f2c932dc2d5fe76d3eb980f0835b0714608"), looks := false }, kinds := [], alts := [], laidByText := true, laidKinds := [.data], laidTests := true, laidLooks := .later }
def PairLoadUptoCardSaid : Prop := Claim7.holds Tryd.pinned (.plain (OpenSpec.upto pairLoadSpec)) pairLoadUptoCard

/-- THE SECOND FORM's CARD OF 'flashcachelaw09.PairPublish'. -/
def pairPublishUptoCard : Claim7 := { stood := { row := pairPublishUptoRow, standIns := [], harness := (true, "ef1fa8f3014c6e3fe2b1907d4f734f2c932dc2d5fe76d3eb980f0835b0714608"), looks := false }, kinds := [], alts := [], laidByText := true, laidKinds := [.data], laidTests := true, laidLooks := .later }
def PairPublishUptoCardSaid : Prop := Claim7.holds Tryd.pinned (.plain (OpenSpec.upto pairPublishSpec)) pairPublishUptoCard

/-- THE SECOND FORM's CARD OF 'flashcachelaw15.ScanRegion'. -/
def scanRegionUptoCard : Claim7 := { stood := { row := scanRegionUptoRow, standIns := [], harness := (true, "ef1fa8f3014c6e3fe2b1907d4f734f2c932dc2d5fe76d3eb980f0835b0714608"), looks := false }, kinds := [], alts := [], laidByText := true, laidKinds := [.data], laidTests := true, laidLooks := .later }
def ScanRegionUptoCardSaid : Prop := Claim7.holds Tryd.pinned (.plain (OpenSpec.upto scanRegionSpec)) scanRegionUptoCard

/-- THE SECOND FORM's CARD OF 'flashcachelaw15.ScanRound'. -/
def scanRoundUptoCard : Claim7 := { stood := { row := scanRoundUptoRow, standIns := [], harness := (true, "ef1fa8f3014c6e3fe2b1907d4f734f2c932dc2d5fe76d3eb980f0835b0714608"), looks := false }, kinds := [], alts := [], laidByText := true, laidKinds := [.data], laidTests := true, laidLooks := .later }
def ScanRoundUptoCardSaid : Prop := Claim7.holds Tryd.pinned (.plain (OpenSpec.upto scanRoundSpec)) scanRoundUptoCard

/-- THE SECOND FORM's CARD OF 'flashcachelaw15.ScanOther'. -/
def scanOtherUptoCard : Claim7 := { stood := { row := scanOtherUptoRow, standIns := [], harness := (true, "ef1fa8f3014c6e3fe2b1907d4f734f2c932dc2d5fe76d3eb980f0835b0714608"), looks := false }, kinds := [], alts := [], laidByText := true, laidKinds := [.data], laidTests := true, laidLooks := .later }
def ScanOtherUptoCardSaid : Prop := Claim7.holds Tryd.pinned (.plain (OpenSpec.upto scanOtherSpec)) scanOtherUptoCard

/-- THE SECOND FORM's CARD OF 'flashcachelaw11.LogCrash'. -/
def logCrashUptoCard : Claim7 := { stood := { row := logCrashUptoRow, standIns := [], harness := (true, "ef1fa8f3014c6e3fe2b1907d4f734f2c932dc2d5fe76d3eb980f0835b0714608"), looks := false }, kinds := [], alts := [], laidByText := true, laidKinds := [.data], laidTests := true, laidLooks := .later }
def LogCrashUptoCardSaid : Prop := Claim7.holds Tryd.pinned (.plain (OpenSpec.upto logCrashSpec)) logCrashUptoCard

/-- THE SECOND FORM's CARD OF 'flashcachelaw09.PairAtomic'. -/
def pairAtomicUptoCard : Claim7 := { stood := { row := pairAtomicUptoRow, standIns := [], harness := (true, "ef1fa8f3014c6e3fe2b1907d4f734f2c932dc2d5fe76d3eb980f0835b0714608"), looks := false }, kinds := [], alts := [], laidByText := true, laidKinds := [.data], laidTests := true, laidLooks := .later }
def PairAtomicUptoCardSaid : Prop := Claim7.holds Tryd.pinned (.plain (OpenSpec.upto pairAtomicSpec)) pairAtomicUptoCard

/-- THE SECOND FORM's CARD OF 'flashcachelaw09.PairTorn'. -/
def pairTornUptoCard : Claim7 := { stood := { row := pairTornUptoRow, standIns := [], harness := (true, "ef1fa8f3014c6e3fe2b1907d4f734f2c932dc2d5fe76d3eb980f0835b0714608"), looks := false }, kinds := [], alts := [], laidByText := true, laidKinds := [.data], laidTests := true, laidLooks := .later }
def PairTornUptoCardSaid : Prop := Claim7.holds Tryd.pinned (.plain (OpenSpec.upto pairTornSpec)) pairTornUptoCard

/-- THE SECOND FORM's CARD OF 'flashcachelaw15.ScanPrefix'. -/
def scanPrefixUptoCard : Claim7 := { stood := { row := scanPrefixUptoRow, standIns := [], harness := (true, "ef1fa8f3014c6e3fe2b1907d4f734f2c932dc2d5fe76d3eb980f0835b0714608"), looks := false }, kinds := [], alts := [], laidByText := true, laidKinds := [.data], laidTests := true, laidLooks := .later }
def ScanPrefixUptoCardSaid : Prop := Claim7.holds Tryd.pinned (.plain (OpenSpec.upto scanPrefixSpec)) scanPrefixUptoCard
end Rows
end Go.Proofs.YtlndakkehobnpaaDoor
