/-
  DERIVED. GIVEN WITH THE SEED: THE CARDS: each row of YtkmmdlicifiknaaGreatDoorRows.lean that lists a variable, with what it lists TIED to the program's text (the seventh form; the later family's looks); each row that meets fmt, with fmt's text TOLD by the authors' own Lean function (tested against real Go, not proved from fmt's source: count such statements apart). THE CARD IS WHAT COUNTS. Prove the row's statement (the work); the ties are given (YtkmmdlicifiknaaGreatDoorTie.lean); close each card by the builder's one call (the guide's Derived/Test/ToyasCard.lean, 'card_holds'). Laid BY PROGRAM, IN A SANDBOX (cutbox-door.mjs). By AI agents, Wed Nov 11 2026. No macro, syntax, notation, axiom, sorry.
-/
import Derived.Test.YtkmmdlicifiknaaGreatDoorRows
import GoSem.ClaimSeven
namespace Go.Proofs.YtkmmdlicifiknaaGreatDoor
namespace Rows

/-- THE TIED CARD OF 'flashcachelaw29.CheckDevice'. -/
def checkDeviceCard : Claim7 := { stood := { row := checkDeviceRow, standIns := [], harness := (true, "318a5a10ab542dae29572fd2e20a33e819e3a727377adc8eb894a6dfcaf7bbb1"), looks := false }, kinds := [], alts := [], laidByText := true, laidKinds := [.data], laidTests := true, laidLooks := .later }
def CheckDeviceCardSaid : Prop := Claim7.holds Tryz.pinned (.plain (OpenSpec.ofChange checkDeviceSpec)) checkDeviceCard

/-- THE TIED CARD OF 'flashcachelaw23.RecoveryRaw'. -/
def recoveryRawCard : Claim7 := { stood := { row := recoveryRawRow, standIns := [], harness := (true, "318a5a10ab542dae29572fd2e20a33e819e3a727377adc8eb894a6dfcaf7bbb1"), looks := false }, kinds := [], alts := [], laidByText := true, laidKinds := [.data], laidTests := true, laidLooks := .later }
def RecoveryRawCardSaid : Prop := Claim7.holds Tryz.pinned (.plain (OpenSpec.ofChange recoveryRawSpec)) recoveryRawCard

/-- THE TIED CARD OF 'flashcachelaw23.RecoveryLoad'. -/
def recoveryLoadCard : Claim7 := { stood := { row := recoveryLoadRow, standIns := [], harness := (true, "318a5a10ab542dae29572fd2e20a33e819e3a727377adc8eb894a6dfcaf7bbb1"), looks := false }, kinds := [], alts := [], laidByText := true, laidKinds := [.data], laidTests := true, laidLooks := .later }
def RecoveryLoadCardSaid : Prop := Claim7.holds Tryz.pinned (.plain (OpenSpec.ofChange recoveryLoadSpec)) recoveryLoadCard

/-- THE TIED CARD OF 'flashcachelaw23.RecoveryForm'. -/
def recoveryFormCard : Claim7 := { stood := { row := recoveryFormRow, standIns := [], harness := (true, "318a5a10ab542dae29572fd2e20a33e819e3a727377adc8eb894a6dfcaf7bbb1"), looks := false }, kinds := [], alts := [], laidByText := true, laidKinds := [.data], laidTests := true, laidLooks := .later }
def RecoveryFormCardSaid : Prop := Claim7.holds Tryz.pinned (.plain (OpenSpec.ofChange recoveryFormSpec)) recoveryFormCard

/-- THE TIED CARD OF 'flashcachelaw23.RecoveryTwice'. -/
def recoveryTwiceCard : Claim7 := { stood := { row := recoveryTwiceRow, standIns := [], harness := (true, "318a5a10ab542dae29572fd2e20a33e819e3a727377adc8eb894a6dfcaf7bbb1"), looks := false }, kinds := [], alts := [], laidByText := true, laidKinds := [.data], laidTests := true, laidLooks := .later }
def RecoveryTwiceCardSaid : Prop := Claim7.holds Tryz.pinned (.plain (OpenSpec.ofChange recoveryTwiceSpec)) recoveryTwiceCard

/-- THE SECOND FORM's CARD OF 'flashcachelaw29.CheckDevice'. -/
def checkDeviceUptoCard : Claim7 := { stood := { row := checkDeviceUptoRow, standIns := [], harness := (true, "318a5a10ab542dae29572fd2e20a33e819e3a727377adc8eb894a6dfcaf7bbb1"), looks := false }, kinds := [], alts := [], laidByText := true, laidKinds := [.data], laidTests := true, laidLooks := .later }
def CheckDeviceUptoCardSaid : Prop := Claim7.holds Tryz.pinned (.plain (OpenSpec.upto checkDeviceSpec)) checkDeviceUptoCard

/-- THE SECOND FORM's CARD OF 'flashcachelaw23.RecoveryRaw'. -/
def recoveryRawUptoCard : Claim7 := { stood := { row := recoveryRawUptoRow, standIns := [], harness := (true, "318a5a10ab542dae29572fd2e20a33e819e3a727377adc8eb894a6dfcaf7bbb1"), looks := false }, kinds := [], alts := [], laidByText := true, laidKinds := [.data], laidTests := true, laidLooks := .later }
def RecoveryRawUptoCardSaid : Prop := Claim7.holds Tryz.pinned (.plain (OpenSpec.upto recoveryRawSpec)) recoveryRawUptoCard

/-- THE SECOND FORM's CARD OF 'flashcachelaw23.RecoveryLoad'. -/
def recoveryLoadUptoCard : Claim7 := { stood := { row := recoveryLoadUptoRow, standIns := [], harness := (true, "318a5a10ab542dae29572fd2e20a33e819e3a727377adc8eb894a6dfcaf7bbb1"), looks := false }, kinds := [], alts := [], laidByText := true, laidKinds := [.data], laidTests := true, laidLooks := .later }
def RecoveryLoadUptoCardSaid : Prop := Claim7.holds Tryz.pinned (.plain (OpenSpec.upto recoveryLoadSpec)) recoveryLoadUptoCard

/-- THE SECOND FORM's CARD OF 'flashcachelaw23.RecoveryForm'. -/
def recoveryFormUptoCard : Claim7 := { stood := { row := recoveryFormUptoRow, standIns := [], harness := (true, "318a5a10ab542dae29572fd2e20a33e819e3a727377adc8eb894a6dfcaf7bbb1"), looks := false }, kinds := [], alts := [], laidByText := true, laidKinds := [.data], laidTests := true, laidLooks := .later }
def RecoveryFormUptoCardSaid : Prop := Claim7.holds Tryz.pinned (.plain (OpenSpec.upto recoveryFormSpec)) recoveryFormUptoCard

/-- THE SECOND FORM's CARD OF 'flashcachelaw23.RecoveryTwice'. -/
def recoveryTwiceUptoCard : Claim7 := { stood := { row := recoveryTwiceUptoRow, standIns := [], harness := (true, "318a5a10ab542dae29572fd2e20a33e819e3a727377adc8eb894a6dfcaf7bbb1"), looks := false }, kinds := [], alts := [], laidByText := true, laidKinds := [.data], laidTests := true, laidLooks := .later }
def RecoveryTwiceUptoCardSaid : Prop := Claim7.holds Tryz.pinned (.plain (OpenSpec.upto recoveryTwiceSpec)) recoveryTwiceUptoCard
end Rows
end Go.Proofs.YtkmmdlicifiknaaGreatDoor
