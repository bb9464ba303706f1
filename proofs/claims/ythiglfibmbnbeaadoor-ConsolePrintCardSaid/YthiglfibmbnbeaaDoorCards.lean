/-
  DERIVED. GIVEN WITH THE SEED: THE CARDS: each row of YthiglfibmbnbeaaDoorRows.lean that lists a variable, with what it lists TIED to the program's text (the seventh form; the later family's looks); each row that meets fmt, with fmt's text TOLD by the authors' own Lean function (tested against real Go, not proved from fmt's source: count such statements apart). THE CARD IS WHAT COUNTS. Prove the row's statement (the work); the ties are given (YthiglfibmbnbeaaDoorTie.lean); close each card by the builder's one call (the guide's Derived/Test/ToyasCard.lean, 'card_holds'). Laid BY PROGRAM, IN A SANDBOX (cutbox-door.mjs). By AI agents, Wed Nov 11 2026. No macro, syntax, notation, axiom, sorry.
-/
import Derived.Test.YthiglfibmbnbeaaDoorRows
import GoSem.ClaimSeven
namespace Go.Proofs.YthiglfibmbnbeaaDoor
namespace Rows

/-- THE TIED CARD OF 'flashcachelaw31.ConsoleParse'. -/
def consoleParseCard : Claim7 := { stood := { row := consoleParseRow, standIns := [], harness := (true, "a45708195c54aac503e2393fe79f71b336193fa9bf819e3a569e242b328c1a1f"), looks := false }, kinds := [], alts := [], laidByText := true, laidKinds := [.data, .data, .data, .data, .pinned], laidTests := true, laidLooks := .later }
def ConsoleParseCardSaid : Prop := Claim7.holds Tryd.pinned (.plain (OpenSpec.ofChange consoleParseSpec)) consoleParseCard

/-- THE TIED CARD OF 'flashcachelaw31.ConsolePrint'. -/
def consolePrintCard : Claim7 := { stood := { row := consolePrintRow, standIns := [], harness := (true, "a45708195c54aac503e2393fe79f71b336193fa9bf819e3a569e242b328c1a1f"), looks := false }, kinds := [], alts := [], laidByText := true, laidKinds := [.data, .data, .data, .data, .pinned], laidTests := true, laidLooks := .later }
def ConsolePrintCardSaid : Prop := Claim7.holds Tryd.pinned (.plain (OpenSpec.ofChange consolePrintSpec)) consolePrintCard

/-- THE TIED CARD OF 'flashcachelaw31.ConsoleLine'. -/
def consoleLineCard : Claim7 := { stood := { row := consoleLineRow, standIns := [], harness := (true, "a45708195c54aac503e2393fe79f71b336193fa9bf819e3a569e242b328c1a1f"), looks := false }, kinds := [], alts := [], laidByText := true, laidKinds := [.data, .data, .data, .data, .pinned], laidTests := true, laidLooks := .later }
def ConsoleLineCardSaid : Prop := Claim7.holds Tryd.pinned (.plain (OpenSpec.ofChange consoleLineSpec)) consoleLineCard

/-- THE TIED CARD OF 'flashcachelaw31.ConsoleError'. -/
def consoleErrorCard : Claim7 := { stood := { row := consoleErrorRow, standIns := [], harness := (true, "a45708195c54aac503e2393fe79f71b336193fa9bf819e3a569e242b328c1a1f"), looks := false }, kinds := [], alts := [], laidByText := true, laidKinds := [.data, .data, .data, .data, .pinned], laidTests := true, laidLooks := .later }
def ConsoleErrorCardSaid : Prop := Claim7.holds Tryd.pinned (.plain (OpenSpec.ofChange consoleErrorSpec)) consoleErrorCard

/-- THE SECOND FORM's CARD OF 'flashcachelaw31.ConsoleParse'. -/
def consoleParseUptoCard : Claim7 := { stood := { row := consoleParseUptoRow, standIns := [], harness := (true, "a45708195c54aac503e2393fe79f71b336193fa9bf819e3a569e242b328c1a1f"), looks := false }, kinds := [], alts := [], laidByText := true, laidKinds := [.data, .data, .data, .data, .pinned], laidTests := true, laidLooks := .later }
def ConsoleParseUptoCardSaid : Prop := Claim7.holds Tryd.pinned (.plain (OpenSpec.upto consoleParseSpec)) consoleParseUptoCard

/-- THE SECOND FORM's CARD OF 'flashcachelaw31.ConsolePrint'. -/
def consolePrintUptoCard : Claim7 := { stood := { row := consolePrintUptoRow, standIns := [], harness := (true, "a45708195c54aac503e2393fe79f71b336193fa9bf819e3a569e242b328c1a1f"), looks := false }, kinds := [], alts := [], laidByText := true, laidKinds := [.data, .data, .data, .data, .pinned], laidTests := true, laidLooks := .later }
def ConsolePrintUptoCardSaid : Prop := Claim7.holds Tryd.pinned (.plain (OpenSpec.upto consolePrintSpec)) consolePrintUptoCard

/-- THE SECOND FORM's CARD OF 'flashcachelaw31.ConsoleLine'. -/
def consoleLineUptoCard : Claim7 := { stood := { row := consoleLineUptoRow, standIns := [], harness := (true, "a45708195c54aac503e2393fe79f71b336193fa9bf819e3a569e242b328c1a1f"), looks := false }, kinds := [], alts := [], laidByText := true, laidKinds := [.data, .data, .data, .data, .pinned], laidTests := true, laidLooks := .later }
def ConsoleLineUptoCardSaid : Prop := Claim7.holds Tryd.pinned (.plain (OpenSpec.upto consoleLineSpec)) consoleLineUptoCard

/-- THE SECOND FORM's CARD OF 'flashcachelaw31.ConsoleError'. -/
def consoleErrorUptoCard : Claim7 := { stood := { row := consoleErrorUptoRow, standIns := [], harness := (true, "a45708195c54aac503e2393fe79f71b336193fa9bf819e3a569e242b328c1a1f"), looks := false }, kinds := [], alts := [], laidByText := true, laidKinds := [.data, .data, .data, .data, .pinned], laidTests := true, laidLooks := .later }
def ConsoleErrorUptoCardSaid : Prop := Claim7.holds Tryd.pinned (.plain (OpenSpec.upto consoleErrorSpec)) consoleErrorUptoCard
end Rows
end Go.Proofs.YthiglfibmbnbeaaDoor
