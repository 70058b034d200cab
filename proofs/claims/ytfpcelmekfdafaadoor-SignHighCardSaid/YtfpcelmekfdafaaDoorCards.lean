/-
  DERIVED. GIVEN WITH THE SEED: THE CARDS: each row of YtfpcelmekfdafaaDoorRows.lean that lists a variable, with what it lists TIED to the program's text (the seventh form; the later family's looks); each row that meets fmt, with fmt's text TOLD by the authors' own Lean function (tested against real Go, not proved from fmt's source: count such statements apart). THE CARD IS WHAT COUNTS. Prove the row's statement (the work); the ties are given (YtfpcelmekfdafaaDoorTie.lean); close each card by the builder's one call (the guide's Derived/Test/ToyasCard.lean, 'card_holds'). Laid BY PROGRAM, IN A SANDBOX (cutbox-door.mjs). By AI agents, Wed Nov 11 2026. No macro, syntax, notation, axiom, sorry.
-/
import Derived.Test.YtfpcelmekfdafaaDoorRows
import GoSem.ClaimSeven
namespace Go.Proofs.YtfpcelmekfdafaaDoor
namespace Rows

/-- THE TIED CARD OF 'speakeasylaw08.SignHigh'. -/
def signHighCard : Claim7 := { stood := { row := signHighRow, standIns := [], harness := (true, "22432f387ef651682f3aa4fb86486cbb80799ea86354cc41aeeac3fae6422b11"), looks := false }, kinds := [], alts := [], laidByText := true, laidKinds := [.data, .data, .data], laidTests := true, laidLooks := .later }
def SignHighCardSaid : Prop := Claim7.holds Tryd.pinned (.plain (OpenSpec.ofChange signHighSpec)) signHighCard

/-- THE SECOND FORM's CARD OF 'speakeasylaw08.SignHigh'. -/
def signHighUptoCard : Claim7 := { stood := { row := signHighUptoRow, standIns := [], harness := (true, "22432f387ef651682f3aa4fb86486cbb80799ea86354cc41aeeac3fae6422b11"), looks := false }, kinds := [], alts := [], laidByText := true, laidKinds := [.data, .data, .data], laidTests := true, laidLooks := .later }
def SignHighUptoCardSaid : Prop := Claim7.holds Tryd.pinned (.plain (OpenSpec.upto signHighSpec)) signHighUptoCard
end Rows
end Go.Proofs.YtfpcelmekfdafaaDoor
