/-
  DERIVED. GIVEN WITH THE SEED: THE CARDS: each row of YtfcemnebhapidaaDoorRows.lean that lists a variable, with what it lists TIED to the program's text (the seventh form; the later family's looks); each row that meets fmt, with fmt's text TOLD by the authors' own Lean function (tested against real Go, not proved from fmt's source: count such statements apart). THE CARD IS WHAT COUNTS. Prove the row's statement (the work); the ties are given (YtfcemnebhapidaaDoorTie.lean); close each card by the builder's one call (the guide's Derived/Test/ToyasCard.lean, 'card_holds'). Laid BY PROGRAM, IN A SANDBOX (cutbox-door.mjs). By AI agents, Wed Nov 11 2026. No macro, syntax, notation, axiom, sorry.
-/
import Derived.Test.YtfcemnebhapidaaDoorRows
import GoSem.ClaimSeven
namespace Go.Proofs.YtfcemnebhapidaaDoor
namespace Rows

/-- THE TIED CARD OF 'speakeasylaw31.TermGrows'. -/
def termGrowsCard : Claim7 := { stood := { row := termGrowsRow, standIns := [], harness := (true, "957d65193945b2e2c55ca40282c9844e6cb9e33b1b88f14bc5923d5dd2fc6a02"), looks := true }, kinds := [], alts := [], laidByText := true, laidKinds := [.sentinel, .sentinel, .sentinel], laidTests := true, laidLooks := .later }
def TermGrowsCardSaid : Prop := Claim7.holds Tryd.pinned (.plain (OpenSpec.ofChange termGrowsSpec)) termGrowsCard

/-- THE TIED CARD OF 'speakeasylaw31.TermFresh'. -/
def termFreshCard : Claim7 := { stood := { row := termFreshRow, standIns := [], harness := (true, "957d65193945b2e2c55ca40282c9844e6cb9e33b1b88f14bc5923d5dd2fc6a02"), looks := true }, kinds := [], alts := [], laidByText := true, laidKinds := [.sentinel, .sentinel, .sentinel], laidTests := true, laidLooks := .later }
def TermFreshCardSaid : Prop := Claim7.holds Tryd.pinned (.plain (OpenSpec.ofChange termFreshSpec)) termFreshCard

/-- THE TIED CARD OF 'speakeasylaw31.TermDerives'. -/
def termDerivesCard : Claim7 := { stood := { row := termDerivesRow, standIns := [], harness := (true, "957d65193945b2e2c55ca40282c9844e6cb9e33b1b88f14bc5923d5dd2fc6a02"), looks := true }, kinds := [], alts := [], laidByText := true, laidKinds := [.sentinel, .sentinel, .sentinel, .sentinel, .sentinel, .sentinel, .sentinel, .sentinel, .sentinel, .sentinel, .sentinel, .sentinel, .sentinel, .sentinel, .sentinel, .sentinel, .sentinel, .sentinel, .sentinel, .sentinel], laidTests := true, laidLooks := .later }
def TermDerivesCardSaid : Prop := Claim7.holds Tryd.pinned (.plain (OpenSpec.ofChange termDerivesSpec)) termDerivesCard

/-- THE TIED CARD OF 'speakeasylaw31.TermFull'. -/
def termFullCard : Claim7 := { stood := { row := termFullRow, standIns := [], harness := (true, "957d65193945b2e2c55ca40282c9844e6cb9e33b1b88f14bc5923d5dd2fc6a02"), looks := true }, kinds := [], alts := [], laidByText := true, laidKinds := [.sentinel, .sentinel, .sentinel, .sentinel, .sentinel, .sentinel, .sentinel, .sentinel, .sentinel, .sentinel, .sentinel, .sentinel, .sentinel, .sentinel, .sentinel, .sentinel, .sentinel, .sentinel, .sentinel, .sentinel], laidTests := true, laidLooks := .later }
def TermFullCardSaid : Prop := Claim7.holds Tryd.pinned (.plain (OpenSpec.ofChange termFullSpec)) termFullCard

/-- THE TIED CARD OF 'speakeasylaw31.TermReads'. -/
def termReadsCard : Claim7 := { stood := { row := termReadsRow, standIns := [], harness := (true, "957d65193945b2e2c55ca40282c9844e6cb9e33b1b88f14bc5923d5dd2fc6a02"), looks := true }, kinds := [], alts := [], laidByText := true, laidKinds := [.sentinel, .sentinel, .sentinel, .sentinel, .sentinel, .sentinel, .sentinel, .sentinel, .sentinel, .sentinel, .sentinel, .sentinel, .sentinel, .sentinel, .sentinel, .sentinel, .sentinel, .sentinel, .sentinel, .sentinel], laidTests := true, laidLooks := .later }
def TermReadsCardSaid : Prop := Claim7.holds Tryd.pinned (.plain (OpenSpec.ofChange termReadsSpec)) termReadsCard

/-- THE TIED CARD OF 'speakeasylaw31.TermMakes'. -/
def termMakesCard : Claim7 := { stood := { row := termMakesRow, standIns := [], harness := (true, "957d65193945b2e2c55ca40282c9844e6cb9e33b1b88f14bc5923d5dd2fc6a02"), looks := true }, kinds := [], alts := [], laidByText := true, laidKinds := [.sentinel, .sentinel, .sentinel, .sentinel, .sentinel, .sentinel, .sentinel, .sentinel, .sentinel, .sentinel, .sentinel, .sentinel, .sentinel, .sentinel, .sentinel, .sentinel, .sentinel, .sentinel, .sentinel, .sentinel], laidTests := true, laidLooks := .later }
def TermMakesCardSaid : Prop := Claim7.holds Tryd.pinned (.plain (OpenSpec.ofChange termMakesSpec)) termMakesCard

/-- THE SECOND FORM's CARD OF 'speakeasylaw31.TermGrows'. -/
def termGrowsUptoCard : Claim7 := { stood := { row := termGrowsUptoRow, standIns := [], harness := (true, "957d65193945b2e2c55ca40282c9844e6cb9e33b1b88f14bc5923d5dd2fc6a02"), looks := true }, kinds := [], alts := [], laidByText := true, laidKinds := [.sentinel, .sentinel, .sentinel], laidTests := true, laidLooks := .later }
def TermGrowsUptoCardSaid : Prop := Claim7.holds Tryd.pinned (.plain (OpenSpec.upto termGrowsSpec)) termGrowsUptoCard

/-- THE SECOND FORM's CARD OF 'speakeasylaw31.TermFresh'. -/
def termFreshUptoCard : Claim7 := { stood := { row := termFreshUptoRow, standIns := [], harness := (true, "957d65193945b2e2c55ca40282c9844e6cb9e33b1b88f14bc5923d5dd2fc6a02"), looks := true }, kinds := [], alts := [], laidByText := true, laidKinds := [.sentinel, .sentinel, .sentinel], laidTests := true, laidLooks := .later }
def TermFreshUptoCardSaid : Prop := Claim7.holds Tryd.pinned (.plain (OpenSpec.upto termFreshSpec)) termFreshUptoCard

/-- THE SECOND FORM's CARD OF 'speakeasylaw31.TermDerives'. -/
def termDerivesUptoCard : Claim7 := { stood := { row := termDerivesUptoRow, standIns := [], harness := (true, "957d65193945b2e2c55ca40282c9844e6cb9e33b1b88f14bc5923d5dd2fc6a02"), looks := true }, kinds := [], alts := [], laidByText := true, laidKinds := [.sentinel, .sentinel, .sentinel, .sentinel, .sentinel, .sentinel, .sentinel, .sentinel, .sentinel, .sentinel, .sentinel, .sentinel, .sentinel, .sentinel, .sentinel, .sentinel, .sentinel, .sentinel, .sentinel, .sentinel], laidTests := true, laidLooks := .later }
def TermDerivesUptoCardSaid : Prop := Claim7.holds Tryd.pinned (.plain (OpenSpec.upto termDerivesSpec)) termDerivesUptoCard

/-- THE SECOND FORM's CARD OF 'speakeasylaw31.TermFull'. -/
def termFullUptoCard : Claim7 := { stood := { row := termFullUptoRow, standIns := [], harness := (true, "957d65193945b2e2c55ca40282c9844e6cb9e33b1b88f14bc5923d5dd2fc6a02"), looks := true }, kinds := [], alts := [], laidByText := true, laidKinds := [.sentinel, .sentinel, .sentinel, .sentinel, .sentinel, .sentinel, .sentinel, .sentinel, .sentinel, .sentinel, .sentinel, .sentinel, .sentinel, .sentinel, .sentinel, .sentinel, .sentinel, .sentinel, .sentinel, .sentinel], laidTests := true, laidLooks := .later }
def TermFullUptoCardSaid : Prop := Claim7.holds Tryd.pinned (.plain (OpenSpec.upto termFullSpec)) termFullUptoCard

/-- THE SECOND FORM's CARD OF 'speakeasylaw31.TermReads'. -/
def termReadsUptoCard : Claim7 := { stood := { row := termReadsUptoRow, standIns := [], harness := (true, "957d65193945b2e2c55ca40282c9844e6cb9e33b1b88f14bc5923d5dd2fc6a02"), looks := true }, kinds := [], alts := [], laidByText := true, laidKinds := [.sentinel, .sentinel, .sentinel, .sentinel, .sentinel, .sentinel, .sentinel, .sentinel, .sentinel, .sentinel, .sentinel, .sentinel, .sentinel, .sentinel, .sentinel, .sentinel, .sentinel, .sentinel, .sentinel, .sentinel], laidTests := true, laidLooks := .later }
def TermReadsUptoCardSaid : Prop := Claim7.holds Tryd.pinned (.plain (OpenSpec.upto termReadsSpec)) termReadsUptoCard

/-- THE SECOND FORM's CARD OF 'speakeasylaw31.TermMakes'. -/
def termMakesUptoCard : Claim7 := { stood := { row := termMakesUptoRow, standIns := [], harness := (true, "957d65193945b2e2c55ca40282c9844e6cb9e33b1b88f14bc5923d5dd2fc6a02"), looks := true }, kinds := [], alts := [], laidByText := true, laidKinds := [.sentinel, .sentinel, .sentinel, .sentinel, .sentinel, .sentinel, .sentinel, .sentinel, .sentinel, .sentinel, .sentinel, .sentinel, .sentinel, .sentinel, .sentinel, .sentinel, .sentinel, .sentinel, .sentinel, .sentinel], laidTests := true, laidLooks := .later }
def TermMakesUptoCardSaid : Prop := Claim7.holds Tryd.pinned (.plain (OpenSpec.upto termMakesSpec)) termMakesUptoCard
end Rows
end Go.Proofs.YtfcemnebhapidaaDoor
