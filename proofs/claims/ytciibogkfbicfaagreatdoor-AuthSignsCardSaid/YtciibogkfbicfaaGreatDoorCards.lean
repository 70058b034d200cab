/-
  DERIVED. GIVEN WITH THE SEED: THE CARDS: each row of YtciibogkfbicfaaGreatDoorRows.lean that lists a variable, with what it lists TIED to the program's text (the seventh form; the later family's looks); each row that meets fmt, with fmt's text TOLD by the authors' own Lean function (tested against real Go, not proved from fmt's source: count such statements apart). THE CARD IS WHAT COUNTS. Prove the row's statement (the work); the ties are given (YtciibogkfbicfaaGreatDoorTie.lean); close each card by the builder's one call (the guide's Derived/Test/ToyasCard.lean, 'card_holds'). Laid BY PROGRAM, IN A SANDBOX (cutbox-door.mjs). By AI agents, Wed Nov 11 2026. No macro, syntax, notation, axiom, sorry.
-/
import Derived.Test.YtciibogkfbicfaaGreatDoorRows
import GoSem.ClaimSeven
namespace Go.Proofs.YtciibogkfbicfaaGreatDoor
namespace Rows

/-- THE TIED CARD OF 'speakeasylaw17.AuthSigns'. -/
def authSignsCard : Claim7 := { stood := { row := authSignsRow, standIns := [], harness := (true, "ffa6764fb31d5649193e7fdf525d4f88c3baf0610f919232014e792020570b3e"), looks := true }, kinds := [], alts := [], laidByText := true, laidKinds := [.data, .sentinel, .sentinel, .sentinel, .sentinel, .sentinel, .sentinel, .sentinel, .sentinel, .sentinel, .sentinel, .sentinel, .sentinel, .sentinel, .sentinel, .data, .data, .data], laidTests := true, laidLooks := .later }
def AuthSignsCardSaid : Prop := Claim7.holds Tryz.pinned (.plain (OpenSpec.ofChange authSignsSpec)) authSignsCard

/-- THE TIED CARD OF 'speakeasylaw17.AuthRevoked'. -/
def authRevokedCard : Claim7 := { stood := { row := authRevokedRow, standIns := [], harness := (true, "ffa6764fb31d5649193e7fdf525d4f88c3baf0610f919232014e792020570b3e"), looks := true }, kinds := [], alts := [], laidByText := true, laidKinds := [.data, .sentinel, .sentinel, .sentinel, .sentinel, .sentinel, .sentinel, .sentinel, .sentinel, .sentinel, .sentinel, .sentinel, .sentinel, .sentinel, .sentinel, .data, .data, .data], laidTests := true, laidLooks := .later }
def AuthRevokedCardSaid : Prop := Claim7.holds Tryz.pinned (.plain (OpenSpec.ofChange authRevokedSpec)) authRevokedCard

/-- THE TIED CARD OF 'speakeasylaw17.AuthAny'. -/
def authAnyCard : Claim7 := { stood := { row := authAnyRow, standIns := [], harness := (true, "ffa6764fb31d5649193e7fdf525d4f88c3baf0610f919232014e792020570b3e"), looks := true }, kinds := [], alts := [], laidByText := true, laidKinds := [.data, .sentinel, .sentinel, .sentinel, .sentinel, .sentinel, .sentinel, .sentinel, .sentinel, .sentinel, .sentinel, .sentinel, .sentinel, .sentinel, .sentinel, .sentinel, .sentinel, .sentinel, .sentinel, .sentinel, .sentinel, .data, .data, .data], laidTests := true, laidLooks := .later }
def AuthAnyCardSaid : Prop := Claim7.holds Tryz.pinned (.plain (OpenSpec.ofChange authAnySpec)) authAnyCard

/-- THE TIED CARD OF 'speakeasylaw17.AuthPlays'. -/
def authPlaysCard : Claim7 := { stood := { row := authPlaysRow, standIns := [], harness := (true, "ffa6764fb31d5649193e7fdf525d4f88c3baf0610f919232014e792020570b3e"), looks := true }, kinds := [], alts := [], laidByText := true, laidKinds := [.data, .sentinel, .sentinel, .sentinel, .sentinel, .sentinel, .sentinel, .sentinel, .sentinel, .sentinel, .sentinel, .sentinel, .sentinel, .sentinel, .sentinel, .sentinel, .sentinel, .sentinel, .sentinel, .sentinel, .sentinel, .data, .data, .data], laidTests := true, laidLooks := .later }
def AuthPlaysCardSaid : Prop := Claim7.holds Tryz.pinned (.plain (OpenSpec.ofChange authPlaysSpec)) authPlaysCard

/-- THE SECOND FORM's CARD OF 'speakeasylaw17.AuthSigns'. -/
def authSignsUptoCard : Claim7 := { stood := { row := authSignsUptoRow, standIns := [], harness := (true, "ffa6764fb31d5649193e7fdf525d4f88c3baf0610f919232014e792020570b3e"), looks := true }, kinds := [], alts := [], laidByText := true, laidKinds := [.data, .sentinel, .sentinel, .sentinel, .sentinel, .sentinel, .sentinel, .sentinel, .sentinel, .sentinel, .sentinel, .sentinel, .sentinel, .sentinel, .sentinel, .data, .data, .data], laidTests := true, laidLooks := .later }
def AuthSignsUptoCardSaid : Prop := Claim7.holds Tryz.pinned (.plain (OpenSpec.upto authSignsSpec)) authSignsUptoCard

/-- THE SECOND FORM's CARD OF 'speakeasylaw17.AuthRevoked'. -/
def authRevokedUptoCard : Claim7 := { stood := { row := authRevokedUptoRow, standIns := [], harness := (true, "ffa6764fb31d5649193e7fdf525d4f88c3baf0610f919232014e792020570b3e"), looks := true }, kinds := [], alts := [], laidByText := true, laidKinds := [.data, .sentinel, .sentinel, .sentinel, .sentinel, .sentinel, .sentinel, .sentinel, .sentinel, .sentinel, .sentinel, .sentinel, .sentinel, .sentinel, .sentinel, .data, .data, .data], laidTests := true, laidLooks := .later }
def AuthRevokedUptoCardSaid : Prop := Claim7.holds Tryz.pinned (.plain (OpenSpec.upto authRevokedSpec)) authRevokedUptoCard

/-- THE SECOND FORM's CARD OF 'speakeasylaw17.AuthAny'. -/
def authAnyUptoCard : Claim7 := { stood := { row := authAnyUptoRow, standIns := [], harness := (true, "ffa6764fb31d5649193e7fdf525d4f88c3baf0610f919232014e792020570b3e"), looks := true }, kinds := [], alts := [], laidByText := true, laidKinds := [.data, .sentinel, .sentinel, .sentinel, .sentinel, .sentinel, .sentinel, .sentinel, .sentinel, .sentinel, .sentinel, .sentinel, .sentinel, .sentinel, .sentinel, .sentinel, .sentinel, .sentinel, .sentinel, .sentinel, .sentinel, .data, .data, .data], laidTests := true, laidLooks := .later }
def AuthAnyUptoCardSaid : Prop := Claim7.holds Tryz.pinned (.plain (OpenSpec.upto authAnySpec)) authAnyUptoCard

/-- THE SECOND FORM's CARD OF 'speakeasylaw17.AuthPlays'. -/
def authPlaysUptoCard : Claim7 := { stood := { row := authPlaysUptoRow, standIns := [], harness := (true, "ffa6764fb31d5649193e7fdf525d4f88c3baf0610f919232014e792020570b3e"), looks := true }, kinds := [], alts := [], laidByText := true, laidKinds := [.data, .sentinel, .sentinel, .sentinel, .sentinel, .sentinel, .sentinel, .sentinel, .sentinel, .sentinel, .sentinel, .sentinel, .sentinel, .sentinel, .sentinel, .sentinel, .sentinel, .sentinel, .sentinel, .sentinel, .sentinel, .data, .data, .data], laidTests := true, laidLooks := .later }
def AuthPlaysUptoCardSaid : Prop := Claim7.holds Tryz.pinned (.plain (OpenSpec.upto authPlaysSpec)) authPlaysUptoCard
end Rows
end Go.Proofs.YtciibogkfbicfaaGreatDoor
