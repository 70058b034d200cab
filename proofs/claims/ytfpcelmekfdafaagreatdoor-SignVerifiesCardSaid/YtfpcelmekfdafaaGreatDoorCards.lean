/-
  DERIVED. GIVEN WITH THE SEED: THE CARDS: each row of YtfpcelmekfdafaaGreatDoorRows.lean that lists a variable, with what it lists TIED to the program's text (the seventh form; the later family's looks); each row that meets fmt, with fmt's text TOLD by the authors' own Lean function (tested against real Go, not proved from fmt's source: count such statements apart). THE CARD IS WHAT COUNTS. Prove the row's statement (the work); the ties are given (YtfpcelmekfdafaaGreatDoorTie.lean); close each card by the builder's one call (the guide's Derived/Test/ToyasCard.lean, 'card_holds'). Laid BY PROGRAM, IN A SANDBOX (cutbox-door.mjs). By AI agents, Wed Nov 11 2026. No macro, syntax, notation, axiom, sorry.
-/
import Derived.Test.YtfpcelmekfdafaaGreatDoorRows
import GoSem.ClaimSeven
namespace Go.Proofs.YtfpcelmekfdafaaGreatDoor
namespace Rows

/-- THE TIED CARD OF 'speakeasylaw08.SignKeys'. -/
def signKeysCard : Claim7 := { stood := { row := signKeysRow, standIns := [], harness := (true, "59aeca44cc3d5529885b5a3b5e72b3354c27343fafbc3cefc8386ed511498520"), looks := false }, kinds := [], alts := [], laidByText := true, laidKinds := [.data, .data, .data], laidTests := true, laidLooks := .later }
def SignKeysCardSaid : Prop := Claim7.holds Tryz.pinned (.plain (OpenSpec.ofChange signKeysSpec)) signKeysCard

/-- THE TIED CARD OF 'speakeasylaw08.SignSigns'. -/
def signSignsCard : Claim7 := { stood := { row := signSignsRow, standIns := [], harness := (true, "59aeca44cc3d5529885b5a3b5e72b3354c27343fafbc3cefc8386ed511498520"), looks := false }, kinds := [], alts := [], laidByText := true, laidKinds := [.data, .data, .data], laidTests := true, laidLooks := .later }
def SignSignsCardSaid : Prop := Claim7.holds Tryz.pinned (.plain (OpenSpec.ofChange signSignsSpec)) signSignsCard

/-- THE TIED CARD OF 'speakeasylaw08.SignVerifies'. -/
def signVerifiesCard : Claim7 := { stood := { row := signVerifiesRow, standIns := [], harness := (true, "59aeca44cc3d5529885b5a3b5e72b3354c27343fafbc3cefc8386ed511498520"), looks := false }, kinds := [], alts := [], laidByText := true, laidKinds := [.data, .data, .data], laidTests := true, laidLooks := .later }
def SignVerifiesCardSaid : Prop := Claim7.holds Tryz.pinned (.plain (OpenSpec.ofChange signVerifiesSpec)) signVerifiesCard

/-- THE TIED CARD OF 'speakeasylaw08.SignPoints'. -/
def signPointsCard : Claim7 := { stood := { row := signPointsRow, standIns := [], harness := (true, "59aeca44cc3d5529885b5a3b5e72b3354c27343fafbc3cefc8386ed511498520"), looks := false }, kinds := [], alts := [], laidByText := true, laidKinds := [.data, .data, .data], laidTests := true, laidLooks := .later }
def SignPointsCardSaid : Prop := Claim7.holds Tryz.pinned (.plain (OpenSpec.ofChange signPointsSpec)) signPointsCard

/-- THE SECOND FORM's CARD OF 'speakeasylaw08.SignKeys'. -/
def signKeysUptoCard : Claim7 := { stood := { row := signKeysUptoRow, standIns := [], harness := (true, "59aeca44cc3d5529885b5a3b5e72b3354c27343fafbc3cefc8386ed511498520"), looks := false }, kinds := [], alts := [], laidByText := true, laidKinds := [.data, .data, .data], laidTests := true, laidLooks := .later }
def SignKeysUptoCardSaid : Prop := Claim7.holds Tryz.pinned (.plain (OpenSpec.upto signKeysSpec)) signKeysUptoCard

/-- THE SECOND FORM's CARD OF 'speakeasylaw08.SignSigns'. -/
def signSignsUptoCard : Claim7 := { stood := { row := signSignsUptoRow, standIns := [], harness := (true, "59aeca44cc3d5529885b5a3b5e72b3354c27343fafbc3cefc8386ed511498520"), looks := false }, kinds := [], alts := [], laidByText := true, laidKinds := [.data, .data, .data], laidTests := true, laidLooks := .later }
def SignSignsUptoCardSaid : Prop := Claim7.holds Tryz.pinned (.plain (OpenSpec.upto signSignsSpec)) signSignsUptoCard

/-- THE SECOND FORM's CARD OF 'speakeasylaw08.SignVerifies'. -/
def signVerifiesUptoCard : Claim7 := { stood := { row := signVerifiesUptoRow, standIns := [], harness := (true, "59aeca44cc3d5529885b5a3b5e72b3354c27343fafbc3cefc8386ed511498520"), looks := false }, kinds := [], alts := [], laidByText := true, laidKinds := [.data, .data, .data], laidTests := true, laidLooks := .later }
def SignVerifiesUptoCardSaid : Prop := Claim7.holds Tryz.pinned (.plain (OpenSpec.upto signVerifiesSpec)) signVerifiesUptoCard

/-- THE SECOND FORM's CARD OF 'speakeasylaw08.SignPoints'. -/
def signPointsUptoCard : Claim7 := { stood := { row := signPointsUptoRow, standIns := [], harness := (true, "59aeca44cc3d5529885b5a3b5e72b3354c27343fafbc3cefc8386ed511498520"), looks := false }, kinds := [], alts := [], laidByText := true, laidKinds := [.data, .data, .data], laidTests := true, laidLooks := .later }
def SignPointsUptoCardSaid : Prop := Claim7.holds Tryz.pinned (.plain (OpenSpec.upto signPointsSpec)) signPointsUptoCard
end Rows
end Go.Proofs.YtfpcelmekfdafaaGreatDoor
