/-
  DERIVED. GIVEN WITH THE SEED: THE CARDS: each row of YtfaeigbfnjkojaaGreatDoorRows.lean that lists a variable, with what it lists TIED to the program's text (the seventh form; the later family's looks); each row that meets fmt, with fmt's text TOLD by the authors' own Lean function (tested against real Go, not proved from fmt's source: count such statements apart). THE CARD IS WHAT COUNTS. Prove the row's statement (the work); the ties are given (YtfaeigbfnjkojaaGreatDoorTie.lean); close each card by the builder's one call (the guide's Derived/Test/ToyasCard.lean, 'card_holds'). Laid BY PROGRAM, IN A SANDBOX (cutbox-door.mjs). By AI agents, Wed Nov 11 2026. No macro, syntax, notation, axiom, sorry.
-/
import Derived.Test.YtfaeigbfnjkojaaGreatDoorRows
import GoSem.ClaimSeven
namespace Go.Proofs.YtfaeigbfnjkojaaGreatDoor
namespace Rows

/-- THE TIED CARD OF 'speakeasylaw14.KexShares'. -/
def kexSharesCard : Claim7 := { stood := { row := kexSharesRow, standIns := [], harness := (true, "ee1e392e497739fc111089d1ab0cb50d2b4fa01322e3dbfc0132272d494c3168"), looks := true }, kinds := [], alts := [], laidByText := true, laidKinds := [.data, .handle, .sentinel, .sentinel, .sentinel, .sentinel, .sentinel, .sentinel, .sentinel, .sentinel, .sentinel, .sentinel, .sentinel, .sentinel, .sentinel, .sentinel, .sentinel, .sentinel, .sentinel, .sentinel, .sentinel, .sentinel, .data, .data, .pinned], laidTests := true, laidLooks := .later }
def KexSharesCardSaid : Prop := Claim7.holds Tryz.pinned (.plain (OpenSpec.ofChange kexSharesSpec)) kexSharesCard

/-- THE TIED CARD OF 'speakeasylaw14.KexDerives'. -/
def kexDerivesCard : Claim7 := { stood := { row := kexDerivesRow, standIns := [], harness := (true, "ee1e392e497739fc111089d1ab0cb50d2b4fa01322e3dbfc0132272d494c3168"), looks := true }, kinds := [], alts := [], laidByText := true, laidKinds := [.data, .handle, .sentinel, .sentinel, .sentinel, .sentinel, .sentinel, .sentinel, .sentinel, .sentinel, .sentinel, .sentinel, .sentinel, .sentinel, .sentinel, .sentinel, .sentinel, .sentinel, .sentinel, .sentinel, .sentinel, .sentinel, .data, .data, .pinned], laidTests := true, laidLooks := .later }
def KexDerivesCardSaid : Prop := Claim7.holds Tryz.pinned (.plain (OpenSpec.ofChange kexDerivesSpec)) kexDerivesCard

/-- THE TIED CARD OF 'speakeasylaw14.KexHashes'. -/
def kexHashesCard : Claim7 := { stood := { row := kexHashesRow, standIns := [], harness := (true, "ee1e392e497739fc111089d1ab0cb50d2b4fa01322e3dbfc0132272d494c3168"), looks := true }, kinds := [], alts := [], laidByText := true, laidKinds := [.data, .handle, .sentinel, .sentinel, .sentinel, .sentinel, .sentinel, .sentinel, .sentinel, .sentinel, .sentinel, .sentinel, .sentinel, .sentinel, .sentinel, .sentinel, .sentinel, .sentinel, .sentinel, .sentinel, .sentinel, .sentinel, .data, .data, .pinned], laidTests := true, laidLooks := .later }
def KexHashesCardSaid : Prop := Claim7.holds Tryz.pinned (.plain (OpenSpec.ofChange kexHashesSpec)) kexHashesCard

/-- THE TIED CARD OF 'speakeasylaw14.KexTwo'. -/
def kexTwoCard : Claim7 := { stood := { row := kexTwoRow, standIns := [], harness := (true, "ee1e392e497739fc111089d1ab0cb50d2b4fa01322e3dbfc0132272d494c3168"), looks := true }, kinds := [], alts := [], laidByText := true, laidKinds := [.data, .handle, .sentinel, .sentinel, .sentinel, .sentinel, .sentinel, .sentinel, .sentinel, .sentinel, .sentinel, .sentinel, .sentinel, .sentinel, .sentinel, .sentinel, .sentinel, .sentinel, .sentinel, .sentinel, .sentinel, .sentinel, .data, .data, .pinned], laidTests := true, laidLooks := .later }
def KexTwoCardSaid : Prop := Claim7.holds Tryz.pinned (.plain (OpenSpec.ofChange kexTwoSpec)) kexTwoCard

/-- THE SECOND FORM's CARD OF 'speakeasylaw14.KexShares'. -/
def kexSharesUptoCard : Claim7 := { stood := { row := kexSharesUptoRow, standIns := [], harness := (true, "ee1e392e497739fc111089d1ab0cb50d2b4fa01322e3dbfc0132272d494c3168"), looks := true }, kinds := [], alts := [], laidByText := true, laidKinds := [.data, .handle, .sentinel, .sentinel, .sentinel, .sentinel, .sentinel, .sentinel, .sentinel, .sentinel, .sentinel, .sentinel, .sentinel, .sentinel, .sentinel, .sentinel, .sentinel, .sentinel, .sentinel, .sentinel, .sentinel, .sentinel, .data, .data, .pinned], laidTests := true, laidLooks := .later }
def KexSharesUptoCardSaid : Prop := Claim7.holds Tryz.pinned (.plain (OpenSpec.upto kexSharesSpec)) kexSharesUptoCard

/-- THE SECOND FORM's CARD OF 'speakeasylaw14.KexDerives'. -/
def kexDerivesUptoCard : Claim7 := { stood := { row := kexDerivesUptoRow, standIns := [], harness := (true, "ee1e392e497739fc111089d1ab0cb50d2b4fa01322e3dbfc0132272d494c3168"), looks := true }, kinds := [], alts := [], laidByText := true, laidKinds := [.data, .handle, .sentinel, .sentinel, .sentinel, .sentinel, .sentinel, .sentinel, .sentinel, .sentinel, .sentinel, .sentinel, .sentinel, .sentinel, .sentinel, .sentinel, .sentinel, .sentinel, .sentinel, .sentinel, .sentinel, .sentinel, .data, .data, .pinned], laidTests := true, laidLooks := .later }
def KexDerivesUptoCardSaid : Prop := Claim7.holds Tryz.pinned (.plain (OpenSpec.upto kexDerivesSpec)) kexDerivesUptoCard

/-- THE SECOND FORM's CARD OF 'speakeasylaw14.KexHashes'. -/
def kexHashesUptoCard : Claim7 := { stood := { row := kexHashesUptoRow, standIns := [], harness := (true, "ee1e392e497739fc111089d1ab0cb50d2b4fa01322e3dbfc0132272d494c3168"), looks := true }, kinds := [], alts := [], laidByText := true, laidKinds := [.data, .handle, .sentinel, .sentinel, .sentinel, .sentinel, .sentinel, .sentinel, .sentinel, .sentinel, .sentinel, .sentinel, .sentinel, .sentinel, .sentinel, .sentinel, .sentinel, .sentinel, .sentinel, .sentinel, .sentinel, .sentinel, .data, .data, .pinned], laidTests := true, laidLooks := .later }
def KexHashesUptoCardSaid : Prop := Claim7.holds Tryz.pinned (.plain (OpenSpec.upto kexHashesSpec)) kexHashesUptoCard

/-- THE SECOND FORM's CARD OF 'speakeasylaw14.KexTwo'. -/
def kexTwoUptoCard : Claim7 := { stood := { row := kexTwoUptoRow, standIns := [], harness := (true, "ee1e392e497739fc111089d1ab0cb50d2b4fa01322e3dbfc0132272d494c3168"), looks := true }, kinds := [], alts := [], laidByText := true, laidKinds := [.data, .handle, .sentinel, .sentinel, .sentinel, .sentinel, .sentinel, .sentinel, .sentinel, .sentinel, .sentinel, .sentinel, .sentinel, .sentinel, .sentinel, .sentinel, .sentinel, .sentinel, .sentinel, .sentinel, .sentinel, .sentinel, .data, .data, .pinned], laidTests := true, laidLooks := .later }
def KexTwoUptoCardSaid : Prop := Claim7.holds Tryz.pinned (.plain (OpenSpec.upto kexTwoSpec)) kexTwoUptoCard
end Rows
end Go.Proofs.YtfaeigbfnjkojaaGreatDoor
