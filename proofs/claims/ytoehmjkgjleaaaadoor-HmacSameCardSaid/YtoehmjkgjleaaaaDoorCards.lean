/-
  DERIVED. GIVEN WITH THE SEED: THE CARDS: each row of YtoehmjkgjleaaaaDoorRows.lean that lists a variable, with what it lists TIED to the program's text (the seventh form; the later family's looks); each row that meets fmt, with fmt's text TOLD by the authors' own Lean function (tested against real Go, not proved from fmt's source: count such statements apart). THE CARD IS WHAT COUNTS. Prove the row's statement (the work); the ties are given (YtoehmjkgjleaaaaDoorTie.lean); close each card by the builder's one call (the guide's Derived/Test/ToyasCard.lean, 'card_holds'). Laid BY PROGRAM, IN A SANDBOX (cutbox-door.mjs). By AI agents, Wed Nov 11 2026. No macro, syntax, notation, axiom, sorry.
-/
import Derived.Test.YtoehmjkgjleaaaaDoorRows
import GoSem.ClaimSeven
namespace Go.Proofs.YtoehmjkgjleaaaaDoor
namespace Rows

/-- THE TIED CARD OF 'speakeasylaw01.ShaSums'. -/
def shaSumsCard : Claim7 := { stood := { row := shaSumsRow, standIns := [], harness := (true, "b80e3bf2f04372226300c0827a1f2cdf4ab085e3d5d4f4c782a34724222d4690"), looks := false }, kinds := [], alts := [], laidByText := true, laidKinds := [.data, .data], laidTests := true, laidLooks := .later }
def ShaSumsCardSaid : Prop := Claim7.holds Tryd.pinned (.plain (OpenSpec.ofChange shaSumsSpec)) shaSumsCard

/-- THE TIED CARD OF 'speakeasylaw01.ShaParts'. -/
def shaPartsCard : Claim7 := { stood := { row := shaPartsRow, standIns := [], harness := (true, "b80e3bf2f04372226300c0827a1f2cdf4ab085e3d5d4f4c782a34724222d4690"), looks := false }, kinds := [], alts := [], laidByText := true, laidKinds := [.data, .data], laidTests := true, laidLooks := .later }
def ShaPartsCardSaid : Prop := Claim7.holds Tryd.pinned (.plain (OpenSpec.ofChange shaPartsSpec)) shaPartsCard

/-- THE TIED CARD OF 'speakeasylaw01.ShaEnds'. -/
def shaEndsCard : Claim7 := { stood := { row := shaEndsRow, standIns := [], harness := (true, "b80e3bf2f04372226300c0827a1f2cdf4ab085e3d5d4f4c782a34724222d4690"), looks := false }, kinds := [], alts := [], laidByText := true, laidKinds := [.data, .data], laidTests := true, laidLooks := .later }
def ShaEndsCardSaid : Prop := Claim7.holds Tryd.pinned (.plain (OpenSpec.ofChange shaEndsSpec)) shaEndsCard

/-- THE TIED CARD OF 'speakeasylaw01.ShaHex'. -/
def shaHexCard : Claim7 := { stood := { row := shaHexRow, standIns := [], harness := (true, "b80e3bf2f04372226300c0827a1f2cdf4ab085e3d5d4f4c782a34724222d4690"), looks := false }, kinds := [], alts := [], laidByText := true, laidKinds := [.data, .data], laidTests := true, laidLooks := .later }
def ShaHexCardSaid : Prop := Claim7.holds Tryd.pinned (.plain (OpenSpec.ofChange shaHexSpec)) shaHexCard

/-- THE TIED CARD OF 'speakeasylaw02.HmacSums'. -/
def hmacSumsCard : Claim7 := { stood := { row := hmacSumsRow, standIns := [], harness := (true, "b80e3bf2f04372226300c0827a1f2cdf4ab085e3d5d4f4c782a34724222d4690"), looks := false }, kinds := [], alts := [], laidByText := true, laidKinds := [.data, .data], laidTests := true, laidLooks := .later }
def HmacSumsCardSaid : Prop := Claim7.holds Tryd.pinned (.plain (OpenSpec.ofChange hmacSumsSpec)) hmacSumsCard

/-- THE TIED CARD OF 'speakeasylaw02.HmacSame'. -/
def hmacSameCard : Claim7 := { stood := { row := hmacSameRow, standIns := [], harness := (true, "b80e3bf2f04372226300c0827a1f2cdf4ab085e3d5d4f4c782a34724222d4690"), looks := false }, kinds := [], alts := [], laidByText := true, laidKinds := [.data, .data], laidTests := true, laidLooks := .later }
def HmacSameCardSaid : Prop := Claim7.holds Tryd.pinned (.plain (OpenSpec.ofChange hmacSameSpec)) hmacSameCard

/-- THE TIED CARD OF 'speakeasylaw02.HmacSpreads'. -/
def hmacSpreadsCard : Claim7 := { stood := { row := hmacSpreadsRow, standIns := [], harness := (true, "b80e3bf2f04372226300c0827a1f2cdf4ab085e3d5d4f4c782a34724222d4690"), looks := false }, kinds := [], alts := [], laidByText := true, laidKinds := [.data, .data], laidTests := true, laidLooks := .later }
def HmacSpreadsCardSaid : Prop := Claim7.holds Tryd.pinned (.plain (OpenSpec.ofChange hmacSpreadsSpec)) hmacSpreadsCard

/-- THE SECOND FORM's CARD OF 'speakeasylaw01.ShaSums'. -/
def shaSumsUptoCard : Claim7 := { stood := { row := shaSumsUptoRow, standIns := [], harness := (true, "b80e3bf2f04372226300c0827a1f2cdf4ab085e3d5d4f4c782a34724222d4690"), looks := false }, kinds := [], alts := [], laidByText := true, laidKinds := [.data, .data], laidTests := true, laidLooks := .later }
def ShaSumsUptoCardSaid : Prop := Claim7.holds Tryd.pinned (.plain (OpenSpec.upto shaSumsSpec)) shaSumsUptoCard

/-- THE SECOND FORM's CARD OF 'speakeasylaw01.ShaParts'. -/
def shaPartsUptoCard : Claim7 := { stood := { row := shaPartsUptoRow, standIns := [], harness := (true, "b80e3bf2f04372226300c0827a1f2cdf4ab085e3d5d4f4c782a34724222d4690"), looks := false }, kinds := [], alts := [], laidByText := true, laidKinds := [.data, .data], laidTests := true, laidLooks := .later }
def ShaPartsUptoCardSaid : Prop := Claim7.holds Tryd.pinned (.plain (OpenSpec.upto shaPartsSpec)) shaPartsUptoCard

/-- THE SECOND FORM's CARD OF 'speakeasylaw01.ShaEnds'. -/
def shaEndsUptoCard : Claim7 := { stood := { row := shaEndsUptoRow, standIns := [], harness := (true, "b80e3bf2f04372226300c0827a1f2cdf4ab085e3d5d4f4c782a34724222d4690"), looks := false }, kinds := [], alts := [], laidByText := true, laidKinds := [.data, .data], laidTests := true, laidLooks := .later }
def ShaEndsUptoCardSaid : Prop := Claim7.holds Tryd.pinned (.plain (OpenSpec.upto shaEndsSpec)) shaEndsUptoCard

/-- THE SECOND FORM's CARD OF 'speakeasylaw01.ShaHex'. -/
def shaHexUptoCard : Claim7 := { stood := { row := shaHexUptoRow, standIns := [], harness := (true, "b80e3bf2f04372226300c0827a1f2cdf4ab085e3d5d4f4c782a34724222d4690"), looks := false }, kinds := [], alts := [], laidByText := true, laidKinds := [.data, .data], laidTests := true, laidLooks := .later }
def ShaHexUptoCardSaid : Prop := Claim7.holds Tryd.pinned (.plain (OpenSpec.upto shaHexSpec)) shaHexUptoCard

/-- THE SECOND FORM's CARD OF 'speakeasylaw02.HmacSums'. -/
def hmacSumsUptoCard : Claim7 := { stood := { row := hmacSumsUptoRow, standIns := [], harness := (true, "b80e3bf2f04372226300c0827a1f2cdf4ab085e3d5d4f4c782a34724222d4690"), looks := false }, kinds := [], alts := [], laidByText := true, laidKinds := [.data, .data], laidTests := true, laidLooks := .later }
def HmacSumsUptoCardSaid : Prop := Claim7.holds Tryd.pinned (.plain (OpenSpec.upto hmacSumsSpec)) hmacSumsUptoCard

/-- THE SECOND FORM's CARD OF 'speakeasylaw02.HmacSame'. -/
def hmacSameUptoCard : Claim7 := { stood := { row := hmacSameUptoRow, standIns := [], harness := (true, "b80e3bf2f04372226300c0827a1f2cdf4ab085e3d5d4f4c782a34724222d4690"), looks := false }, kinds := [], alts := [], laidByText := true, laidKinds := [.data, .data], laidTests := true, laidLooks := .later }
def HmacSameUptoCardSaid : Prop := Claim7.holds Tryd.pinned (.plain (OpenSpec.upto hmacSameSpec)) hmacSameUptoCard

/-- THE SECOND FORM's CARD OF 'speakeasylaw02.HmacSpreads'. -/
def hmacSpreadsUptoCard : Claim7 := { stood := { row := hmacSpreadsUptoRow, standIns := [], harness := (true, "b80e3bf2f04372226300c0827a1f2cdf4ab085e3d5d4f4c782a34724222d4690"), looks := false }, kinds := [], alts := [], laidByText := true, laidKinds := [.data, .data], laidTests := true, laidLooks := .later }
def HmacSpreadsUptoCardSaid : Prop := Claim7.holds Tryd.pinned (.plain (OpenSpec.upto hmacSpreadsSpec)) hmacSpreadsUptoCard
end Rows
end Go.Proofs.YtoehmjkgjleaaaaDoor
