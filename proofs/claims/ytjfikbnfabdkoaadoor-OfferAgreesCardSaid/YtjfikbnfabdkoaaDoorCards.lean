/-
  DERIVED. GIVEN WITH THE SEED: THE CARDS: each row of YtjfikbnfabdkoaaDoorRows.lean that lists a variable, with what it lists TIED to the program's text (the seventh form; the later family's looks); each row that meets fmt, with fmt's text TOLD by the authors' own Lean function (tested against real Go, not proved from fmt's source: count such statements apart). THE CARD IS WHAT COUNTS. Prove the row's statement (the work); the ties are given (YtjfikbnfabdkoaaDoorTie.lean); close each card by the builder's one call (the guide's Derived/Test/ToyasCard.lean, 'card_holds'). Laid BY PROGRAM, IN A SANDBOX (cutbox-door.mjs). By AI agents, Wed Nov 11 2026. No macro, syntax, notation, axiom, sorry.
-/
import Derived.Test.YtjfikbnfabdkoaaDoorRows
import GoSem.ClaimSeven
namespace Go.Proofs.YtjfikbnfabdkoaaDoor
namespace Rows

/-- THE TIED CARD OF 'speakeasylaw13.OfferMakes'. -/
def offerMakesCard : Claim7 := { stood := { row := offerMakesRow, standIns := [], harness := (true, "fc1087b152c2efe02d6c1a2bca360e8f0fbc66582e7005f81122a6f9e67bcf32"), looks := true }, kinds := [], alts := [], laidByText := true, laidKinds := [.sentinel, .sentinel, .sentinel, .sentinel, .data], laidTests := true, laidLooks := .later }
def OfferMakesCardSaid : Prop := Claim7.holds Tryd.pinned (.plain (OpenSpec.ofChange offerMakesSpec)) offerMakesCard

/-- THE TIED CARD OF 'speakeasylaw13.OfferChooses'. -/
def offerChoosesCard : Claim7 := { stood := { row := offerChoosesRow, standIns := [], harness := (true, "fc1087b152c2efe02d6c1a2bca360e8f0fbc66582e7005f81122a6f9e67bcf32"), looks := true }, kinds := [], alts := [], laidByText := true, laidKinds := [.sentinel, .sentinel, .sentinel, .sentinel, .sentinel, .sentinel, .sentinel, .sentinel, .sentinel, .sentinel, .sentinel, .sentinel, .sentinel, .sentinel, .sentinel, .sentinel, .sentinel, .sentinel, .sentinel, .sentinel, .data], laidTests := true, laidLooks := .later }
def OfferChoosesCardSaid : Prop := Claim7.holds Tryd.pinned (.plain (OpenSpec.ofChange offerChoosesSpec)) offerChoosesCard

/-- THE TIED CARD OF 'speakeasylaw10.MessageKinds'. -/
def messageKindsCard : Claim7 := { stood := { row := messageKindsRow, standIns := [], harness := (true, "fc1087b152c2efe02d6c1a2bca360e8f0fbc66582e7005f81122a6f9e67bcf32"), looks := true }, kinds := [], alts := [], laidByText := true, laidKinds := [.data, .sentinel, .sentinel, .sentinel, .sentinel, .sentinel, .data, .pinned], laidTests := true, laidLooks := .later }
def MessageKindsCardSaid : Prop := Claim7.holds Tryd.pinned (.plain (OpenSpec.ofChange messageKindsSpec)) messageKindsCard

/-- THE TIED CARD OF 'speakeasylaw13.OfferAgrees'. -/
def offerAgreesCard : Claim7 := { stood := { row := offerAgreesRow, standIns := [], harness := (true, "fc1087b152c2efe02d6c1a2bca360e8f0fbc66582e7005f81122a6f9e67bcf32"), looks := true }, kinds := [], alts := [], laidByText := true, laidKinds := [.handle, .sentinel, .sentinel, .sentinel, .sentinel, .sentinel, .sentinel, .sentinel, .sentinel, .sentinel, .sentinel, .sentinel, .sentinel, .sentinel, .sentinel, .sentinel, .sentinel, .sentinel, .sentinel, .sentinel, .sentinel, .data], laidTests := true, laidLooks := .later }
def OfferAgreesCardSaid : Prop := Claim7.holds Tryd.pinned (.plain (OpenSpec.ofChange offerAgreesSpec)) offerAgreesCard

/-- THE TIED CARD OF 'speakeasylaw10.MessageBack'. -/
def messageBackCard : Claim7 := { stood := { row := messageBackRow, standIns := [], harness := (true, "fc1087b152c2efe02d6c1a2bca360e8f0fbc66582e7005f81122a6f9e67bcf32"), looks := true }, kinds := [], alts := [], laidByText := true, laidKinds := [.data, .sentinel, .sentinel, .sentinel, .sentinel, .sentinel, .sentinel, .sentinel, .sentinel, .sentinel, .sentinel, .sentinel, .sentinel, .sentinel, .sentinel, .sentinel, .sentinel, .sentinel, .sentinel, .sentinel, .sentinel, .data, .pinned], laidTests := true, laidLooks := .later }
def MessageBackCardSaid : Prop := Claim7.holds Tryd.pinned (.plain (OpenSpec.ofChange messageBackSpec)) messageBackCard

/-- THE TIED CARD OF 'speakeasylaw10.MessageReads'. -/
def messageReadsCard : Claim7 := { stood := { row := messageReadsRow, standIns := [], harness := (true, "fc1087b152c2efe02d6c1a2bca360e8f0fbc66582e7005f81122a6f9e67bcf32"), looks := true }, kinds := [], alts := [], laidByText := true, laidKinds := [.data, .sentinel, .sentinel, .sentinel, .sentinel, .sentinel, .sentinel, .sentinel, .sentinel, .sentinel, .sentinel, .sentinel, .sentinel, .sentinel, .sentinel, .sentinel, .sentinel, .sentinel, .sentinel, .sentinel, .sentinel, .data, .pinned], laidTests := true, laidLooks := .later }
def MessageReadsCardSaid : Prop := Claim7.holds Tryd.pinned (.plain (OpenSpec.ofChange messageReadsSpec)) messageReadsCard

/-- THE TIED CARD OF 'speakeasylaw10.MessageLong'. -/
def messageLongCard : Claim7 := { stood := { row := messageLongRow, standIns := [], harness := (true, "fc1087b152c2efe02d6c1a2bca360e8f0fbc66582e7005f81122a6f9e67bcf32"), looks := true }, kinds := [], alts := [], laidByText := true, laidKinds := [.data, .sentinel, .sentinel, .sentinel, .sentinel, .sentinel, .sentinel, .sentinel, .sentinel, .sentinel, .sentinel, .sentinel, .sentinel, .sentinel, .sentinel, .sentinel, .sentinel, .sentinel, .sentinel, .sentinel, .sentinel, .data, .pinned], laidTests := true, laidLooks := .later }
def MessageLongCardSaid : Prop := Claim7.holds Tryd.pinned (.plain (OpenSpec.ofChange messageLongSpec)) messageLongCard

/-- THE SECOND FORM's CARD OF 'speakeasylaw13.OfferMakes'. -/
def offerMakesUptoCard : Claim7 := { stood := { row := offerMakesUptoRow, standIns := [], harness := (true, "fc1087b152c2efe02d6c1a2bca360e8f0fbc66582e7005f81122a6f9e67bcf32"), looks := true }, kinds := [], alts := [], laidByText := true, laidKinds := [.sentinel, .sentinel, .sentinel, .sentinel, .data], laidTests := true, laidLooks := .later }
def OfferMakesUptoCardSaid : Prop := Claim7.holds Tryd.pinned (.plain (OpenSpec.upto offerMakesSpec)) offerMakesUptoCard

/-- THE SECOND FORM's CARD OF 'speakeasylaw13.OfferChooses'. -/
def offerChoosesUptoCard : Claim7 := { stood := { row := offerChoosesUptoRow, standIns := [], harness := (true, "fc1087b152c2efe02d6c1a2bca360e8f0fbc66582e7005f81122a6f9e67bcf32"), looks := true }, kinds := [], alts := [], laidByText := true, laidKinds := [.sentinel, .sentinel, .sentinel, .sentinel, .sentinel, .sentinel, .sentinel, .sentinel, .sentinel, .sentinel, .sentinel, .sentinel, .sentinel, .sentinel, .sentinel, .sentinel, .sentinel, .sentinel, .sentinel, .sentinel, .data], laidTests := true, laidLooks := .later }
def OfferChoosesUptoCardSaid : Prop := Claim7.holds Tryd.pinned (.plain (OpenSpec.upto offerChoosesSpec)) offerChoosesUptoCard

/-- THE SECOND FORM's CARD OF 'speakeasylaw10.MessageKinds'. -/
def messageKindsUptoCard : Claim7 := { stood := { row := messageKindsUptoRow, standIns := [], harness := (true, "fc1087b152c2efe02d6c1a2bca360e8f0fbc66582e7005f81122a6f9e67bcf32"), looks := true }, kinds := [], alts := [], laidByText := true, laidKinds := [.data, .sentinel, .sentinel, .sentinel, .sentinel, .sentinel, .data, .pinned], laidTests := true, laidLooks := .later }
def MessageKindsUptoCardSaid : Prop := Claim7.holds Tryd.pinned (.plain (OpenSpec.upto messageKindsSpec)) messageKindsUptoCard

/-- THE SECOND FORM's CARD OF 'speakeasylaw13.OfferAgrees'. -/
def offerAgreesUptoCard : Claim7 := { stood := { row := offerAgreesUptoRow, standIns := [], harness := (true, "fc1087b152c2efe02d6c1a2bca360e8f0fbc66582e7005f81122a6f9e67bcf32"), looks := true }, kinds := [], alts := [], laidByText := true, laidKinds := [.handle, .sentinel, .sentinel, .sentinel, .sentinel, .sentinel, .sentinel, .sentinel, .sentinel, .sentinel, .sentinel, .sentinel, .sentinel, .sentinel, .sentinel, .sentinel, .sentinel, .sentinel, .sentinel, .sentinel, .sentinel, .data], laidTests := true, laidLooks := .later }
def OfferAgreesUptoCardSaid : Prop := Claim7.holds Tryd.pinned (.plain (OpenSpec.upto offerAgreesSpec)) offerAgreesUptoCard

/-- THE SECOND FORM's CARD OF 'speakeasylaw10.MessageBack'. -/
def messageBackUptoCard : Claim7 := { stood := { row := messageBackUptoRow, standIns := [], harness := (true, "fc1087b152c2efe02d6c1a2bca360e8f0fbc66582e7005f81122a6f9e67bcf32"), looks := true }, kinds := [], alts := [], laidByText := true, laidKinds := [.data, .sentinel, .sentinel, .sentinel, .sentinel, .sentinel, .sentinel, .sentinel, .sentinel, .sentinel, .sentinel, .sentinel, .sentinel, .sentinel, .sentinel, .sentinel, .sentinel, .sentinel, .sentinel, .sentinel, .sentinel, .data, .pinned], laidTests := true, laidLooks := .later }
def MessageBackUptoCardSaid : Prop := Claim7.holds Tryd.pinned (.plain (OpenSpec.upto messageBackSpec)) messageBackUptoCard

/-- THE SECOND FORM's CARD OF 'speakeasylaw10.MessageReads'. -/
def messageReadsUptoCard : Claim7 := { stood := { row := messageReadsUptoRow, standIns := [], harness := (true, "fc1087b152c2efe02d6c1a2bca360e8f0fbc66582e7005f81122a6f9e67bcf32"), looks := true }, kinds := [], alts := [], laidByText := true, laidKinds := [.data, .sentinel, .sentinel, .sentinel, .sentinel, .sentinel, .sentinel, .sentinel, .sentinel, .sentinel, .sentinel, .sentinel, .sentinel, .sentinel, .sentinel, .sentinel, .sentinel, .sentinel, .sentinel, .sentinel, .sentinel, .data, .pinned], laidTests := true, laidLooks := .later }
def MessageReadsUptoCardSaid : Prop := Claim7.holds Tryd.pinned (.plain (OpenSpec.upto messageReadsSpec)) messageReadsUptoCard

/-- THE SECOND FORM's CARD OF 'speakeasylaw10.MessageLong'. -/
def messageLongUptoCard : Claim7 := { stood := { row := messageLongUptoRow, standIns := [], harness := (true, "fc1087b152c2efe02d6c1a2bca360e8f0fbc66582e7005f81122a6f9e67bcf32"), looks := true }, kinds := [], alts := [], laidByText := true, laidKinds := [.data, .sentinel, .sentinel, .sentinel, .sentinel, .sentinel, .sentinel, .sentinel, .sentinel, .sentinel, .sentinel, .sentinel, .sentinel, .sentinel, .sentinel, .sentinel, .sentinel, .sentinel, .sentinel, .sentinel, .sentinel, .data, .pinned], laidTests := true, laidLooks := .later }
def MessageLongUptoCardSaid : Prop := Claim7.holds Tryd.pinned (.plain (OpenSpec.upto messageLongSpec)) messageLongUptoCard
end Rows
end Go.Proofs.YtjfikbnfabdkoaaDoor
