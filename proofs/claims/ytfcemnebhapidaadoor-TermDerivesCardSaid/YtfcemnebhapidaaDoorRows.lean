/-
  NARROWER THAN 'FOR EVERY INPUT', by the rows' own cells (each row's printed sentence says how): TermGrows: laid · TermFresh: laid · TermDerives: laid · TermFull: laid · TermReads: laid · TermMakes: laid.
  DERIVED. THE GIVEN ROWS OF THIS SEAT. 6 by the template 'for every input the law returns true; each argument reads behind the call as it read before'; 0 by the template 'total and deterministic' (their statements: YtfcemnebhapidaaDoorTotals.lean).
  GIVEN WITH THE SEED: the statements are not yours to turn. If you find one false, say at which input.
  Laid BY PROGRAM, IN A SANDBOX (cutbox-rows.mjs): the forced cells as the released guide's own fill.sh prints them over the translation 6edeb3816695f945… (all of the seat's roots in one cut). By AI agents, Wed Nov 11 2026. No macro, syntax, notation, axiom, sorry.
-/
import Derived.Test.YtfcemnebhapidaaDoorChecked
import GoSem.Claim
import GoSem.ClaimJoined
import GoSem.ClaimMapViews
import Derived.JoinedTies
import Derived.KernelRfl
namespace Go.Proofs.YtfcemnebhapidaaDoor
/- THE CELL 'sum', in the pinned program and in every row, IS THE sha256 OF THE DUMP (.gsa) THAT YtfcemnebhapidaaDoorProg.lean LOADS. Nothing in Lean hashes anything: it is a label: what it is worth is what the hold of that sum in a sandbox is worth. -/
noncomputable def Tryd.pinned : Pinned := { name := "ytfcemnebhapidaadoor", sum := "6edeb3816695f945346e3d01b768dc7b367d33a8815c98da1cd27208d6f59fa4", checked := Tryd.checked }
namespace Rows
def none {H : Type} : Left H := { results := [], args := [] }

/- WHAT THE LISTED PACKAGE-LEVEL VARIABLES READ AS WHEN THE CALL BEGINS. Each datum BY PROGRAM (the guide's laid-datum.mjs) off the statement by which the dump's own 'gosem.cut.vars' lays the variable. In a bare row this is a premise. The card (YtfcemnebhapidaaDoorCards.lean) ties it to the program's text. -/
def laid_speakeasy_api_ErrForm {H : Type} : DataW H := .iface "*errors.errorString" (.ptr (.agg [.lit (.string [98, 121, 116, 101, 115, 32, 116, 104, 97, 116, 32, 115, 97, 121, 32, 110, 111, 116, 104, 105, 110, 103])]))
def laid_speakeasy_api_ErrBig {H : Type} : DataW H := .iface "*errors.errorString" (.ptr (.agg [.lit (.string [109, 111, 114, 101, 32, 116, 104, 97, 110, 32, 116, 104, 101, 114, 101, 32, 109, 97, 121, 32, 98, 101])]))
def laid_speakeasy_api_ErrFull {H : Type} : DataW H := .iface "*errors.errorString" (.ptr (.agg [.lit (.string [116, 104, 101, 114, 101, 32, 105, 115, 32, 110, 111, 32, 114, 111, 111, 109])]))
def laid_speakeasy_api_ErrArg {H : Type} : DataW H := .iface "*errors.errorString" (.ptr (.agg [.lit (.string [97, 110, 32, 97, 114, 103, 117, 109, 101, 110, 116, 32, 116, 104, 97, 116, 32, 109, 97, 121, 32, 110, 111, 116, 32, 98, 101])]))
def laid_speakeasy_api_ErrEnd {H : Type} : DataW H := .iface "*errors.errorString" (.ptr (.agg [.lit (.string [98, 121, 116, 101, 115, 32, 97, 114, 101, 32, 119, 97, 110, 116, 105, 110, 103])]))
def laid_speakeasy_api_ErrMac {H : Type} : DataW H := .iface "*errors.errorString" (.ptr (.agg [.lit (.string [97, 32, 115, 117, 109, 32, 116, 104, 97, 116, 32, 100, 111, 101, 115, 110, 39, 116, 32, 102, 105, 116])]))
def laid_speakeasy_api_ErrState {H : Type} : DataW H := .iface "*errors.errorString" (.ptr (.agg [.lit (.string [110, 111, 116, 32, 110, 111, 119])]))
def laid_speakeasy_api_ErrNone {H : Type} : DataW H := .iface "*errors.errorString" (.ptr (.agg [.lit (.string [116, 104, 101, 114, 101, 32, 105, 115, 32, 110, 111, 110, 101])]))
def laid_speakeasy_api_ErrHave {H : Type} : DataW H := .iface "*errors.errorString" (.ptr (.agg [.lit (.string [105, 116, 32, 105, 115, 32, 116, 104, 101, 114, 101, 32, 97, 108, 114, 101, 97, 100, 121])]))
def laid_speakeasy_api_ErrKey {H : Type} : DataW H := .iface "*errors.errorString" (.ptr (.agg [.lit (.string [97, 32, 107, 101, 121, 32, 116, 104, 97, 116, 32, 109, 97, 121, 32, 110, 111, 116, 32, 98, 101])]))
def laid_speakeasy_api_ErrSign {H : Type} : DataW H := .iface "*errors.errorString" (.ptr (.agg [.lit (.string [97, 32, 115, 105, 103, 110, 97, 116, 117, 114, 101, 32, 116, 104, 97, 116, 32, 100, 111, 101, 115, 110, 39, 116, 32, 102, 105, 116])]))
def laid_speakeasy_api_ErrVersion {H : Type} : DataW H := .iface "*errors.errorString" (.ptr (.agg [.lit (.string [97, 110, 111, 116, 104, 101, 114, 32, 118, 101, 114, 115, 105, 111, 110])]))
def laid_speakeasy_api_ErrAlgo {H : Type} : DataW H := .iface "*errors.errorString" (.ptr (.agg [.lit (.string [110, 111, 116, 104, 105, 110, 103, 32, 105, 110, 32, 99, 111, 109, 109, 111, 110])]))
def laid_speakeasy_api_ErrHost {H : Type} : DataW H := .iface "*errors.errorString" (.ptr (.agg [.lit (.string [97, 110, 111, 116, 104, 101, 114, 32, 104, 111, 115, 116, 39, 115, 32, 107, 101, 121])]))
def laid_speakeasy_api_ErrAuth {H : Type} : DataW H := .iface "*errors.errorString" (.ptr (.agg [.lit (.string [105, 116, 32, 109, 97, 121, 32, 110, 111, 116, 32, 99, 111, 109, 101, 32, 105, 110])]))
def laid_speakeasy_api_ErrQuota {H : Type} : DataW H := .iface "*errors.errorString" (.ptr (.agg [.lit (.string [109, 111, 114, 101, 32, 116, 104, 97, 110, 32, 105, 116, 115, 32, 115, 104, 97, 114, 101])]))
def laid_speakeasy_api_ErrName {H : Type} : DataW H := .iface "*errors.errorString" (.ptr (.agg [.lit (.string [97, 32, 110, 97, 109, 101, 32, 116, 104, 97, 116, 32, 109, 97, 121, 32, 110, 111, 116, 32, 98, 101])]))
def laid_speakeasy_api_ErrGone {H : Type} : DataW H := .iface "*errors.errorString" (.ptr (.agg [.lit (.string [105, 116, 32, 105, 115, 32, 103, 111, 110, 101])]))
def laid_speakeasy_api_ErrWindow {H : Type} : DataW H := .iface "*errors.errorString" (.ptr (.agg [.lit (.string [98, 101, 121, 111, 110, 100, 32, 116, 104, 101, 32, 119, 105, 110, 100, 111, 119])]))
def laid_speakeasy_api_ErrKind {H : Type} : DataW H := .iface "*errors.errorString" (.ptr (.agg [.lit (.string [116, 104, 101, 114, 101, 32, 105, 115, 32, 110, 111, 32, 115, 117, 99, 104, 32, 107, 105, 110, 100])]))

/-- 'speakeasylaw31.TermGrows': WHATEVER THE INPUT: true; the input reads as it did. -/
def termGrowsSpec : ChangeSpec := { name := "termGrows", fn := fun _ => fun
  | [d1, d2, d3] => { results := [.lit (.bool true)], args := [d1, d2, d3] }
  | _ => none }
def termGrowsRow : OpenClaim := { program := "ytfcemnebhapidaadoor", sum := "6edeb3816695f945346e3d01b768dc7b367d33a8815c98da1cd27208d6f59fa4", func := "speakeasy/speakeasylaw31.TermGrows", spec := "termGrows", inPlace := ["internal/abi.NoEscape", "internal/bytealg.MakeNoZero"], unfollowed := true, recurses := true, named := ["speakeasy/api.ErrBig", "speakeasy/api.ErrForm", "speakeasy/api.ErrFull"], apart := false, laid := [("speakeasy/api.ErrForm", laid_speakeasy_api_ErrForm), ("speakeasy/api.ErrBig", laid_speakeasy_api_ErrBig), ("speakeasy/api.ErrFull", laid_speakeasy_api_ErrFull)] }
def TermGrowsSaid : Prop := termGrowsRow.holds Tryd.pinned (OpenSpec.ofChange termGrowsSpec)

/-- ITS FALSE NEIGHBOUR: 'it returns false'. Refute it at one input. -/
def termGrowsWrong : ChangeSpec := { name := "termGrows", fn := fun _ => fun
  | [d1, d2, d3] => { results := [.lit (.bool false)], args := [d1, d2, d3] }
  | _ => none }
def TermGrowsWrongFalsely : Prop := termGrowsRow.holds Tryd.pinned (OpenSpec.ofChange termGrowsWrong)

/-- 'speakeasylaw31.TermFresh': WHATEVER THE INPUT: true; the input reads as it did. -/
def termFreshSpec : ChangeSpec := { name := "termFresh", fn := fun _ => fun
  | [d1, d2] => { results := [.lit (.bool true)], args := [d1, d2] }
  | _ => none }
def termFreshRow : OpenClaim := { program := "ytfcemnebhapidaadoor", sum := "6edeb3816695f945346e3d01b768dc7b367d33a8815c98da1cd27208d6f59fa4", func := "speakeasy/speakeasylaw31.TermFresh", spec := "termFresh", inPlace := ["internal/abi.NoEscape", "internal/bytealg.MakeNoZero"], unfollowed := true, recurses := true, named := ["speakeasy/api.ErrBig", "speakeasy/api.ErrForm", "speakeasy/api.ErrFull"], apart := false, laid := [("speakeasy/api.ErrForm", laid_speakeasy_api_ErrForm), ("speakeasy/api.ErrBig", laid_speakeasy_api_ErrBig), ("speakeasy/api.ErrFull", laid_speakeasy_api_ErrFull)] }
def TermFreshSaid : Prop := termFreshRow.holds Tryd.pinned (OpenSpec.ofChange termFreshSpec)

/-- ITS FALSE NEIGHBOUR: 'it returns false'. Refute it at one input. -/
def termFreshWrong : ChangeSpec := { name := "termFresh", fn := fun _ => fun
  | [d1, d2] => { results := [.lit (.bool false)], args := [d1, d2] }
  | _ => none }
def TermFreshWrongFalsely : Prop := termFreshRow.holds Tryd.pinned (OpenSpec.ofChange termFreshWrong)

/-- 'speakeasylaw31.TermDerives': WHATEVER THE INPUT: true; the input reads as it did. -/
def termDerivesSpec : ChangeSpec := { name := "termDerives", fn := fun _ => fun
  | [d1, d2] => { results := [.lit (.bool true)], args := [d1, d2] }
  | _ => none }
def termDerivesRow : OpenClaim := { program := "ytfcemnebhapidaadoor", sum := "6edeb3816695f945346e3d01b768dc7b367d33a8815c98da1cd27208d6f59fa4", func := "speakeasy/speakeasylaw31.TermDerives", spec := "termDerives", inPlace := ["internal/abi.NoEscape", "internal/bytealg.MakeNoZero", "internal/reflectlite.TypeOf"], unfollowed := true, recurses := true, named := ["speakeasy/api.ErrBig", "speakeasy/api.ErrForm", "speakeasy/api.ErrFull", "speakeasy/api.ErrArg", "speakeasy/api.ErrEnd", "speakeasy/api.ErrMac", "speakeasy/api.ErrState", "speakeasy/api.ErrNone", "speakeasy/api.ErrHave", "speakeasy/api.ErrKey", "speakeasy/api.ErrSign", "speakeasy/api.ErrVersion", "speakeasy/api.ErrAlgo", "speakeasy/api.ErrHost", "speakeasy/api.ErrAuth", "speakeasy/api.ErrQuota", "speakeasy/api.ErrName", "speakeasy/api.ErrGone", "speakeasy/api.ErrWindow", "speakeasy/api.ErrKind"], apart := false, laid := [("speakeasy/api.ErrArg", laid_speakeasy_api_ErrArg), ("speakeasy/api.ErrEnd", laid_speakeasy_api_ErrEnd), ("speakeasy/api.ErrForm", laid_speakeasy_api_ErrForm), ("speakeasy/api.ErrBig", laid_speakeasy_api_ErrBig), ("speakeasy/api.ErrMac", laid_speakeasy_api_ErrMac), ("speakeasy/api.ErrState", laid_speakeasy_api_ErrState), ("speakeasy/api.ErrFull", laid_speakeasy_api_ErrFull), ("speakeasy/api.ErrNone", laid_speakeasy_api_ErrNone), ("speakeasy/api.ErrHave", laid_speakeasy_api_ErrHave), ("speakeasy/api.ErrKey", laid_speakeasy_api_ErrKey), ("speakeasy/api.ErrSign", laid_speakeasy_api_ErrSign), ("speakeasy/api.ErrVersion", laid_speakeasy_api_ErrVersion), ("speakeasy/api.ErrAlgo", laid_speakeasy_api_ErrAlgo), ("speakeasy/api.ErrHost", laid_speakeasy_api_ErrHost), ("speakeasy/api.ErrAuth", laid_speakeasy_api_ErrAuth), ("speakeasy/api.ErrQuota", laid_speakeasy_api_ErrQuota), ("speakeasy/api.ErrName", laid_speakeasy_api_ErrName), ("speakeasy/api.ErrGone", laid_speakeasy_api_ErrGone), ("speakeasy/api.ErrWindow", laid_speakeasy_api_ErrWindow), ("speakeasy/api.ErrKind", laid_speakeasy_api_ErrKind)] }
def TermDerivesSaid : Prop := termDerivesRow.holds Tryd.pinned (OpenSpec.ofChange termDerivesSpec)

/-- ITS FALSE NEIGHBOUR: 'it returns false'. Refute it at one input. -/
def termDerivesWrong : ChangeSpec := { name := "termDerives", fn := fun _ => fun
  | [d1, d2] => { results := [.lit (.bool false)], args := [d1, d2] }
  | _ => none }
def TermDerivesWrongFalsely : Prop := termDerivesRow.holds Tryd.pinned (OpenSpec.ofChange termDerivesWrong)

/-- 'speakeasylaw31.TermFull': WHATEVER THE INPUT: true; the input reads as it did. -/
def termFullSpec : ChangeSpec := { name := "termFull", fn := fun _ => fun
  | [d] => { results := [.lit (.bool true)], args := [d] }
  | _ => none }
def termFullRow : OpenClaim := { program := "ytfcemnebhapidaadoor", sum := "6edeb3816695f945346e3d01b768dc7b367d33a8815c98da1cd27208d6f59fa4", func := "speakeasy/speakeasylaw31.TermFull", spec := "termFull", inPlace := ["internal/abi.NoEscape", "internal/bytealg.MakeNoZero", "internal/reflectlite.TypeOf"], unfollowed := true, recurses := true, named := ["speakeasy/api.ErrBig", "speakeasy/api.ErrForm", "speakeasy/api.ErrFull", "speakeasy/api.ErrArg", "speakeasy/api.ErrEnd", "speakeasy/api.ErrMac", "speakeasy/api.ErrState", "speakeasy/api.ErrNone", "speakeasy/api.ErrHave", "speakeasy/api.ErrKey", "speakeasy/api.ErrSign", "speakeasy/api.ErrVersion", "speakeasy/api.ErrAlgo", "speakeasy/api.ErrHost", "speakeasy/api.ErrAuth", "speakeasy/api.ErrQuota", "speakeasy/api.ErrName", "speakeasy/api.ErrGone", "speakeasy/api.ErrWindow", "speakeasy/api.ErrKind"], apart := false, laid := [("speakeasy/api.ErrArg", laid_speakeasy_api_ErrArg), ("speakeasy/api.ErrEnd", laid_speakeasy_api_ErrEnd), ("speakeasy/api.ErrForm", laid_speakeasy_api_ErrForm), ("speakeasy/api.ErrBig", laid_speakeasy_api_ErrBig), ("speakeasy/api.ErrMac", laid_speakeasy_api_ErrMac), ("speakeasy/api.ErrState", laid_speakeasy_api_ErrState), ("speakeasy/api.ErrFull", laid_speakeasy_api_ErrFull), ("speakeasy/api.ErrNone", laid_speakeasy_api_ErrNone), ("speakeasy/api.ErrHave", laid_speakeasy_api_ErrHave), ("speakeasy/api.ErrKey", laid_speakeasy_api_ErrKey), ("speakeasy/api.ErrSign", laid_speakeasy_api_ErrSign), ("speakeasy/api.ErrVersion", laid_speakeasy_api_ErrVersion), ("speakeasy/api.ErrAlgo", laid_speakeasy_api_ErrAlgo), ("speakeasy/api.ErrHost", laid_speakeasy_api_ErrHost), ("speakeasy/api.ErrAuth", laid_speakeasy_api_ErrAuth), ("speakeasy/api.ErrQuota", laid_speakeasy_api_ErrQuota), ("speakeasy/api.ErrName", laid_speakeasy_api_ErrName), ("speakeasy/api.ErrGone", laid_speakeasy_api_ErrGone), ("speakeasy/api.ErrWindow", laid_speakeasy_api_ErrWindow), ("speakeasy/api.ErrKind", laid_speakeasy_api_ErrKind)] }
def TermFullSaid : Prop := termFullRow.holds Tryd.pinned (OpenSpec.ofChange termFullSpec)

/-- ITS FALSE NEIGHBOUR: 'it returns false'. Refute it at one input. -/
def termFullWrong : ChangeSpec := { name := "termFull", fn := fun _ => fun
  | [d] => { results := [.lit (.bool false)], args := [d] }
  | _ => none }
def TermFullWrongFalsely : Prop := termFullRow.holds Tryd.pinned (OpenSpec.ofChange termFullWrong)

/-- 'speakeasylaw31.TermReads': WHATEVER THE INPUT: true; the input reads as it did. -/
def termReadsSpec : ChangeSpec := { name := "termReads", fn := fun _ => fun
  | [d] => { results := [.lit (.bool true)], args := [d] }
  | _ => none }
def termReadsRow : OpenClaim := { program := "ytfcemnebhapidaadoor", sum := "6edeb3816695f945346e3d01b768dc7b367d33a8815c98da1cd27208d6f59fa4", func := "speakeasy/speakeasylaw31.TermReads", spec := "termReads", inPlace := ["internal/abi.NoEscape", "internal/bytealg.MakeNoZero", "internal/reflectlite.TypeOf"], unfollowed := true, recurses := true, named := ["speakeasy/api.ErrBig", "speakeasy/api.ErrForm", "speakeasy/api.ErrFull", "speakeasy/api.ErrArg", "speakeasy/api.ErrEnd", "speakeasy/api.ErrMac", "speakeasy/api.ErrState", "speakeasy/api.ErrNone", "speakeasy/api.ErrHave", "speakeasy/api.ErrKey", "speakeasy/api.ErrSign", "speakeasy/api.ErrVersion", "speakeasy/api.ErrAlgo", "speakeasy/api.ErrHost", "speakeasy/api.ErrAuth", "speakeasy/api.ErrQuota", "speakeasy/api.ErrName", "speakeasy/api.ErrGone", "speakeasy/api.ErrWindow", "speakeasy/api.ErrKind"], apart := false, laid := [("speakeasy/api.ErrArg", laid_speakeasy_api_ErrArg), ("speakeasy/api.ErrEnd", laid_speakeasy_api_ErrEnd), ("speakeasy/api.ErrForm", laid_speakeasy_api_ErrForm), ("speakeasy/api.ErrBig", laid_speakeasy_api_ErrBig), ("speakeasy/api.ErrMac", laid_speakeasy_api_ErrMac), ("speakeasy/api.ErrState", laid_speakeasy_api_ErrState), ("speakeasy/api.ErrFull", laid_speakeasy_api_ErrFull), ("speakeasy/api.ErrNone", laid_speakeasy_api_ErrNone), ("speakeasy/api.ErrHave", laid_speakeasy_api_ErrHave), ("speakeasy/api.ErrKey", laid_speakeasy_api_ErrKey), ("speakeasy/api.ErrSign", laid_speakeasy_api_ErrSign), ("speakeasy/api.ErrVersion", laid_speakeasy_api_ErrVersion), ("speakeasy/api.ErrAlgo", laid_speakeasy_api_ErrAlgo), ("speakeasy/api.ErrHost", laid_speakeasy_api_ErrHost), ("speakeasy/api.ErrAuth", laid_speakeasy_api_ErrAuth), ("speakeasy/api.ErrQuota", laid_speakeasy_api_ErrQuota), ("speakeasy/api.ErrName", laid_speakeasy_api_ErrName), ("speakeasy/api.ErrGone", laid_speakeasy_api_ErrGone), ("speakeasy/api.ErrWindow", laid_speakeasy_api_ErrWindow), ("speakeasy/api.ErrKind", laid_speakeasy_api_ErrKind)] }
def TermReadsSaid : Prop := termReadsRow.holds Tryd.pinned (OpenSpec.ofChange termReadsSpec)

/-- ITS FALSE NEIGHBOUR: 'it returns false'. Refute it at one input. -/
def termReadsWrong : ChangeSpec := { name := "termReads", fn := fun _ => fun
  | [d] => { results := [.lit (.bool false)], args := [d] }
  | _ => none }
def TermReadsWrongFalsely : Prop := termReadsRow.holds Tryd.pinned (OpenSpec.ofChange termReadsWrong)

/-- 'speakeasylaw31.TermMakes': WHATEVER THE INPUT: true; the input reads as it did. -/
def termMakesSpec : ChangeSpec := { name := "termMakes", fn := fun _ => fun
  | [d1, d2] => { results := [.lit (.bool true)], args := [d1, d2] }
  | _ => none }
def termMakesRow : OpenClaim := { program := "ytfcemnebhapidaadoor", sum := "6edeb3816695f945346e3d01b768dc7b367d33a8815c98da1cd27208d6f59fa4", func := "speakeasy/speakeasylaw31.TermMakes", spec := "termMakes", inPlace := ["internal/abi.NoEscape", "internal/bytealg.MakeNoZero", "internal/reflectlite.TypeOf"], unfollowed := true, recurses := true, named := ["speakeasy/api.ErrBig", "speakeasy/api.ErrForm", "speakeasy/api.ErrFull", "speakeasy/api.ErrArg", "speakeasy/api.ErrEnd", "speakeasy/api.ErrMac", "speakeasy/api.ErrState", "speakeasy/api.ErrNone", "speakeasy/api.ErrHave", "speakeasy/api.ErrKey", "speakeasy/api.ErrSign", "speakeasy/api.ErrVersion", "speakeasy/api.ErrAlgo", "speakeasy/api.ErrHost", "speakeasy/api.ErrAuth", "speakeasy/api.ErrQuota", "speakeasy/api.ErrName", "speakeasy/api.ErrGone", "speakeasy/api.ErrWindow", "speakeasy/api.ErrKind"], apart := false, laid := [("speakeasy/api.ErrArg", laid_speakeasy_api_ErrArg), ("speakeasy/api.ErrEnd", laid_speakeasy_api_ErrEnd), ("speakeasy/api.ErrForm", laid_speakeasy_api_ErrForm), ("speakeasy/api.ErrBig", laid_speakeasy_api_ErrBig), ("speakeasy/api.ErrMac", laid_speakeasy_api_ErrMac), ("speakeasy/api.ErrState", laid_speakeasy_api_ErrState), ("speakeasy/api.ErrFull", laid_speakeasy_api_ErrFull), ("speakeasy/api.ErrNone", laid_speakeasy_api_ErrNone), ("speakeasy/api.ErrHave", laid_speakeasy_api_ErrHave), ("speakeasy/api.ErrKey", laid_speakeasy_api_ErrKey), ("speakeasy/api.ErrSign", laid_speakeasy_api_ErrSign), ("speakeasy/api.ErrVersion", laid_speakeasy_api_ErrVersion), ("speakeasy/api.ErrAlgo", laid_speakeasy_api_ErrAlgo), ("speakeasy/api.ErrHost", laid_speakeasy_api_ErrHost), ("speakeasy/api.ErrAuth", laid_speakeasy_api_ErrAuth), ("speakeasy/api.ErrQuota", laid_speakeasy_api_ErrQuota), ("speakeasy/api.ErrName", laid_speakeasy_api_ErrName), ("speakeasy/api.ErrGone", laid_speakeasy_api_ErrGone), ("speakeasy/api.ErrWindow", laid_speakeasy_api_ErrWindow), ("speakeasy/api.ErrKind", laid_speakeasy_api_ErrKind)] }
def TermMakesSaid : Prop := termMakesRow.holds Tryd.pinned (OpenSpec.ofChange termMakesSpec)

/-- ITS FALSE NEIGHBOUR: 'it returns false'. Refute it at one input. -/
def termMakesWrong : ChangeSpec := { name := "termMakes", fn := fun _ => fun
  | [d1, d2] => { results := [.lit (.bool false)], args := [d1, d2] }
  | _ => none }
def TermMakesWrongFalsely : Prop := termMakesRow.holds Tryd.pinned (OpenSpec.ofChange termMakesWrong)

/- THE SECOND FORM. 'bulk': how many values and letters a reading holds, each counted each time it is reached (what is shared counts as often as it is met; a slice's spare places count too). A statement '..UptoSaid' is the law's where the arguments, and the package variables that the reading takes, are together of bulk at most 1048576: NARROWER than '..Said'. Prove '..Said' where nothing that the law and all that it calls make is longer than what came in: it says more and counts as full. Else prove '..UptoSaid'. A law counts once. -/
mutual
def uptoBulk {H : Type} : DataW H → Nat
  | .lit (.string bytes) => bytes.length + 1
  | .lit _ => 1
  | .nil => 1
  | .ptr d => uptoBulk d + 1
  | .slice elems spare => uptoBulkAll elems + uptoBulkAll spare + 1
  | .agg parts => uptoBulkAll parts + 1
  | .iface _ d => uptoBulk d + 1
  | .map entries => uptoBulkEntries entries + 1
  | .held _ => 1
def uptoBulkAll {H : Type} : List (DataW H) → Nat
  | [] => 0
  | d :: r => uptoBulk d + uptoBulkAll r
def uptoBulkEntries {H : Type} : List (Lit × DataW H) → Nat
  | [] => 0
  | x :: r => uptoBulkEntry x + uptoBulkEntries r
def uptoBulkEntry {H : Type} : Lit × DataW H → Nat
  | (.string bytes, d) => bytes.length + uptoBulk d + 1
  | (_, d) => uptoBulk d + 1
 end
def uptoSmall : (H : Type) → List (DataW H) → Bool := fun _ ds => decide (uptoBulkAll ds ≤ 1048576)
def OpenSpec.upto (s : _root_.Go.ChangeSpec) : _root_.Go.OpenSpec := { _root_.Go.OpenSpec.ofChange s with cond := some uptoSmall }

/-- 'speakeasylaw31.TermGrows', WHERE WHAT IT READS IS OF BULK AT MOST 1048576: true; the input reads as it did. -/
def termGrowsUptoRow : OpenClaim := { program := "ytfcemnebhapidaadoor", sum := "6edeb3816695f945346e3d01b768dc7b367d33a8815c98da1cd27208d6f59fa4", func := "speakeasy/speakeasylaw31.TermGrows", spec := "termGrows", inPlace := ["internal/abi.NoEscape", "internal/bytealg.MakeNoZero"], unfollowed := true, recurses := true, named := ["speakeasy/api.ErrBig", "speakeasy/api.ErrForm", "speakeasy/api.ErrFull"], apart := false, laid := [("speakeasy/api.ErrForm", laid_speakeasy_api_ErrForm), ("speakeasy/api.ErrBig", laid_speakeasy_api_ErrBig), ("speakeasy/api.ErrFull", laid_speakeasy_api_ErrFull)], narrowed := true }
def TermGrowsUptoSaid : Prop := termGrowsUptoRow.holds Tryd.pinned (OpenSpec.upto termGrowsSpec)

/-- 'speakeasylaw31.TermFresh', WHERE WHAT IT READS IS OF BULK AT MOST 1048576: true; the input reads as it did. -/
def termFreshUptoRow : OpenClaim := { program := "ytfcemnebhapidaadoor", sum := "6edeb3816695f945346e3d01b768dc7b367d33a8815c98da1cd27208d6f59fa4", func := "speakeasy/speakeasylaw31.TermFresh", spec := "termFresh", inPlace := ["internal/abi.NoEscape", "internal/bytealg.MakeNoZero"], unfollowed := true, recurses := true, named := ["speakeasy/api.ErrBig", "speakeasy/api.ErrForm", "speakeasy/api.ErrFull"], apart := false, laid := [("speakeasy/api.ErrForm", laid_speakeasy_api_ErrForm), ("speakeasy/api.ErrBig", laid_speakeasy_api_ErrBig), ("speakeasy/api.ErrFull", laid_speakeasy_api_ErrFull)], narrowed := true }
def TermFreshUptoSaid : Prop := termFreshUptoRow.holds Tryd.pinned (OpenSpec.upto termFreshSpec)

/-- 'speakeasylaw31.TermDerives', WHERE WHAT IT READS IS OF BULK AT MOST 1048576: true; the input reads as it did. -/
def termDerivesUptoRow : OpenClaim := { program := "ytfcemnebhapidaadoor", sum := "6edeb3816695f945346e3d01b768dc7b367d33a8815c98da1cd27208d6f59fa4", func := "speakeasy/speakeasylaw31.TermDerives", spec := "termDerives", inPlace := ["internal/abi.NoEscape", "internal/bytealg.MakeNoZero", "internal/reflectlite.TypeOf"], unfollowed := true, recurses := true, named := ["speakeasy/api.ErrBig", "speakeasy/api.ErrForm", "speakeasy/api.ErrFull", "speakeasy/api.ErrArg", "speakeasy/api.ErrEnd", "speakeasy/api.ErrMac", "speakeasy/api.ErrState", "speakeasy/api.ErrNone", "speakeasy/api.ErrHave", "speakeasy/api.ErrKey", "speakeasy/api.ErrSign", "speakeasy/api.ErrVersion", "speakeasy/api.ErrAlgo", "speakeasy/api.ErrHost", "speakeasy/api.ErrAuth", "speakeasy/api.ErrQuota", "speakeasy/api.ErrName", "speakeasy/api.ErrGone", "speakeasy/api.ErrWindow", "speakeasy/api.ErrKind"], apart := false, laid := [("speakeasy/api.ErrArg", laid_speakeasy_api_ErrArg), ("speakeasy/api.ErrEnd", laid_speakeasy_api_ErrEnd), ("speakeasy/api.ErrForm", laid_speakeasy_api_ErrForm), ("speakeasy/api.ErrBig", laid_speakeasy_api_ErrBig), ("speakeasy/api.ErrMac", laid_speakeasy_api_ErrMac), ("speakeasy/api.ErrState", laid_speakeasy_api_ErrState), ("speakeasy/api.ErrFull", laid_speakeasy_api_ErrFull), ("speakeasy/api.ErrNone", laid_speakeasy_api_ErrNone), ("speakeasy/api.ErrHave", laid_speakeasy_api_ErrHave), ("speakeasy/api.ErrKey", laid_speakeasy_api_ErrKey), ("speakeasy/api.ErrSign", laid_speakeasy_api_ErrSign), ("speakeasy/api.ErrVersion", laid_speakeasy_api_ErrVersion), ("speakeasy/api.ErrAlgo", laid_speakeasy_api_ErrAlgo), ("speakeasy/api.ErrHost", laid_speakeasy_api_ErrHost), ("speakeasy/api.ErrAuth", laid_speakeasy_api_ErrAuth), ("speakeasy/api.ErrQuota", laid_speakeasy_api_ErrQuota), ("speakeasy/api.ErrName", laid_speakeasy_api_ErrName), ("speakeasy/api.ErrGone", laid_speakeasy_api_ErrGone), ("speakeasy/api.ErrWindow", laid_speakeasy_api_ErrWindow), ("speakeasy/api.ErrKind", laid_speakeasy_api_ErrKind)], narrowed := true }
def TermDerivesUptoSaid : Prop := termDerivesUptoRow.holds Tryd.pinned (OpenSpec.upto termDerivesSpec)

/-- 'speakeasylaw31.TermFull', WHERE WHAT IT READS IS OF BULK AT MOST 1048576: true; the input reads as it did. -/
def termFullUptoRow : OpenClaim := { program := "ytfcemnebhapidaadoor", sum := "6edeb3816695f945346e3d01b768dc7b367d33a8815c98da1cd27208d6f59fa4", func := "speakeasy/speakeasylaw31.TermFull", spec := "termFull", inPlace := ["internal/abi.NoEscape", "internal/bytealg.MakeNoZero", "internal/reflectlite.TypeOf"], unfollowed := true, recurses := true, named := ["speakeasy/api.ErrBig", "speakeasy/api.ErrForm", "speakeasy/api.ErrFull", "speakeasy/api.ErrArg", "speakeasy/api.ErrEnd", "speakeasy/api.ErrMac", "speakeasy/api.ErrState", "speakeasy/api.ErrNone", "speakeasy/api.ErrHave", "speakeasy/api.ErrKey", "speakeasy/api.ErrSign", "speakeasy/api.ErrVersion", "speakeasy/api.ErrAlgo", "speakeasy/api.ErrHost", "speakeasy/api.ErrAuth", "speakeasy/api.ErrQuota", "speakeasy/api.ErrName", "speakeasy/api.ErrGone", "speakeasy/api.ErrWindow", "speakeasy/api.ErrKind"], apart := false, laid := [("speakeasy/api.ErrArg", laid_speakeasy_api_ErrArg), ("speakeasy/api.ErrEnd", laid_speakeasy_api_ErrEnd), ("speakeasy/api.ErrForm", laid_speakeasy_api_ErrForm), ("speakeasy/api.ErrBig", laid_speakeasy_api_ErrBig), ("speakeasy/api.ErrMac", laid_speakeasy_api_ErrMac), ("speakeasy/api.ErrState", laid_speakeasy_api_ErrState), ("speakeasy/api.ErrFull", laid_speakeasy_api_ErrFull), ("speakeasy/api.ErrNone", laid_speakeasy_api_ErrNone), ("speakeasy/api.ErrHave", laid_speakeasy_api_ErrHave), ("speakeasy/api.ErrKey", laid_speakeasy_api_ErrKey), ("speakeasy/api.ErrSign", laid_speakeasy_api_ErrSign), ("speakeasy/api.ErrVersion", laid_speakeasy_api_ErrVersion), ("speakeasy/api.ErrAlgo", laid_speakeasy_api_ErrAlgo), ("speakeasy/api.ErrHost", laid_speakeasy_api_ErrHost), ("speakeasy/api.ErrAuth", laid_speakeasy_api_ErrAuth), ("speakeasy/api.ErrQuota", laid_speakeasy_api_ErrQuota), ("speakeasy/api.ErrName", laid_speakeasy_api_ErrName), ("speakeasy/api.ErrGone", laid_speakeasy_api_ErrGone), ("speakeasy/api.ErrWindow", laid_speakeasy_api_ErrWindow), ("speakeasy/api.ErrKind", laid_speakeasy_api_ErrKind)], narrowed := true }
def TermFullUptoSaid : Prop := termFullUptoRow.holds Tryd.pinned (OpenSpec.upto termFullSpec)

/-- 'speakeasylaw31.TermReads', WHERE WHAT IT READS IS OF BULK AT MOST 1048576: true; the input reads as it did. -/
def termReadsUptoRow : OpenClaim := { program := "ytfcemnebhapidaadoor", sum := "6edeb3816695f945346e3d01b768dc7b367d33a8815c98da1cd27208d6f59fa4", func := "speakeasy/speakeasylaw31.TermReads", spec := "termReads", inPlace := ["internal/abi.NoEscape", "internal/bytealg.MakeNoZero", "internal/reflectlite.TypeOf"], unfollowed := true, recurses := true, named := ["speakeasy/api.ErrBig", "speakeasy/api.ErrForm", "speakeasy/api.ErrFull", "speakeasy/api.ErrArg", "speakeasy/api.ErrEnd", "speakeasy/api.ErrMac", "speakeasy/api.ErrState", "speakeasy/api.ErrNone", "speakeasy/api.ErrHave", "speakeasy/api.ErrKey", "speakeasy/api.ErrSign", "speakeasy/api.ErrVersion", "speakeasy/api.ErrAlgo", "speakeasy/api.ErrHost", "speakeasy/api.ErrAuth", "speakeasy/api.ErrQuota", "speakeasy/api.ErrName", "speakeasy/api.ErrGone", "speakeasy/api.ErrWindow", "speakeasy/api.ErrKind"], apart := false, laid := [("speakeasy/api.ErrArg", laid_speakeasy_api_ErrArg), ("speakeasy/api.ErrEnd", laid_speakeasy_api_ErrEnd), ("speakeasy/api.ErrForm", laid_speakeasy_api_ErrForm), ("speakeasy/api.ErrBig", laid_speakeasy_api_ErrBig), ("speakeasy/api.ErrMac", laid_speakeasy_api_ErrMac), ("speakeasy/api.ErrState", laid_speakeasy_api_ErrState), ("speakeasy/api.ErrFull", laid_speakeasy_api_ErrFull), ("speakeasy/api.ErrNone", laid_speakeasy_api_ErrNone), ("speakeasy/api.ErrHave", laid_speakeasy_api_ErrHave), ("speakeasy/api.ErrKey", laid_speakeasy_api_ErrKey), ("speakeasy/api.ErrSign", laid_speakeasy_api_ErrSign), ("speakeasy/api.ErrVersion", laid_speakeasy_api_ErrVersion), ("speakeasy/api.ErrAlgo", laid_speakeasy_api_ErrAlgo), ("speakeasy/api.ErrHost", laid_speakeasy_api_ErrHost), ("speakeasy/api.ErrAuth", laid_speakeasy_api_ErrAuth), ("speakeasy/api.ErrQuota", laid_speakeasy_api_ErrQuota), ("speakeasy/api.ErrName", laid_speakeasy_api_ErrName), ("speakeasy/api.ErrGone", laid_speakeasy_api_ErrGone), ("speakeasy/api.ErrWindow", laid_speakeasy_api_ErrWindow), ("speakeasy/api.ErrKind", laid_speakeasy_api_ErrKind)], narrowed := true }
def TermReadsUptoSaid : Prop := termReadsUptoRow.holds Tryd.pinned (OpenSpec.upto termReadsSpec)

/-- 'speakeasylaw31.TermMakes', WHERE WHAT IT READS IS OF BULK AT MOST 1048576: true; the input reads as it did. -/
def termMakesUptoRow : OpenClaim := { program := "ytfcemnebhapidaadoor", sum := "6edeb3816695f945346e3d01b768dc7b367d33a8815c98da1cd27208d6f59fa4", func := "speakeasy/speakeasylaw31.TermMakes", spec := "termMakes", inPlace := ["internal/abi.NoEscape", "internal/bytealg.MakeNoZero", "internal/reflectlite.TypeOf"], unfollowed := true, recurses := true, named := ["speakeasy/api.ErrBig", "speakeasy/api.ErrForm", "speakeasy/api.ErrFull", "speakeasy/api.ErrArg", "speakeasy/api.ErrEnd", "speakeasy/api.ErrMac", "speakeasy/api.ErrState", "speakeasy/api.ErrNone", "speakeasy/api.ErrHave", "speakeasy/api.ErrKey", "speakeasy/api.ErrSign", "speakeasy/api.ErrVersion", "speakeasy/api.ErrAlgo", "speakeasy/api.ErrHost", "speakeasy/api.ErrAuth", "speakeasy/api.ErrQuota", "speakeasy/api.ErrName", "speakeasy/api.ErrGone", "speakeasy/api.ErrWindow", "speakeasy/api.ErrKind"], apart := false, laid := [("speakeasy/api.ErrArg", laid_speakeasy_api_ErrArg), ("speakeasy/api.ErrEnd", laid_speakeasy_api_ErrEnd), ("speakeasy/api.ErrForm", laid_speakeasy_api_ErrForm), ("speakeasy/api.ErrBig", laid_speakeasy_api_ErrBig), ("speakeasy/api.ErrMac", laid_speakeasy_api_ErrMac), ("speakeasy/api.ErrState", laid_speakeasy_api_ErrState), ("speakeasy/api.ErrFull", laid_speakeasy_api_ErrFull), ("speakeasy/api.ErrNone", laid_speakeasy_api_ErrNone), ("speakeasy/api.ErrHave", laid_speakeasy_api_ErrHave), ("speakeasy/api.ErrKey", laid_speakeasy_api_ErrKey), ("speakeasy/api.ErrSign", laid_speakeasy_api_ErrSign), ("speakeasy/api.ErrVersion", laid_speakeasy_api_ErrVersion), ("speakeasy/api.ErrAlgo", laid_speakeasy_api_ErrAlgo), ("speakeasy/api.ErrHost", laid_speakeasy_api_ErrHost), ("speakeasy/api.ErrAuth", laid_speakeasy_api_ErrAuth), ("speakeasy/api.ErrQuota", laid_speakeasy_api_ErrQuota), ("speakeasy/api.ErrName", laid_speakeasy_api_ErrName), ("speakeasy/api.ErrGone", laid_speakeasy_api_ErrGone), ("speakeasy/api.ErrWindow", laid_speakeasy_api_ErrWindow), ("speakeasy/api.ErrKind", laid_speakeasy_api_ErrKind)], narrowed := true }
def TermMakesUptoSaid : Prop := termMakesUptoRow.holds Tryd.pinned (OpenSpec.upto termMakesSpec)

end Rows
end Go.Proofs.YtfcemnebhapidaaDoor
