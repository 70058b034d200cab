/-
  DERIVED. GIVEN WITH THE SEED: THE PROGRAM's TIES (one call each: nine closed facts by the kernel) AND EACH ROW's TIE, after the 31st guide's Derived/Test/Toyas{Tie, Card}.lean. No idea stands in it: it is a product of the set-up. Laid BY PROGRAM, IN A SANDBOX (cutbox-door.mjs). By AI agents, Wed Nov 11 2026. No macro, syntax, notation, axiom, sorry.
-/
import Derived.Test.YtfcemnebhapidaaDoorRows
import Derived.LaidByTextLater
import Derived.SevenTiedAt
import Derived.LaidSub
import Derived.LaidOnce
namespace Go.Proofs.YtfcemnebhapidaaDoor
open Go
set_option maxRecDepth 100000
theorem seatTie1 : Tryd.prog.laidByTextLater [("speakeasy/api.ErrArg", Rows.laid_speakeasy_api_ErrArg), ("speakeasy/api.ErrEnd", Rows.laid_speakeasy_api_ErrEnd), ("speakeasy/api.ErrForm", Rows.laid_speakeasy_api_ErrForm), ("speakeasy/api.ErrBig", Rows.laid_speakeasy_api_ErrBig), ("speakeasy/api.ErrMac", Rows.laid_speakeasy_api_ErrMac), ("speakeasy/api.ErrState", Rows.laid_speakeasy_api_ErrState), ("speakeasy/api.ErrFull", Rows.laid_speakeasy_api_ErrFull), ("speakeasy/api.ErrNone", Rows.laid_speakeasy_api_ErrNone), ("speakeasy/api.ErrHave", Rows.laid_speakeasy_api_ErrHave), ("speakeasy/api.ErrKey", Rows.laid_speakeasy_api_ErrKey), ("speakeasy/api.ErrSign", Rows.laid_speakeasy_api_ErrSign), ("speakeasy/api.ErrVersion", Rows.laid_speakeasy_api_ErrVersion), ("speakeasy/api.ErrAlgo", Rows.laid_speakeasy_api_ErrAlgo), ("speakeasy/api.ErrHost", Rows.laid_speakeasy_api_ErrHost), ("speakeasy/api.ErrAuth", Rows.laid_speakeasy_api_ErrAuth), ("speakeasy/api.ErrQuota", Rows.laid_speakeasy_api_ErrQuota), ("speakeasy/api.ErrName", Rows.laid_speakeasy_api_ErrName), ("speakeasy/api.ErrGone", Rows.laid_speakeasy_api_ErrGone), ("speakeasy/api.ErrWindow", Rows.laid_speakeasy_api_ErrWindow), ("speakeasy/api.ErrKind", Rows.laid_speakeasy_api_ErrKind)] [.sentinel, .sentinel, .sentinel, .sentinel, .sentinel, .sentinel, .sentinel, .sentinel, .sentinel, .sentinel, .sentinel, .sentinel, .sentinel, .sentinel, .sentinel, .sentinel, .sentinel, .sentinel, .sentinel, .sentinel] true :=
  Program.laidByTextLater_by_one 389 8 2 (by kernel_rfl) (by kernel_rfl) (by kernel_rfl) (by kernel_rfl) (by kernel_rfl) (by kernel_rfl) (fun _ _ => by kernel_rfl)
theorem noOwnUnsafe : Tryd.pinned.checked.prog.headLifts.contains "ownunsafe" = false := by kernel_rfl
theorem tie : Tryd.prog.laidByTextLater [("speakeasy/api.ErrForm", Rows.laid_speakeasy_api_ErrForm), ("speakeasy/api.ErrBig", Rows.laid_speakeasy_api_ErrBig), ("speakeasy/api.ErrFull", Rows.laid_speakeasy_api_ErrFull)] [.sentinel, .sentinel, .sentinel] true :=
  Program.laidByTextLater.sub seatTie1 ["speakeasy/api.ErrForm", "speakeasy/api.ErrBig", "speakeasy/api.ErrFull"] (by kernel_rfl) (by kernel_rfl)
theorem termGrows_row_tie : Rows.termGrowsRow.laidByTextAt .later Tryd.pinned [.sentinel, .sentinel, .sentinel] true :=
  OpenClaim.laidByTextAt_later rfl rfl tie noOwnUnsafe
theorem termFresh_row_tie : Rows.termFreshRow.laidByTextAt .later Tryd.pinned [.sentinel, .sentinel, .sentinel] true :=
  OpenClaim.laidByTextAt_later rfl rfl tie noOwnUnsafe
theorem tie2 : Tryd.prog.laidByTextLater [("speakeasy/api.ErrArg", Rows.laid_speakeasy_api_ErrArg), ("speakeasy/api.ErrEnd", Rows.laid_speakeasy_api_ErrEnd), ("speakeasy/api.ErrForm", Rows.laid_speakeasy_api_ErrForm), ("speakeasy/api.ErrBig", Rows.laid_speakeasy_api_ErrBig), ("speakeasy/api.ErrMac", Rows.laid_speakeasy_api_ErrMac), ("speakeasy/api.ErrState", Rows.laid_speakeasy_api_ErrState), ("speakeasy/api.ErrFull", Rows.laid_speakeasy_api_ErrFull), ("speakeasy/api.ErrNone", Rows.laid_speakeasy_api_ErrNone), ("speakeasy/api.ErrHave", Rows.laid_speakeasy_api_ErrHave), ("speakeasy/api.ErrKey", Rows.laid_speakeasy_api_ErrKey), ("speakeasy/api.ErrSign", Rows.laid_speakeasy_api_ErrSign), ("speakeasy/api.ErrVersion", Rows.laid_speakeasy_api_ErrVersion), ("speakeasy/api.ErrAlgo", Rows.laid_speakeasy_api_ErrAlgo), ("speakeasy/api.ErrHost", Rows.laid_speakeasy_api_ErrHost), ("speakeasy/api.ErrAuth", Rows.laid_speakeasy_api_ErrAuth), ("speakeasy/api.ErrQuota", Rows.laid_speakeasy_api_ErrQuota), ("speakeasy/api.ErrName", Rows.laid_speakeasy_api_ErrName), ("speakeasy/api.ErrGone", Rows.laid_speakeasy_api_ErrGone), ("speakeasy/api.ErrWindow", Rows.laid_speakeasy_api_ErrWindow), ("speakeasy/api.ErrKind", Rows.laid_speakeasy_api_ErrKind)] [.sentinel, .sentinel, .sentinel, .sentinel, .sentinel, .sentinel, .sentinel, .sentinel, .sentinel, .sentinel, .sentinel, .sentinel, .sentinel, .sentinel, .sentinel, .sentinel, .sentinel, .sentinel, .sentinel, .sentinel] true :=
  Program.laidByTextLater.sub seatTie1 ["speakeasy/api.ErrArg", "speakeasy/api.ErrEnd", "speakeasy/api.ErrForm", "speakeasy/api.ErrBig", "speakeasy/api.ErrMac", "speakeasy/api.ErrState", "speakeasy/api.ErrFull", "speakeasy/api.ErrNone", "speakeasy/api.ErrHave", "speakeasy/api.ErrKey", "speakeasy/api.ErrSign", "speakeasy/api.ErrVersion", "speakeasy/api.ErrAlgo", "speakeasy/api.ErrHost", "speakeasy/api.ErrAuth", "speakeasy/api.ErrQuota", "speakeasy/api.ErrName", "speakeasy/api.ErrGone", "speakeasy/api.ErrWindow", "speakeasy/api.ErrKind"] (by kernel_rfl) (by kernel_rfl)
theorem termDerives_row_tie : Rows.termDerivesRow.laidByTextAt .later Tryd.pinned [.sentinel, .sentinel, .sentinel, .sentinel, .sentinel, .sentinel, .sentinel, .sentinel, .sentinel, .sentinel, .sentinel, .sentinel, .sentinel, .sentinel, .sentinel, .sentinel, .sentinel, .sentinel, .sentinel, .sentinel] true :=
  OpenClaim.laidByTextAt_later rfl rfl tie2 noOwnUnsafe
theorem termFull_row_tie : Rows.termFullRow.laidByTextAt .later Tryd.pinned [.sentinel, .sentinel, .sentinel, .sentinel, .sentinel, .sentinel, .sentinel, .sentinel, .sentinel, .sentinel, .sentinel, .sentinel, .sentinel, .sentinel, .sentinel, .sentinel, .sentinel, .sentinel, .sentinel, .sentinel] true :=
  OpenClaim.laidByTextAt_later rfl rfl tie2 noOwnUnsafe
theorem termReads_row_tie : Rows.termReadsRow.laidByTextAt .later Tryd.pinned [.sentinel, .sentinel, .sentinel, .sentinel, .sentinel, .sentinel, .sentinel, .sentinel, .sentinel, .sentinel, .sentinel, .sentinel, .sentinel, .sentinel, .sentinel, .sentinel, .sentinel, .sentinel, .sentinel, .sentinel] true :=
  OpenClaim.laidByTextAt_later rfl rfl tie2 noOwnUnsafe
theorem termMakes_row_tie : Rows.termMakesRow.laidByTextAt .later Tryd.pinned [.sentinel, .sentinel, .sentinel, .sentinel, .sentinel, .sentinel, .sentinel, .sentinel, .sentinel, .sentinel, .sentinel, .sentinel, .sentinel, .sentinel, .sentinel, .sentinel, .sentinel, .sentinel, .sentinel, .sentinel] true :=
  OpenClaim.laidByTextAt_later rfl rfl tie2 noOwnUnsafe
theorem termGrowsUpto_row_tie : Rows.termGrowsUptoRow.laidByTextAt .later Tryd.pinned [.sentinel, .sentinel, .sentinel] true :=
  OpenClaim.laidByTextAt_later rfl rfl tie noOwnUnsafe
theorem termFreshUpto_row_tie : Rows.termFreshUptoRow.laidByTextAt .later Tryd.pinned [.sentinel, .sentinel, .sentinel] true :=
  OpenClaim.laidByTextAt_later rfl rfl tie noOwnUnsafe
theorem termDerivesUpto_row_tie : Rows.termDerivesUptoRow.laidByTextAt .later Tryd.pinned [.sentinel, .sentinel, .sentinel, .sentinel, .sentinel, .sentinel, .sentinel, .sentinel, .sentinel, .sentinel, .sentinel, .sentinel, .sentinel, .sentinel, .sentinel, .sentinel, .sentinel, .sentinel, .sentinel, .sentinel] true :=
  OpenClaim.laidByTextAt_later rfl rfl tie2 noOwnUnsafe
theorem termFullUpto_row_tie : Rows.termFullUptoRow.laidByTextAt .later Tryd.pinned [.sentinel, .sentinel, .sentinel, .sentinel, .sentinel, .sentinel, .sentinel, .sentinel, .sentinel, .sentinel, .sentinel, .sentinel, .sentinel, .sentinel, .sentinel, .sentinel, .sentinel, .sentinel, .sentinel, .sentinel] true :=
  OpenClaim.laidByTextAt_later rfl rfl tie2 noOwnUnsafe
theorem termReadsUpto_row_tie : Rows.termReadsUptoRow.laidByTextAt .later Tryd.pinned [.sentinel, .sentinel, .sentinel, .sentinel, .sentinel, .sentinel, .sentinel, .sentinel, .sentinel, .sentinel, .sentinel, .sentinel, .sentinel, .sentinel, .sentinel, .sentinel, .sentinel, .sentinel, .sentinel, .sentinel] true :=
  OpenClaim.laidByTextAt_later rfl rfl tie2 noOwnUnsafe
theorem termMakesUpto_row_tie : Rows.termMakesUptoRow.laidByTextAt .later Tryd.pinned [.sentinel, .sentinel, .sentinel, .sentinel, .sentinel, .sentinel, .sentinel, .sentinel, .sentinel, .sentinel, .sentinel, .sentinel, .sentinel, .sentinel, .sentinel, .sentinel, .sentinel, .sentinel, .sentinel, .sentinel] true :=
  OpenClaim.laidByTextAt_later rfl rfl tie2 noOwnUnsafe
end Go.Proofs.YtfcemnebhapidaaDoor
