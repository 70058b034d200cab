/-
  DERIVED. GIVEN WITH THE SEED: THE PROGRAM's TIES (one call each: nine closed facts by the kernel) AND EACH ROW's TIE, after the 31st guide's Derived/Test/Toyas{Tie, Card}.lean. No idea stands in it: it is a product of the set-up. Laid BY PROGRAM, IN A SANDBOX (cutbox-door.mjs). By AI agents, Wed Nov 11 2026. No macro, syntax, notation, axiom, sorry.
-/
import Derived.Test.YtjfikbnfabdkoaaDoorRows
import Derived.LaidByTextLater
import Derived.SevenTiedAt
import Derived.LaidSub
import Derived.LaidOnce
namespace Go.Proofs.YtjfikbnfabdkoaaDoor
open Go
set_option maxRecDepth 100000
theorem seatTie1 : Tryd.prog.laidByTextLater [("errors.errorType", Rows.laid_errors_errorType), ("speakeasy/api.ErrArg", Rows.laid_speakeasy_api_ErrArg), ("speakeasy/api.ErrEnd", Rows.laid_speakeasy_api_ErrEnd), ("speakeasy/api.ErrForm", Rows.laid_speakeasy_api_ErrForm), ("speakeasy/api.ErrBig", Rows.laid_speakeasy_api_ErrBig), ("speakeasy/api.ErrMac", Rows.laid_speakeasy_api_ErrMac), ("speakeasy/api.ErrState", Rows.laid_speakeasy_api_ErrState), ("speakeasy/api.ErrFull", Rows.laid_speakeasy_api_ErrFull), ("speakeasy/api.ErrNone", Rows.laid_speakeasy_api_ErrNone), ("speakeasy/api.ErrHave", Rows.laid_speakeasy_api_ErrHave), ("speakeasy/api.ErrKey", Rows.laid_speakeasy_api_ErrKey), ("speakeasy/api.ErrSign", Rows.laid_speakeasy_api_ErrSign), ("speakeasy/api.ErrVersion", Rows.laid_speakeasy_api_ErrVersion), ("speakeasy/api.ErrAlgo", Rows.laid_speakeasy_api_ErrAlgo), ("speakeasy/api.ErrHost", Rows.laid_speakeasy_api_ErrHost), ("speakeasy/api.ErrAuth", Rows.laid_speakeasy_api_ErrAuth), ("speakeasy/api.ErrQuota", Rows.laid_speakeasy_api_ErrQuota), ("speakeasy/api.ErrName", Rows.laid_speakeasy_api_ErrName), ("speakeasy/api.ErrGone", Rows.laid_speakeasy_api_ErrGone), ("speakeasy/api.ErrWindow", Rows.laid_speakeasy_api_ErrWindow), ("speakeasy/api.ErrKind", Rows.laid_speakeasy_api_ErrKind), ("speakeasy/message.rows", Rows.laid_speakeasy_message_rows)] [.handle, .sentinel, .sentinel, .sentinel, .sentinel, .sentinel, .sentinel, .sentinel, .sentinel, .sentinel, .sentinel, .sentinel, .sentinel, .sentinel, .sentinel, .sentinel, .sentinel, .sentinel, .sentinel, .sentinel, .sentinel, .data] true :=
  Program.laidByTextLater_by_one 440 8 88 (by kernel_rfl) (by kernel_rfl) (by kernel_rfl) (by kernel_rfl) (by kernel_rfl) (by kernel_rfl) (fun _ _ => by kernel_rfl)
theorem seatTie2 : Tryd.prog.laidByTextLater [("unicode/utf8.acceptRanges", Rows.laid_unicode_utf8_acceptRanges), ("speakeasy/api.ErrArg", Rows.laid_speakeasy_api_ErrArg), ("speakeasy/api.ErrEnd", Rows.laid_speakeasy_api_ErrEnd), ("speakeasy/api.ErrForm", Rows.laid_speakeasy_api_ErrForm), ("speakeasy/api.ErrBig", Rows.laid_speakeasy_api_ErrBig), ("speakeasy/api.ErrKind", Rows.laid_speakeasy_api_ErrKind), ("speakeasy/message.rows", Rows.laid_speakeasy_message_rows)] [.data, .sentinel, .sentinel, .sentinel, .sentinel, .sentinel, .data] true :=
  Program.laidByTextLater_by_one 440 8 88 (by kernel_rfl) (by kernel_rfl) (by kernel_rfl) (by kernel_rfl) (by kernel_rfl) (by kernel_rfl) (fun _ _ => by kernel_rfl)
theorem seatTie3 : Tryd.prog.laidByTextLater [("unicode/utf8.acceptRanges", Rows.laid_unicode_utf8_acceptRanges), ("speakeasy/api.ErrArg", Rows.laid_speakeasy_api_ErrArg), ("speakeasy/api.ErrEnd", Rows.laid_speakeasy_api_ErrEnd), ("speakeasy/api.ErrForm", Rows.laid_speakeasy_api_ErrForm), ("speakeasy/api.ErrBig", Rows.laid_speakeasy_api_ErrBig), ("speakeasy/api.ErrMac", Rows.laid_speakeasy_api_ErrMac), ("speakeasy/api.ErrState", Rows.laid_speakeasy_api_ErrState), ("speakeasy/api.ErrFull", Rows.laid_speakeasy_api_ErrFull), ("speakeasy/api.ErrNone", Rows.laid_speakeasy_api_ErrNone), ("speakeasy/api.ErrHave", Rows.laid_speakeasy_api_ErrHave), ("speakeasy/api.ErrKey", Rows.laid_speakeasy_api_ErrKey), ("speakeasy/api.ErrSign", Rows.laid_speakeasy_api_ErrSign), ("speakeasy/api.ErrVersion", Rows.laid_speakeasy_api_ErrVersion), ("speakeasy/api.ErrAlgo", Rows.laid_speakeasy_api_ErrAlgo), ("speakeasy/api.ErrHost", Rows.laid_speakeasy_api_ErrHost), ("speakeasy/api.ErrAuth", Rows.laid_speakeasy_api_ErrAuth), ("speakeasy/api.ErrQuota", Rows.laid_speakeasy_api_ErrQuota), ("speakeasy/api.ErrName", Rows.laid_speakeasy_api_ErrName), ("speakeasy/api.ErrGone", Rows.laid_speakeasy_api_ErrGone), ("speakeasy/api.ErrWindow", Rows.laid_speakeasy_api_ErrWindow), ("speakeasy/api.ErrKind", Rows.laid_speakeasy_api_ErrKind), ("speakeasy/message.rows", Rows.laid_speakeasy_message_rows)] [.data, .sentinel, .sentinel, .sentinel, .sentinel, .sentinel, .sentinel, .sentinel, .sentinel, .sentinel, .sentinel, .sentinel, .sentinel, .sentinel, .sentinel, .sentinel, .sentinel, .sentinel, .sentinel, .sentinel, .sentinel, .data] true :=
  Program.laidByTextLater_by_one 440 8 88 (by kernel_rfl) (by kernel_rfl) (by kernel_rfl) (by kernel_rfl) (by kernel_rfl) (by kernel_rfl) (fun _ _ => by kernel_rfl)
theorem pin_laid_unicode_utf8_first : Tryd.pinned.checked.prog.pinnedFits "unicode/utf8.first" = true := by kernel_rfl
theorem noOwnUnsafe : Tryd.pinned.checked.prog.headLifts.contains "ownunsafe" = false := by kernel_rfl
theorem tie : Tryd.prog.laidByTextLater [("speakeasy/api.ErrArg", Rows.laid_speakeasy_api_ErrArg), ("speakeasy/api.ErrBig", Rows.laid_speakeasy_api_ErrBig), ("speakeasy/api.ErrAlgo", Rows.laid_speakeasy_api_ErrAlgo), ("speakeasy/api.ErrKind", Rows.laid_speakeasy_api_ErrKind), ("speakeasy/message.rows", Rows.laid_speakeasy_message_rows)] [.sentinel, .sentinel, .sentinel, .sentinel, .data] true :=
  Program.laidByTextLater.sub seatTie1 ["speakeasy/api.ErrArg", "speakeasy/api.ErrBig", "speakeasy/api.ErrAlgo", "speakeasy/api.ErrKind", "speakeasy/message.rows"] (by kernel_rfl) (by kernel_rfl)
theorem offerMakes_row_tie : Rows.offerMakesRow.laidByTextAt .later Tryd.pinned [.sentinel, .sentinel, .sentinel, .sentinel, .data] true :=
  OpenClaim.laidByTextAt_later rfl rfl tie noOwnUnsafe
theorem tie2 : Tryd.prog.laidByTextLater [("speakeasy/api.ErrArg", Rows.laid_speakeasy_api_ErrArg), ("speakeasy/api.ErrEnd", Rows.laid_speakeasy_api_ErrEnd), ("speakeasy/api.ErrForm", Rows.laid_speakeasy_api_ErrForm), ("speakeasy/api.ErrBig", Rows.laid_speakeasy_api_ErrBig), ("speakeasy/api.ErrMac", Rows.laid_speakeasy_api_ErrMac), ("speakeasy/api.ErrState", Rows.laid_speakeasy_api_ErrState), ("speakeasy/api.ErrFull", Rows.laid_speakeasy_api_ErrFull), ("speakeasy/api.ErrNone", Rows.laid_speakeasy_api_ErrNone), ("speakeasy/api.ErrHave", Rows.laid_speakeasy_api_ErrHave), ("speakeasy/api.ErrKey", Rows.laid_speakeasy_api_ErrKey), ("speakeasy/api.ErrSign", Rows.laid_speakeasy_api_ErrSign), ("speakeasy/api.ErrVersion", Rows.laid_speakeasy_api_ErrVersion), ("speakeasy/api.ErrAlgo", Rows.laid_speakeasy_api_ErrAlgo), ("speakeasy/api.ErrHost", Rows.laid_speakeasy_api_ErrHost), ("speakeasy/api.ErrAuth", Rows.laid_speakeasy_api_ErrAuth), ("speakeasy/api.ErrQuota", Rows.laid_speakeasy_api_ErrQuota), ("speakeasy/api.ErrName", Rows.laid_speakeasy_api_ErrName), ("speakeasy/api.ErrGone", Rows.laid_speakeasy_api_ErrGone), ("speakeasy/api.ErrWindow", Rows.laid_speakeasy_api_ErrWindow), ("speakeasy/api.ErrKind", Rows.laid_speakeasy_api_ErrKind), ("speakeasy/message.rows", Rows.laid_speakeasy_message_rows)] [.sentinel, .sentinel, .sentinel, .sentinel, .sentinel, .sentinel, .sentinel, .sentinel, .sentinel, .sentinel, .sentinel, .sentinel, .sentinel, .sentinel, .sentinel, .sentinel, .sentinel, .sentinel, .sentinel, .sentinel, .data] true :=
  Program.laidByTextLater.sub seatTie1 ["speakeasy/api.ErrArg", "speakeasy/api.ErrEnd", "speakeasy/api.ErrForm", "speakeasy/api.ErrBig", "speakeasy/api.ErrMac", "speakeasy/api.ErrState", "speakeasy/api.ErrFull", "speakeasy/api.ErrNone", "speakeasy/api.ErrHave", "speakeasy/api.ErrKey", "speakeasy/api.ErrSign", "speakeasy/api.ErrVersion", "speakeasy/api.ErrAlgo", "speakeasy/api.ErrHost", "speakeasy/api.ErrAuth", "speakeasy/api.ErrQuota", "speakeasy/api.ErrName", "speakeasy/api.ErrGone", "speakeasy/api.ErrWindow", "speakeasy/api.ErrKind", "speakeasy/message.rows"] (by kernel_rfl) (by kernel_rfl)
theorem offerChooses_row_tie : Rows.offerChoosesRow.laidByTextAt .later Tryd.pinned [.sentinel, .sentinel, .sentinel, .sentinel, .sentinel, .sentinel, .sentinel, .sentinel, .sentinel, .sentinel, .sentinel, .sentinel, .sentinel, .sentinel, .sentinel, .sentinel, .sentinel, .sentinel, .sentinel, .sentinel, .data] true :=
  OpenClaim.laidByTextAt_later rfl rfl tie2 noOwnUnsafe
theorem fits3 : Tryd.pinned.checked.prog.listedFits [("unicode/utf8.acceptRanges", Rows.laid_unicode_utf8_acceptRanges), ("speakeasy/api.ErrArg", Rows.laid_speakeasy_api_ErrArg), ("speakeasy/api.ErrEnd", Rows.laid_speakeasy_api_ErrEnd), ("speakeasy/api.ErrForm", Rows.laid_speakeasy_api_ErrForm), ("speakeasy/api.ErrBig", Rows.laid_speakeasy_api_ErrBig), ("speakeasy/api.ErrKind", Rows.laid_speakeasy_api_ErrKind), ("speakeasy/message.rows", Rows.laid_speakeasy_message_rows), ("unicode/utf8.first", Rows.laid_unicode_utf8_first)] = true := by
  unfold Program.listedFits
  rw [noOwnUnsafe]
  kernel_rfl
theorem tie3 : Tryd.prog.laidByTextLater [("unicode/utf8.acceptRanges", Rows.laid_unicode_utf8_acceptRanges), ("speakeasy/api.ErrArg", Rows.laid_speakeasy_api_ErrArg), ("speakeasy/api.ErrEnd", Rows.laid_speakeasy_api_ErrEnd), ("speakeasy/api.ErrForm", Rows.laid_speakeasy_api_ErrForm), ("speakeasy/api.ErrBig", Rows.laid_speakeasy_api_ErrBig), ("speakeasy/api.ErrKind", Rows.laid_speakeasy_api_ErrKind), ("speakeasy/message.rows", Rows.laid_speakeasy_message_rows)] [.data, .sentinel, .sentinel, .sentinel, .sentinel, .sentinel, .data] true :=
  Program.laidByTextLater.sub seatTie2 ["unicode/utf8.acceptRanges", "speakeasy/api.ErrArg", "speakeasy/api.ErrEnd", "speakeasy/api.ErrForm", "speakeasy/api.ErrBig", "speakeasy/api.ErrKind", "speakeasy/message.rows"] (by kernel_rfl) (by kernel_rfl)
theorem messageKinds_row_tie : Rows.messageKindsRow.laidByTextAt .later Tryd.pinned [.data, .sentinel, .sentinel, .sentinel, .sentinel, .sentinel, .data, .pinned] true :=
  OpenClaim.laidByTextAt_pinned rfl rfl tie3 rfl rfl rfl rfl (fun y hy _e => by
    simp only [Rows.messageKindsRow, List.zip_cons_cons, List.zip_nil_right, List.mem_cons, List.mem_nil_iff, or_false] at hy
    rcases hy with rfl | rfl | rfl | rfl | rfl | rfl | rfl | rfl
    · cases _e
    · cases _e
    · cases _e
    · cases _e
    · cases _e
    · cases _e
    · cases _e
    · exact ⟨pin_laid_unicode_utf8_first, by kernel_rfl⟩) fits3
theorem tie4 : Tryd.prog.laidByTextLater [("errors.errorType", Rows.laid_errors_errorType), ("speakeasy/api.ErrArg", Rows.laid_speakeasy_api_ErrArg), ("speakeasy/api.ErrEnd", Rows.laid_speakeasy_api_ErrEnd), ("speakeasy/api.ErrForm", Rows.laid_speakeasy_api_ErrForm), ("speakeasy/api.ErrBig", Rows.laid_speakeasy_api_ErrBig), ("speakeasy/api.ErrMac", Rows.laid_speakeasy_api_ErrMac), ("speakeasy/api.ErrState", Rows.laid_speakeasy_api_ErrState), ("speakeasy/api.ErrFull", Rows.laid_speakeasy_api_ErrFull), ("speakeasy/api.ErrNone", Rows.laid_speakeasy_api_ErrNone), ("speakeasy/api.ErrHave", Rows.laid_speakeasy_api_ErrHave), ("speakeasy/api.ErrKey", Rows.laid_speakeasy_api_ErrKey), ("speakeasy/api.ErrSign", Rows.laid_speakeasy_api_ErrSign), ("speakeasy/api.ErrVersion", Rows.laid_speakeasy_api_ErrVersion), ("speakeasy/api.ErrAlgo", Rows.laid_speakeasy_api_ErrAlgo), ("speakeasy/api.ErrHost", Rows.laid_speakeasy_api_ErrHost), ("speakeasy/api.ErrAuth", Rows.laid_speakeasy_api_ErrAuth), ("speakeasy/api.ErrQuota", Rows.laid_speakeasy_api_ErrQuota), ("speakeasy/api.ErrName", Rows.laid_speakeasy_api_ErrName), ("speakeasy/api.ErrGone", Rows.laid_speakeasy_api_ErrGone), ("speakeasy/api.ErrWindow", Rows.laid_speakeasy_api_ErrWindow), ("speakeasy/api.ErrKind", Rows.laid_speakeasy_api_ErrKind), ("speakeasy/message.rows", Rows.laid_speakeasy_message_rows)] [.handle, .sentinel, .sentinel, .sentinel, .sentinel, .sentinel, .sentinel, .sentinel, .sentinel, .sentinel, .sentinel, .sentinel, .sentinel, .sentinel, .sentinel, .sentinel, .sentinel, .sentinel, .sentinel, .sentinel, .sentinel, .data] true :=
  Program.laidByTextLater.sub seatTie1 ["errors.errorType", "speakeasy/api.ErrArg", "speakeasy/api.ErrEnd", "speakeasy/api.ErrForm", "speakeasy/api.ErrBig", "speakeasy/api.ErrMac", "speakeasy/api.ErrState", "speakeasy/api.ErrFull", "speakeasy/api.ErrNone", "speakeasy/api.ErrHave", "speakeasy/api.ErrKey", "speakeasy/api.ErrSign", "speakeasy/api.ErrVersion", "speakeasy/api.ErrAlgo", "speakeasy/api.ErrHost", "speakeasy/api.ErrAuth", "speakeasy/api.ErrQuota", "speakeasy/api.ErrName", "speakeasy/api.ErrGone", "speakeasy/api.ErrWindow", "speakeasy/api.ErrKind", "speakeasy/message.rows"] (by kernel_rfl) (by kernel_rfl)
theorem offerAgrees_row_tie : Rows.offerAgreesRow.laidByTextAt .later Tryd.pinned [.handle, .sentinel, .sentinel, .sentinel, .sentinel, .sentinel, .sentinel, .sentinel, .sentinel, .sentinel, .sentinel, .sentinel, .sentinel, .sentinel, .sentinel, .sentinel, .sentinel, .sentinel, .sentinel, .sentinel, .sentinel, .data] true :=
  OpenClaim.laidByTextAt_later rfl rfl tie4 noOwnUnsafe
theorem fits5 : Tryd.pinned.checked.prog.listedFits [("unicode/utf8.acceptRanges", Rows.laid_unicode_utf8_acceptRanges), ("speakeasy/api.ErrArg", Rows.laid_speakeasy_api_ErrArg), ("speakeasy/api.ErrEnd", Rows.laid_speakeasy_api_ErrEnd), ("speakeasy/api.ErrForm", Rows.laid_speakeasy_api_ErrForm), ("speakeasy/api.ErrBig", Rows.laid_speakeasy_api_ErrBig), ("speakeasy/api.ErrMac", Rows.laid_speakeasy_api_ErrMac), ("speakeasy/api.ErrState", Rows.laid_speakeasy_api_ErrState), ("speakeasy/api.ErrFull", Rows.laid_speakeasy_api_ErrFull), ("speakeasy/api.ErrNone", Rows.laid_speakeasy_api_ErrNone), ("speakeasy/api.ErrHave", Rows.laid_speakeasy_api_ErrHave), ("speakeasy/api.ErrKey", Rows.laid_speakeasy_api_ErrKey), ("speakeasy/api.ErrSign", Rows.laid_speakeasy_api_ErrSign), ("speakeasy/api.ErrVersion", Rows.laid_speakeasy_api_ErrVersion), ("speakeasy/api.ErrAlgo", Rows.laid_speakeasy_api_ErrAlgo), ("speakeasy/api.ErrHost", Rows.laid_speakeasy_api_ErrHost), ("speakeasy/api.ErrAuth", Rows.laid_speakeasy_api_ErrAuth), ("speakeasy/api.ErrQuota", Rows.laid_speakeasy_api_ErrQuota), ("speakeasy/api.ErrName", Rows.laid_speakeasy_api_ErrName), ("speakeasy/api.ErrGone", Rows.laid_speakeasy_api_ErrGone), ("speakeasy/api.ErrWindow", Rows.laid_speakeasy_api_ErrWindow), ("speakeasy/api.ErrKind", Rows.laid_speakeasy_api_ErrKind), ("speakeasy/message.rows", Rows.laid_speakeasy_message_rows), ("unicode/utf8.first", Rows.laid_unicode_utf8_first)] = true := by
  unfold Program.listedFits
  rw [noOwnUnsafe]
  kernel_rfl
theorem tie5 : Tryd.prog.laidByTextLater [("unicode/utf8.acceptRanges", Rows.laid_unicode_utf8_acceptRanges), ("speakeasy/api.ErrArg", Rows.laid_speakeasy_api_ErrArg), ("speakeasy/api.ErrEnd", Rows.laid_speakeasy_api_ErrEnd), ("speakeasy/api.ErrForm", Rows.laid_speakeasy_api_ErrForm), ("speakeasy/api.ErrBig", Rows.laid_speakeasy_api_ErrBig), ("speakeasy/api.ErrMac", Rows.laid_speakeasy_api_ErrMac), ("speakeasy/api.ErrState", Rows.laid_speakeasy_api_ErrState), ("speakeasy/api.ErrFull", Rows.laid_speakeasy_api_ErrFull), ("speakeasy/api.ErrNone", Rows.laid_speakeasy_api_ErrNone), ("speakeasy/api.ErrHave", Rows.laid_speakeasy_api_ErrHave), ("speakeasy/api.ErrKey", Rows.laid_speakeasy_api_ErrKey), ("speakeasy/api.ErrSign", Rows.laid_speakeasy_api_ErrSign), ("speakeasy/api.ErrVersion", Rows.laid_speakeasy_api_ErrVersion), ("speakeasy/api.ErrAlgo", Rows.laid_speakeasy_api_ErrAlgo), ("speakeasy/api.ErrHost", Rows.laid_speakeasy_api_ErrHost), ("speakeasy/api.ErrAuth", Rows.laid_speakeasy_api_ErrAuth), ("speakeasy/api.ErrQuota", Rows.laid_speakeasy_api_ErrQuota), ("speakeasy/api.ErrName", Rows.laid_speakeasy_api_ErrName), ("speakeasy/api.ErrGone", Rows.laid_speakeasy_api_ErrGone), ("speakeasy/api.ErrWindow", Rows.laid_speakeasy_api_ErrWindow), ("speakeasy/api.ErrKind", Rows.laid_speakeasy_api_ErrKind), ("speakeasy/message.rows", Rows.laid_speakeasy_message_rows)] [.data, .sentinel, .sentinel, .sentinel, .sentinel, .sentinel, .sentinel, .sentinel, .sentinel, .sentinel, .sentinel, .sentinel, .sentinel, .sentinel, .sentinel, .sentinel, .sentinel, .sentinel, .sentinel, .sentinel, .sentinel, .data] true :=
  Program.laidByTextLater.sub seatTie3 ["unicode/utf8.acceptRanges", "speakeasy/api.ErrArg", "speakeasy/api.ErrEnd", "speakeasy/api.ErrForm", "speakeasy/api.ErrBig", "speakeasy/api.ErrMac", "speakeasy/api.ErrState", "speakeasy/api.ErrFull", "speakeasy/api.ErrNone", "speakeasy/api.ErrHave", "speakeasy/api.ErrKey", "speakeasy/api.ErrSign", "speakeasy/api.ErrVersion", "speakeasy/api.ErrAlgo", "speakeasy/api.ErrHost", "speakeasy/api.ErrAuth", "speakeasy/api.ErrQuota", "speakeasy/api.ErrName", "speakeasy/api.ErrGone", "speakeasy/api.ErrWindow", "speakeasy/api.ErrKind", "speakeasy/message.rows"] (by kernel_rfl) (by kernel_rfl)
theorem messageBack_row_tie : Rows.messageBackRow.laidByTextAt .later Tryd.pinned [.data, .sentinel, .sentinel, .sentinel, .sentinel, .sentinel, .sentinel, .sentinel, .sentinel, .sentinel, .sentinel, .sentinel, .sentinel, .sentinel, .sentinel, .sentinel, .sentinel, .sentinel, .sentinel, .sentinel, .sentinel, .data, .pinned] true :=
  OpenClaim.laidByTextAt_pinned rfl rfl tie5 rfl rfl rfl rfl (fun y hy _e => by
    simp only [Rows.messageBackRow, List.zip_cons_cons, List.zip_nil_right, List.mem_cons, List.mem_nil_iff, or_false] at hy
    rcases hy with rfl | rfl | rfl | rfl | rfl | rfl | rfl | rfl | rfl | rfl | rfl | rfl | rfl | rfl | rfl | rfl | rfl | rfl | rfl | rfl | rfl | rfl | rfl
    · cases _e
    · cases _e
    · cases _e
    · cases _e
    · cases _e
    · cases _e
    · cases _e
    · cases _e
    · cases _e
    · cases _e
    · cases _e
    · cases _e
    · cases _e
    · cases _e
    · cases _e
    · cases _e
    · cases _e
    · cases _e
    · cases _e
    · cases _e
    · cases _e
    · cases _e
    · exact ⟨pin_laid_unicode_utf8_first, by kernel_rfl⟩) fits5
theorem messageReads_row_tie : Rows.messageReadsRow.laidByTextAt .later Tryd.pinned [.data, .sentinel, .sentinel, .sentinel, .sentinel, .sentinel, .sentinel, .sentinel, .sentinel, .sentinel, .sentinel, .sentinel, .sentinel, .sentinel, .sentinel, .sentinel, .sentinel, .sentinel, .sentinel, .sentinel, .sentinel, .data, .pinned] true :=
  OpenClaim.laidByTextAt_pinned rfl rfl tie5 rfl rfl rfl rfl (fun y hy _e => by
    simp only [Rows.messageReadsRow, List.zip_cons_cons, List.zip_nil_right, List.mem_cons, List.mem_nil_iff, or_false] at hy
    rcases hy with rfl | rfl | rfl | rfl | rfl | rfl | rfl | rfl | rfl | rfl | rfl | rfl | rfl | rfl | rfl | rfl | rfl | rfl | rfl | rfl | rfl | rfl | rfl
    · cases _e
    · cases _e
    · cases _e
    · cases _e
    · cases _e
    · cases _e
    · cases _e
    · cases _e
    · cases _e
    · cases _e
    · cases _e
    · cases _e
    · cases _e
    · cases _e
    · cases _e
    · cases _e
    · cases _e
    · cases _e
    · cases _e
    · cases _e
    · cases _e
    · cases _e
    · exact ⟨pin_laid_unicode_utf8_first, by kernel_rfl⟩) fits5
theorem messageLong_row_tie : Rows.messageLongRow.laidByTextAt .later Tryd.pinned [.data, .sentinel, .sentinel, .sentinel, .sentinel, .sentinel, .sentinel, .sentinel, .sentinel, .sentinel, .sentinel, .sentinel, .sentinel, .sentinel, .sentinel, .sentinel, .sentinel, .sentinel, .sentinel, .sentinel, .sentinel, .data, .pinned] true :=
  OpenClaim.laidByTextAt_pinned rfl rfl tie5 rfl rfl rfl rfl (fun y hy _e => by
    simp only [Rows.messageLongRow, List.zip_cons_cons, List.zip_nil_right, List.mem_cons, List.mem_nil_iff, or_false] at hy
    rcases hy with rfl | rfl | rfl | rfl | rfl | rfl | rfl | rfl | rfl | rfl | rfl | rfl | rfl | rfl | rfl | rfl | rfl | rfl | rfl | rfl | rfl | rfl | rfl
    · cases _e
    · cases _e
    · cases _e
    · cases _e
    · cases _e
    · cases _e
    · cases _e
    · cases _e
    · cases _e
    · cases _e
    · cases _e
    · cases _e
    · cases _e
    · cases _e
    · cases _e
    · cases _e
    · cases _e
    · cases _e
    · cases _e
    · cases _e
    · cases _e
    · cases _e
    · exact ⟨pin_laid_unicode_utf8_first, by kernel_rfl⟩) fits5
theorem offerMakesUpto_row_tie : Rows.offerMakesUptoRow.laidByTextAt .later Tryd.pinned [.sentinel, .sentinel, .sentinel, .sentinel, .data] true :=
  OpenClaim.laidByTextAt_later rfl rfl tie noOwnUnsafe
theorem offerChoosesUpto_row_tie : Rows.offerChoosesUptoRow.laidByTextAt .later Tryd.pinned [.sentinel, .sentinel, .sentinel, .sentinel, .sentinel, .sentinel, .sentinel, .sentinel, .sentinel, .sentinel, .sentinel, .sentinel, .sentinel, .sentinel, .sentinel, .sentinel, .sentinel, .sentinel, .sentinel, .sentinel, .data] true :=
  OpenClaim.laidByTextAt_later rfl rfl tie2 noOwnUnsafe
theorem messageKindsUpto_row_tie : Rows.messageKindsUptoRow.laidByTextAt .later Tryd.pinned [.data, .sentinel, .sentinel, .sentinel, .sentinel, .sentinel, .data, .pinned] true :=
  OpenClaim.laidByTextAt_pinned rfl rfl tie3 rfl rfl rfl rfl (fun y hy _e => by
    simp only [Rows.messageKindsUptoRow, List.zip_cons_cons, List.zip_nil_right, List.mem_cons, List.mem_nil_iff, or_false] at hy
    rcases hy with rfl | rfl | rfl | rfl | rfl | rfl | rfl | rfl
    · cases _e
    · cases _e
    · cases _e
    · cases _e
    · cases _e
    · cases _e
    · cases _e
    · exact ⟨pin_laid_unicode_utf8_first, by kernel_rfl⟩) fits3
theorem offerAgreesUpto_row_tie : Rows.offerAgreesUptoRow.laidByTextAt .later Tryd.pinned [.handle, .sentinel, .sentinel, .sentinel, .sentinel, .sentinel, .sentinel, .sentinel, .sentinel, .sentinel, .sentinel, .sentinel, .sentinel, .sentinel, .sentinel, .sentinel, .sentinel, .sentinel, .sentinel, .sentinel, .sentinel, .data] true :=
  OpenClaim.laidByTextAt_later rfl rfl tie4 noOwnUnsafe
theorem messageBackUpto_row_tie : Rows.messageBackUptoRow.laidByTextAt .later Tryd.pinned [.data, .sentinel, .sentinel, .sentinel, .sentinel, .sentinel, .sentinel, .sentinel, .sentinel, .sentinel, .sentinel, .sentinel, .sentinel, .sentinel, .sentinel, .sentinel, .sentinel, .sentinel, .sentinel, .sentinel, .sentinel, .data, .pinned] true :=
  OpenClaim.laidByTextAt_pinned rfl rfl tie5 rfl rfl rfl rfl (fun y hy _e => by
    simp only [Rows.messageBackUptoRow, List.zip_cons_cons, List.zip_nil_right, List.mem_cons, List.mem_nil_iff, or_false] at hy
    rcases hy with rfl | rfl | rfl | rfl | rfl | rfl | rfl | rfl | rfl | rfl | rfl | rfl | rfl | rfl | rfl | rfl | rfl | rfl | rfl | rfl | rfl | rfl | rfl
    · cases _e
    · cases _e
    · cases _e
    · cases _e
    · cases _e
    · cases _e
    · cases _e
    · cases _e
    · cases _e
    · cases _e
    · cases _e
    · cases _e
    · cases _e
    · cases _e
    · cases _e
    · cases _e
    · cases _e
    · cases _e
    · cases _e
    · cases _e
    · cases _e
    · cases _e
    · exact ⟨pin_laid_unicode_utf8_first, by kernel_rfl⟩) fits5
theorem messageReadsUpto_row_tie : Rows.messageReadsUptoRow.laidByTextAt .later Tryd.pinned [.data, .sentinel, .sentinel, .sentinel, .sentinel, .sentinel, .sentinel, .sentinel, .sentinel, .sentinel, .sentinel, .sentinel, .sentinel, .sentinel, .sentinel, .sentinel, .sentinel, .sentinel, .sentinel, .sentinel, .sentinel, .data, .pinned] true :=
  OpenClaim.laidByTextAt_pinned rfl rfl tie5 rfl rfl rfl rfl (fun y hy _e => by
    simp only [Rows.messageReadsUptoRow, List.zip_cons_cons, List.zip_nil_right, List.mem_cons, List.mem_nil_iff, or_false] at hy
    rcases hy with rfl | rfl | rfl | rfl | rfl | rfl | rfl | rfl | rfl | rfl | rfl | rfl | rfl | rfl | rfl | rfl | rfl | rfl | rfl | rfl | rfl | rfl | rfl
    · cases _e
    · cases _e
    · cases _e
    · cases _e
    · cases _e
    · cases _e
    · cases _e
    · cases _e
    · cases _e
    · cases _e
    · cases _e
    · cases _e
    · cases _e
    · cases _e
    · cases _e
    · cases _e
    · cases _e
    · cases _e
    · cases _e
    · cases _e
    · cases _e
    · cases _e
    · exact ⟨pin_laid_unicode_utf8_first, by kernel_rfl⟩) fits5
theorem messageLongUpto_row_tie : Rows.messageLongUptoRow.laidByTextAt .later Tryd.pinned [.data, .sentinel, .sentinel, .sentinel, .sentinel, .sentinel, .sentinel, .sentinel, .sentinel, .sentinel, .sentinel, .sentinel, .sentinel, .sentinel, .sentinel, .sentinel, .sentinel, .sentinel, .sentinel, .sentinel, .sentinel, .data, .pinned] true :=
  OpenClaim.laidByTextAt_pinned rfl rfl tie5 rfl rfl rfl rfl (fun y hy _e => by
    simp only [Rows.messageLongUptoRow, List.zip_cons_cons, List.zip_nil_right, List.mem_cons, List.mem_nil_iff, or_false] at hy
    rcases hy with rfl | rfl | rfl | rfl | rfl | rfl | rfl | rfl | rfl | rfl | rfl | rfl | rfl | rfl | rfl | rfl | rfl | rfl | rfl | rfl | rfl | rfl | rfl
    · cases _e
    · cases _e
    · cases _e
    · cases _e
    · cases _e
    · cases _e
    · cases _e
    · cases _e
    · cases _e
    · cases _e
    · cases _e
    · cases _e
    · cases _e
    · cases _e
    · cases _e
    · cases _e
    · cases _e
    · cases _e
    · cases _e
    · cases _e
    · cases _e
    · cases _e
    · exact ⟨pin_laid_unicode_utf8_first, by kernel_rfl⟩) fits5
end Go.Proofs.YtjfikbnfabdkoaaDoor
