/-
  DERIVED. GIVEN WITH THE SEED: THE PROGRAM's TIES (one call each: nine closed facts by the kernel) AND EACH ROW's TIE, after the 31st guide's Derived/Test/Toyas{Tie, Card}.lean. No idea stands in it: it is a product of the set-up. Laid BY PROGRAM, IN A SANDBOX (cutbox-door.mjs). By AI agents, Wed Nov 11 2026. No macro, syntax, notation, axiom, sorry.
-/
import Derived.Test.YtonjgfbefhefjaaDoorRows
import Derived.LaidByTextLater
import Derived.SevenTiedAt
import Derived.LaidSub
import Derived.LaidOnce
namespace Go.Proofs.YtonjgfbefhefjaaDoor
open Go
set_option maxRecDepth 100000
theorem seatTie1 : Tryd.prog.laidByTextLater [("math/bits.deBruijn32tab", Rows.laid_math_bits_deBruijn32tab), ("math/bits.deBruijn64tab", Rows.laid_math_bits_deBruijn64tab), ("internal/strconv.uint64pow10", Rows.laid_internal_strconv_uint64pow10), ("unicode/utf8.acceptRanges", Rows.laid_unicode_utf8_acceptRanges), ("speakeasy/api.ErrArg", Rows.laid_speakeasy_api_ErrArg), ("speakeasy/api.ErrEnd", Rows.laid_speakeasy_api_ErrEnd), ("speakeasy/api.ErrForm", Rows.laid_speakeasy_api_ErrForm), ("speakeasy/api.ErrBig", Rows.laid_speakeasy_api_ErrBig), ("speakeasy/api.ErrMac", Rows.laid_speakeasy_api_ErrMac), ("speakeasy/api.ErrState", Rows.laid_speakeasy_api_ErrState), ("speakeasy/api.ErrFull", Rows.laid_speakeasy_api_ErrFull), ("speakeasy/api.ErrNone", Rows.laid_speakeasy_api_ErrNone), ("speakeasy/api.ErrHave", Rows.laid_speakeasy_api_ErrHave), ("speakeasy/api.ErrKey", Rows.laid_speakeasy_api_ErrKey), ("speakeasy/api.ErrSign", Rows.laid_speakeasy_api_ErrSign), ("speakeasy/api.ErrVersion", Rows.laid_speakeasy_api_ErrVersion), ("speakeasy/api.ErrAlgo", Rows.laid_speakeasy_api_ErrAlgo), ("speakeasy/api.ErrHost", Rows.laid_speakeasy_api_ErrHost), ("speakeasy/api.ErrAuth", Rows.laid_speakeasy_api_ErrAuth), ("speakeasy/api.ErrQuota", Rows.laid_speakeasy_api_ErrQuota), ("speakeasy/api.ErrName", Rows.laid_speakeasy_api_ErrName), ("speakeasy/api.ErrGone", Rows.laid_speakeasy_api_ErrGone), ("speakeasy/api.ErrWindow", Rows.laid_speakeasy_api_ErrWindow), ("speakeasy/api.ErrKind", Rows.laid_speakeasy_api_ErrKind), ("speakeasy/line.rows", Rows.laid_speakeasy_line_rows)] [.data, .data, .data, .data, .sentinel, .sentinel, .sentinel, .sentinel, .sentinel, .sentinel, .sentinel, .sentinel, .sentinel, .sentinel, .sentinel, .sentinel, .sentinel, .sentinel, .sentinel, .sentinel, .sentinel, .sentinel, .sentinel, .sentinel, .data] true :=
  Program.laidByTextLater_by_one 443 8 65 (by kernel_rfl) (by kernel_rfl) (by kernel_rfl) (by kernel_rfl) (by kernel_rfl) (by kernel_rfl) (fun _ _ => by kernel_rfl)
theorem pin_laid_unicode_utf8_first : Tryd.pinned.checked.prog.pinnedFits "unicode/utf8.first" = true := by kernel_rfl
theorem noOwnUnsafe : Tryd.pinned.checked.prog.headLifts.contains "ownunsafe" = false := by kernel_rfl
theorem fits1 : Tryd.pinned.checked.prog.listedFits [("math/bits.deBruijn32tab", Rows.laid_math_bits_deBruijn32tab), ("math/bits.deBruijn64tab", Rows.laid_math_bits_deBruijn64tab), ("internal/strconv.uint64pow10", Rows.laid_internal_strconv_uint64pow10), ("unicode/utf8.acceptRanges", Rows.laid_unicode_utf8_acceptRanges), ("speakeasy/api.ErrArg", Rows.laid_speakeasy_api_ErrArg), ("speakeasy/api.ErrEnd", Rows.laid_speakeasy_api_ErrEnd), ("speakeasy/api.ErrForm", Rows.laid_speakeasy_api_ErrForm), ("speakeasy/api.ErrBig", Rows.laid_speakeasy_api_ErrBig), ("speakeasy/api.ErrMac", Rows.laid_speakeasy_api_ErrMac), ("speakeasy/api.ErrState", Rows.laid_speakeasy_api_ErrState), ("speakeasy/api.ErrFull", Rows.laid_speakeasy_api_ErrFull), ("speakeasy/api.ErrNone", Rows.laid_speakeasy_api_ErrNone), ("speakeasy/api.ErrHave", Rows.laid_speakeasy_api_ErrHave), ("speakeasy/api.ErrKey", Rows.laid_speakeasy_api_ErrKey), ("speakeasy/api.ErrSign", Rows.laid_speakeasy_api_ErrSign), ("speakeasy/api.ErrVersion", Rows.laid_speakeasy_api_ErrVersion), ("speakeasy/api.ErrAlgo", Rows.laid_speakeasy_api_ErrAlgo), ("speakeasy/api.ErrHost", Rows.laid_speakeasy_api_ErrHost), ("speakeasy/api.ErrAuth", Rows.laid_speakeasy_api_ErrAuth), ("speakeasy/api.ErrQuota", Rows.laid_speakeasy_api_ErrQuota), ("speakeasy/api.ErrName", Rows.laid_speakeasy_api_ErrName), ("speakeasy/api.ErrGone", Rows.laid_speakeasy_api_ErrGone), ("speakeasy/api.ErrWindow", Rows.laid_speakeasy_api_ErrWindow), ("speakeasy/api.ErrKind", Rows.laid_speakeasy_api_ErrKind), ("speakeasy/line.rows", Rows.laid_speakeasy_line_rows), ("unicode/utf8.first", Rows.laid_unicode_utf8_first)] = true := by
  unfold Program.listedFits
  rw [noOwnUnsafe]
  kernel_rfl
theorem tie : Tryd.prog.laidByTextLater [("math/bits.deBruijn32tab", Rows.laid_math_bits_deBruijn32tab), ("math/bits.deBruijn64tab", Rows.laid_math_bits_deBruijn64tab), ("internal/strconv.uint64pow10", Rows.laid_internal_strconv_uint64pow10), ("unicode/utf8.acceptRanges", Rows.laid_unicode_utf8_acceptRanges), ("speakeasy/api.ErrArg", Rows.laid_speakeasy_api_ErrArg), ("speakeasy/api.ErrEnd", Rows.laid_speakeasy_api_ErrEnd), ("speakeasy/api.ErrForm", Rows.laid_speakeasy_api_ErrForm), ("speakeasy/api.ErrBig", Rows.laid_speakeasy_api_ErrBig), ("speakeasy/api.ErrMac", Rows.laid_speakeasy_api_ErrMac), ("speakeasy/api.ErrState", Rows.laid_speakeasy_api_ErrState), ("speakeasy/api.ErrFull", Rows.laid_speakeasy_api_ErrFull), ("speakeasy/api.ErrNone", Rows.laid_speakeasy_api_ErrNone), ("speakeasy/api.ErrHave", Rows.laid_speakeasy_api_ErrHave), ("speakeasy/api.ErrKey", Rows.laid_speakeasy_api_ErrKey), ("speakeasy/api.ErrSign", Rows.laid_speakeasy_api_ErrSign), ("speakeasy/api.ErrVersion", Rows.laid_speakeasy_api_ErrVersion), ("speakeasy/api.ErrAlgo", Rows.laid_speakeasy_api_ErrAlgo), ("speakeasy/api.ErrHost", Rows.laid_speakeasy_api_ErrHost), ("speakeasy/api.ErrAuth", Rows.laid_speakeasy_api_ErrAuth), ("speakeasy/api.ErrQuota", Rows.laid_speakeasy_api_ErrQuota), ("speakeasy/api.ErrName", Rows.laid_speakeasy_api_ErrName), ("speakeasy/api.ErrGone", Rows.laid_speakeasy_api_ErrGone), ("speakeasy/api.ErrWindow", Rows.laid_speakeasy_api_ErrWindow), ("speakeasy/api.ErrKind", Rows.laid_speakeasy_api_ErrKind), ("speakeasy/line.rows", Rows.laid_speakeasy_line_rows)] [.data, .data, .data, .data, .sentinel, .sentinel, .sentinel, .sentinel, .sentinel, .sentinel, .sentinel, .sentinel, .sentinel, .sentinel, .sentinel, .sentinel, .sentinel, .sentinel, .sentinel, .sentinel, .sentinel, .sentinel, .sentinel, .sentinel, .data] true :=
  Program.laidByTextLater.sub seatTie1 ["math/bits.deBruijn32tab", "math/bits.deBruijn64tab", "internal/strconv.uint64pow10", "unicode/utf8.acceptRanges", "speakeasy/api.ErrArg", "speakeasy/api.ErrEnd", "speakeasy/api.ErrForm", "speakeasy/api.ErrBig", "speakeasy/api.ErrMac", "speakeasy/api.ErrState", "speakeasy/api.ErrFull", "speakeasy/api.ErrNone", "speakeasy/api.ErrHave", "speakeasy/api.ErrKey", "speakeasy/api.ErrSign", "speakeasy/api.ErrVersion", "speakeasy/api.ErrAlgo", "speakeasy/api.ErrHost", "speakeasy/api.ErrAuth", "speakeasy/api.ErrQuota", "speakeasy/api.ErrName", "speakeasy/api.ErrGone", "speakeasy/api.ErrWindow", "speakeasy/api.ErrKind", "speakeasy/line.rows"] (by kernel_rfl) (by kernel_rfl)
theorem lineReads_row_tie : Rows.lineReadsRow.laidByTextAt .later Tryd.pinned [.data, .data, .data, .data, .sentinel, .sentinel, .sentinel, .sentinel, .sentinel, .sentinel, .sentinel, .sentinel, .sentinel, .sentinel, .sentinel, .sentinel, .sentinel, .sentinel, .sentinel, .sentinel, .sentinel, .sentinel, .sentinel, .sentinel, .data, .pinned] true :=
  OpenClaim.laidByTextAt_pinned rfl rfl tie rfl rfl rfl rfl (fun y hy _e => by
    simp only [Rows.lineReadsRow, List.zip_cons_cons, List.zip_nil_right, List.mem_cons, List.mem_nil_iff, or_false] at hy
    rcases hy with rfl | rfl | rfl | rfl | rfl | rfl | rfl | rfl | rfl | rfl | rfl | rfl | rfl | rfl | rfl | rfl | rfl | rfl | rfl | rfl | rfl | rfl | rfl | rfl | rfl | rfl
    · cases _e
    · cases _e
    · cases _e
    · cases _e
    · cases _e
    · cases _e
    · cases _e
    · cases _e
    · cases _e
    · cases _e
    · cases _e
    · cases _e
    · cases _e
    · cases _e
    · cases _e
    · cases _e
    · cases _e
    · cases _e
    · cases _e
    · cases _e
    · cases _e
    · cases _e
    · cases _e
    · cases _e
    · cases _e
    · exact ⟨pin_laid_unicode_utf8_first, by kernel_rfl⟩) fits1
theorem lineBack_row_tie : Rows.lineBackRow.laidByTextAt .later Tryd.pinned [.data, .data, .data, .data, .sentinel, .sentinel, .sentinel, .sentinel, .sentinel, .sentinel, .sentinel, .sentinel, .sentinel, .sentinel, .sentinel, .sentinel, .sentinel, .sentinel, .sentinel, .sentinel, .sentinel, .sentinel, .sentinel, .sentinel, .data, .pinned] true :=
  OpenClaim.laidByTextAt_pinned rfl rfl tie rfl rfl rfl rfl (fun y hy _e => by
    simp only [Rows.lineBackRow, List.zip_cons_cons, List.zip_nil_right, List.mem_cons, List.mem_nil_iff, or_false] at hy
    rcases hy with rfl | rfl | rfl | rfl | rfl | rfl | rfl | rfl | rfl | rfl | rfl | rfl | rfl | rfl | rfl | rfl | rfl | rfl | rfl | rfl | rfl | rfl | rfl | rfl | rfl | rfl
    · cases _e
    · cases _e
    · cases _e
    · cases _e
    · cases _e
    · cases _e
    · cases _e
    · cases _e
    · cases _e
    · cases _e
    · cases _e
    · cases _e
    · cases _e
    · cases _e
    · cases _e
    · cases _e
    · cases _e
    · cases _e
    · cases _e
    · cases _e
    · cases _e
    · cases _e
    · cases _e
    · cases _e
    · cases _e
    · exact ⟨pin_laid_unicode_utf8_first, by kernel_rfl⟩) fits1
theorem lineWords_row_tie : Rows.lineWordsRow.laidByTextAt .later Tryd.pinned [.data, .data, .data, .data, .sentinel, .sentinel, .sentinel, .sentinel, .sentinel, .sentinel, .sentinel, .sentinel, .sentinel, .sentinel, .sentinel, .sentinel, .sentinel, .sentinel, .sentinel, .sentinel, .sentinel, .sentinel, .sentinel, .sentinel, .data, .pinned] true :=
  OpenClaim.laidByTextAt_pinned rfl rfl tie rfl rfl rfl rfl (fun y hy _e => by
    simp only [Rows.lineWordsRow, List.zip_cons_cons, List.zip_nil_right, List.mem_cons, List.mem_nil_iff, or_false] at hy
    rcases hy with rfl | rfl | rfl | rfl | rfl | rfl | rfl | rfl | rfl | rfl | rfl | rfl | rfl | rfl | rfl | rfl | rfl | rfl | rfl | rfl | rfl | rfl | rfl | rfl | rfl | rfl
    · cases _e
    · cases _e
    · cases _e
    · cases _e
    · cases _e
    · cases _e
    · cases _e
    · cases _e
    · cases _e
    · cases _e
    · cases _e
    · cases _e
    · cases _e
    · cases _e
    · cases _e
    · cases _e
    · cases _e
    · cases _e
    · cases _e
    · cases _e
    · cases _e
    · cases _e
    · cases _e
    · cases _e
    · cases _e
    · exact ⟨pin_laid_unicode_utf8_first, by kernel_rfl⟩) fits1
theorem lineNumbers_row_tie : Rows.lineNumbersRow.laidByTextAt .later Tryd.pinned [.data, .data, .data, .data, .sentinel, .sentinel, .sentinel, .sentinel, .sentinel, .sentinel, .sentinel, .sentinel, .sentinel, .sentinel, .sentinel, .sentinel, .sentinel, .sentinel, .sentinel, .sentinel, .sentinel, .sentinel, .sentinel, .sentinel, .data, .pinned] true :=
  OpenClaim.laidByTextAt_pinned rfl rfl tie rfl rfl rfl rfl (fun y hy _e => by
    simp only [Rows.lineNumbersRow, List.zip_cons_cons, List.zip_nil_right, List.mem_cons, List.mem_nil_iff, or_false] at hy
    rcases hy with rfl | rfl | rfl | rfl | rfl | rfl | rfl | rfl | rfl | rfl | rfl | rfl | rfl | rfl | rfl | rfl | rfl | rfl | rfl | rfl | rfl | rfl | rfl | rfl | rfl | rfl
    · cases _e
    · cases _e
    · cases _e
    · cases _e
    · cases _e
    · cases _e
    · cases _e
    · cases _e
    · cases _e
    · cases _e
    · cases _e
    · cases _e
    · cases _e
    · cases _e
    · cases _e
    · cases _e
    · cases _e
    · cases _e
    · cases _e
    · cases _e
    · cases _e
    · cases _e
    · cases _e
    · cases _e
    · cases _e
    · exact ⟨pin_laid_unicode_utf8_first, by kernel_rfl⟩) fits1
theorem lineReadsUpto_row_tie : Rows.lineReadsUptoRow.laidByTextAt .later Tryd.pinned [.data, .data, .data, .data, .sentinel, .sentinel, .sentinel, .sentinel, .sentinel, .sentinel, .sentinel, .sentinel, .sentinel, .sentinel, .sentinel, .sentinel, .sentinel, .sentinel, .sentinel, .sentinel, .sentinel, .sentinel, .sentinel, .sentinel, .data, .pinned] true :=
  OpenClaim.laidByTextAt_pinned rfl rfl tie rfl rfl rfl rfl (fun y hy _e => by
    simp only [Rows.lineReadsUptoRow, List.zip_cons_cons, List.zip_nil_right, List.mem_cons, List.mem_nil_iff, or_false] at hy
    rcases hy with rfl | rfl | rfl | rfl | rfl | rfl | rfl | rfl | rfl | rfl | rfl | rfl | rfl | rfl | rfl | rfl | rfl | rfl | rfl | rfl | rfl | rfl | rfl | rfl | rfl | rfl
    · cases _e
    · cases _e
    · cases _e
    · cases _e
    · cases _e
    · cases _e
    · cases _e
    · cases _e
    · cases _e
    · cases _e
    · cases _e
    · cases _e
    · cases _e
    · cases _e
    · cases _e
    · cases _e
    · cases _e
    · cases _e
    · cases _e
    · cases _e
    · cases _e
    · cases _e
    · cases _e
    · cases _e
    · cases _e
    · exact ⟨pin_laid_unicode_utf8_first, by kernel_rfl⟩) fits1
theorem lineBackUpto_row_tie : Rows.lineBackUptoRow.laidByTextAt .later Tryd.pinned [.data, .data, .data, .data, .sentinel, .sentinel, .sentinel, .sentinel, .sentinel, .sentinel, .sentinel, .sentinel, .sentinel, .sentinel, .sentinel, .sentinel, .sentinel, .sentinel, .sentinel, .sentinel, .sentinel, .sentinel, .sentinel, .sentinel, .data, .pinned] true :=
  OpenClaim.laidByTextAt_pinned rfl rfl tie rfl rfl rfl rfl (fun y hy _e => by
    simp only [Rows.lineBackUptoRow, List.zip_cons_cons, List.zip_nil_right, List.mem_cons, List.mem_nil_iff, or_false] at hy
    rcases hy with rfl | rfl | rfl | rfl | rfl | rfl | rfl | rfl | rfl | rfl | rfl | rfl | rfl | rfl | rfl | rfl | rfl | rfl | rfl | rfl | rfl | rfl | rfl | rfl | rfl | rfl
    · cases _e
    · cases _e
    · cases _e
    · cases _e
    · cases _e
    · cases _e
    · cases _e
    · cases _e
    · cases _e
    · cases _e
    · cases _e
    · cases _e
    · cases _e
    · cases _e
    · cases _e
    · cases _e
    · cases _e
    · cases _e
    · cases _e
    · cases _e
    · cases _e
    · cases _e
    · cases _e
    · cases _e
    · cases _e
    · exact ⟨pin_laid_unicode_utf8_first, by kernel_rfl⟩) fits1
theorem lineWordsUpto_row_tie : Rows.lineWordsUptoRow.laidByTextAt .later Tryd.pinned [.data, .data, .data, .data, .sentinel, .sentinel, .sentinel, .sentinel, .sentinel, .sentinel, .sentinel, .sentinel, .sentinel, .sentinel, .sentinel, .sentinel, .sentinel, .sentinel, .sentinel, .sentinel, .sentinel, .sentinel, .sentinel, .sentinel, .data, .pinned] true :=
  OpenClaim.laidByTextAt_pinned rfl rfl tie rfl rfl rfl rfl (fun y hy _e => by
    simp only [Rows.lineWordsUptoRow, List.zip_cons_cons, List.zip_nil_right, List.mem_cons, List.mem_nil_iff, or_false] at hy
    rcases hy with rfl | rfl | rfl | rfl | rfl | rfl | rfl | rfl | rfl | rfl | rfl | rfl | rfl | rfl | rfl | rfl | rfl | rfl | rfl | rfl | rfl | rfl | rfl | rfl | rfl | rfl
    · cases _e
    · cases _e
    · cases _e
    · cases _e
    · cases _e
    · cases _e
    · cases _e
    · cases _e
    · cases _e
    · cases _e
    · cases _e
    · cases _e
    · cases _e
    · cases _e
    · cases _e
    · cases _e
    · cases _e
    · cases _e
    · cases _e
    · cases _e
    · cases _e
    · cases _e
    · cases _e
    · cases _e
    · cases _e
    · exact ⟨pin_laid_unicode_utf8_first, by kernel_rfl⟩) fits1
theorem lineNumbersUpto_row_tie : Rows.lineNumbersUptoRow.laidByTextAt .later Tryd.pinned [.data, .data, .data, .data, .sentinel, .sentinel, .sentinel, .sentinel, .sentinel, .sentinel, .sentinel, .sentinel, .sentinel, .sentinel, .sentinel, .sentinel, .sentinel, .sentinel, .sentinel, .sentinel, .sentinel, .sentinel, .sentinel, .sentinel, .data, .pinned] true :=
  OpenClaim.laidByTextAt_pinned rfl rfl tie rfl rfl rfl rfl (fun y hy _e => by
    simp only [Rows.lineNumbersUptoRow, List.zip_cons_cons, List.zip_nil_right, List.mem_cons, List.mem_nil_iff, or_false] at hy
    rcases hy with rfl | rfl | rfl | rfl | rfl | rfl | rfl | rfl | rfl | rfl | rfl | rfl | rfl | rfl | rfl | rfl | rfl | rfl | rfl | rfl | rfl | rfl | rfl | rfl | rfl | rfl
    · cases _e
    · cases _e
    · cases _e
    · cases _e
    · cases _e
    · cases _e
    · cases _e
    · cases _e
    · cases _e
    · cases _e
    · cases _e
    · cases _e
    · cases _e
    · cases _e
    · cases _e
    · cases _e
    · cases _e
    · cases _e
    · cases _e
    · cases _e
    · cases _e
    · cases _e
    · cases _e
    · cases _e
    · cases _e
    · exact ⟨pin_laid_unicode_utf8_first, by kernel_rfl⟩) fits1
end Go.Proofs.YtonjgfbefhefjaaDoor
