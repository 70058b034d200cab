/- Line's Parse, whole. -/
import Derived.Test.YtonjgfbefhefjaaDoorLnP3
set_option linter.unusedVariables false
set_option linter.unusedSimpArgs false
namespace Go.Proofs.YtonjgfbefhefjaaDoor.Ln
open Go Go.RowKit Go.Proofs.YtonjgfbefhefjaaDoor.Ow
theorem Parse_any (w : World) (a : Nat → Addr) (hX : Ctx w a) (S : ByteArray) (hs : S.size ≤ 1000000) :
    Calls Tryd.prog 9 #[.string S] w (PPost a S.data.toList w) := by
  by_cases h : 2000 < S.size
  · exact Parse_long w a hX.errs S hs h
  · have hl : S.data.toList.length = S.size := Array.length_toList
    rcases ib_cases S.data.toList 32 with hi | ⟨i, hi⟩
    · have hn := ib_none hi
      have hC : CutAs S S.data.toList ⟨#[]⟩ false := fun W hm => by
        have := Cut_no S hn (by omega) W hm
        rw [strB_data]; exact this
      have hsp := sp_one hn
      cases hsh : shp S.data.toList with
      | none => exact Parse_none w a hX S (by omega) _ [] _ _ hC hsp hsh
      | some sh => exact Parse_word w a hX S (by omega) _ _ hC hsp sh hsh
    · obtain ⟨q1, q2, q3⟩ := ib_some hi
      have hC : CutAs S (S.data.toList.take i) (strB (S.data.toList.drop (i + 1))) true := fun W hm => Cut_yes S q1 q2 (by omega) W hm
      have hsp : sp S.data.toList = S.data.toList.take i :: sp (S.data.toList.drop (i + 1)) := by
        have := sp_cut q2 (S.data.toList.drop (i + 1))
        rw [← q1] at this; exact this
      cases hsh : shp (S.data.toList.take i) with
      | none => exact Parse_none w a hX S (by omega) _ _ _ _ hC hsp hsh
      | some sh => exact Parse_loop w a hX S (by omega) _ _ hC hsp (by rw [List.length_drop]; omega) sh hsh
end Go.Proofs.YtonjgfbefhefjaaDoor.Ln
