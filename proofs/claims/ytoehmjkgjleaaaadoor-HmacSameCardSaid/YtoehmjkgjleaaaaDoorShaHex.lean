/- Hex of the program. -/
import Derived.Test.YtoehmjkgjleaaaaDoorShaHexMath
import Derived.Test.YtoehmjkgjleaaaaDoorBuilder
import Derived.Test.YtoehmjkgjleaaaaDoorShelf
import Derived.Lib.Hide
set_option linter.unusedVariables false
set_option linter.unusedSimpArgs false
namespace Go.Proofs.YtoehmjkgjleaaaaDoor.Sha
open Go.RowKit
set_option maxHeartbeats 1000000 in
theorem Hex_any (w : World) (s : ByteArray) (hs : s.size ≤ 1000000) :
    Calls Tryd.prog 16 #[.string s] w fun e w' => e = .returned (.string (hexS s.data.toList)) ∧ Below w.heap.size w w' := by
  go_enter Tryd.func16, Tryd.ntmps16
  have HU := Lib.hid (Bu.fresh w)
  have HB := Lib.hid (show Below w.heap.size w (w.alloc (.cells #[.pointer none, .slice none 0 0] 47)) from (Below.refl _ _).alloc (Nat.le_refl _) _)
  go_wp2_with fail
  go_loopw [7] (fun i wr => ∃ k : Nat, k ≤ s.size ∧ i = .int .i64 k ∧ Lib.IsBuilder 47 5 w.heap.size w.heap.size (Lib.byteCells (hexL (s.data.toList.take k))) wr ∧ Below w.heap.size w wr) (fun i _ => s.size - (intOf i).toNat)
  case atStart => exact ⟨0, by omega, rfl, HU.out, HB.out⟩
  case round =>
    obtain ⟨k, hk, rfl, hU, hb⟩ := hrel
    have HU1 := Lib.hid hU
    have HB1 := Lib.hid hb
    have hsz := hb.size
    clear hU hb
    by_cases hlt : k < s.size
    · have hc := s[k].toNat_lt
      have j0 : 0 ≤ (s[k].toNat : Int) / 16 := by omega
      have j1 : (s[k].toNat : Int) / 16 < 16 := by omega
      have j2 : 0 ≤ (s[k].toNat : Int) % 16 := by omega
      have j3 : (s[k].toNat : Int) % 16 < 16 := by omega
      have hl1 : (Lib.byteCells (hexL (s.data.toList.take k))).length + 2 ≤ 140737488355328 := by
        rw [Lib.byteCells_length, hexL_length, List.length_take]; omega
      have HL1 := Lib.hid hl1
      clear hl1
      have tok := True.intro
      go_wp2_with (first
        | (have _t := tok; go_at_call 28; refine (Bu.writeByte _ _ _ _ _ HU1.out (by have := HL1.out; omega) hsz).mono ?_; rintro e w5 ⟨rfl, hU5, hb5⟩; skip; clear _t tok; have HU5 := Lib.hid hU5; have HB5 := Lib.hid hb5; have hsz5 := hb5.size; clear hU5 hb5; have tok2 := True.intro)
        | (have _t := tok2; go_at_call 28; refine (Bu.writeByte _ _ _ _ _ (.inr HU5.out) (by rw [List.length_append]; exact HL1.out) (by omega)).mono ?_; rintro e w6 ⟨rfl, hU6, hb6⟩; skip; clear _t tok2; have HU6 := Lib.hid hU6; have HB6 := Lib.hid hb6; clear hU6 hb6))
      go_roundw
      case rel =>
        refine ⟨k + 1, by omega, by go_num, ?_, HB1.out.trans (HB5.out.trans HB6.out)⟩
        have h6 := HU6.out
        rw [hex_cells s k hlt] at h6
        · exact .inr h6
        · rw [digits_at _ (by omega), dig_val _ (by omega)]
        · rw [digits_at _ (by omega), dig_val _ (by omega)]
      case measure => simp [intOf]; omega
    · obtain rfl : k = s.size := by omega
      have hta : s.data.toList.take s.size = s.data.toList := List.take_of_length_le (by rw [Array.length_toList]; exact Nat.le_refl _)
      have HU2 := Lib.hid (hta ▸ HU1.out)
      go_wp2_with (go_at_call 29; refine (Tryd.Builder_String_any _ _ _ _ HU2.out hsz).mono ?_; rintro e w7 ⟨rfl, hb7⟩; skip; have HB7 := Lib.hid hb7; clear hb7)
      go_ret
      exact ⟨by unfold hexS; rfl, HB1.out.trans HB7.out⟩
end Go.Proofs.YtoehmjkgjleaaaaDoor.Sha
