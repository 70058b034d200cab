/- Digits of bytes, and the walk of hex. -/
import Derived.WalkKit
import Derived.Lib.UnsafeStr
import Derived.Test.YtonjgfbefhefjaaDoorBld
import Derived.Test.YtonjgfbefhefjaaDoorGenA
import Derived.Test.YtonjgfbefhefjaaDoorShelf
import Derived.Lib.Hide
set_option linter.unusedVariables false
set_option linter.unusedSimpArgs false
namespace Go.Proofs.YtonjgfbefhefjaaDoor.Sha
def dig (d : Nat) : Nat := if d < 10 then 48 + d else 87 + d
def hex1 (b : UInt8) : List UInt8 := [UInt8.ofNat (dig (b.toNat / 16)), UInt8.ofNat (dig (b.toNat % 16))]
def hexL (l : List UInt8) : List UInt8 := l.flatMap hex1
@[irreducible] def hexS (l : List UInt8) : ByteArray := ⟨(hexL l).toArray⟩
theorem hexS_list (l : List UInt8) : (hexS l).data.toList = hexL l := by unfold hexS; rfl
theorem hexL_length (l : List UInt8) : (hexL l).length = 2 * l.length := by
  induction l with
  | nil => rfl
  | cons b l ih =>
    have : hexL (b :: l) = hex1 b ++ hexL l := by simp [hexL]
    rw [this, List.length_append, ih, List.length_cons]; show 2 + _ = _; omega
theorem hexS_size (l : List UInt8) : (hexS l).size = 2 * l.length := by
  rw [← hexL_length, ← hexS_list, Array.length_toList]; rfl
theorem hexL_snoc (l : List UInt8) (b : UInt8) : hexL (l ++ [b]) = hexL l ++ hex1 b := by simp [hexL]
theorem dig_lt (d : Nat) (h : d < 16) : dig d < 256 := by unfold dig; split <;> omega
theorem dig_val (d : Nat) (h : d < 16) : ((UInt8.ofNat (dig d)).toNat : Int) = dig d := by
  rw [UInt8.toNat_ofNat', Nat.mod_eq_of_lt (dig_lt d h)]
def digitsS : ByteArray := ⟨#[48, 49, 50, 51, 52, 53, 54, 55, 56, 57, 97, 98, 99, 100, 101, 102]⟩
theorem digits_get (d : Nat) (h : d < 16) : digitsS.data[d]? = some (UInt8.ofNat (dig d)) := by
  have : ∀ i : Fin 16, digitsS.data[i.val]? = some (UInt8.ofNat (dig i.val)) := by decide
  exact this ⟨d, h⟩
theorem digits_at (d : Nat) (h : d < 16) (h' : d < (⟨#[48, 49, 50, 51, 52, 53, 54, 55, 56, 57, 97, 98, 99, 100, 101, 102]⟩ : ByteArray).size) :
    ((⟨#[48, 49, 50, 51, 52, 53, 54, 55, 56, 57, 97, 98, 99, 100, 101, 102]⟩ : ByteArray)[d]'h') = UInt8.ofNat (dig d) := by
  have h1 := digits_get d h
  have h2 : digitsS.data[d]? = some ((⟨#[48, 49, 50, 51, 52, 53, 54, 55, 56, 57, 97, 98, 99, 100, 101, 102]⟩ : ByteArray)[d]'h') := Array.getElem?_eq_getElem h'
  rw [h1] at h2
  exact (Option.some.inj h2).symm
theorem hex_cells (s : ByteArray) (k : Nat) (hk : k < s.size) (x1 x2 : Int) (h1 : x1 = dig (s[k].toNat / 16)) (h2 : x2 = dig (s[k].toNat % 16)) :
    (Lib.byteCells (hexL (s.data.toList.take k)) ++ [Value.int .u8 x1]) ++ [Value.int .u8 x2] = Lib.byteCells (hexL (s.data.toList.take (k + 1))) := by
  have hb := s[k].toNat_lt
  have e : s.data.toList.take (k + 1) = s.data.toList.take k ++ [s[k]] := by
    rw [List.take_succ_eq_append_getElem (by simpa using hk)]; rfl
  rw [e, hexL_snoc, h1, h2]
  unfold Lib.byteCells hex1
  rw [List.map_append, List.append_assoc]
  simp only [List.map_cons, List.map_nil, List.cons_append, List.nil_append]
  rw [dig_val _ (by omega), dig_val _ (by omega)]
/-- the first or the second digit, as a number -/
def dig2 (b : UInt8) (l : Nat) : Nat := if l = 0 then b.toNat / 16 else b.toNat % 16
theorem dig2_lt (b : UInt8) (l : Nat) : dig2 b l < 16 := by
  have := b.toNat_lt
  unfold dig2; split <;> omega
theorem hex1_take (b : UInt8) (l : Nat) (h : l < 2) : (hex1 b).take (l + 1) = (hex1 b).take l ++ [UInt8.ofNat (dig (dig2 b l))] := by
  match l, h with
  | 0, _ => rfl
  | 1, _ => rfl
end Go.Proofs.YtonjgfbefhefjaaDoor.Sha
namespace Go.Proofs.YtonjgfbefhefjaaDoor.Sha
open Go.RowKit
set_option maxHeartbeats 1000000 in
theorem Hex_any (w : World) (s : ByteArray) (hs : s.size ≤ 1000000) (he : (s.toList == []) = false) :
    Calls Tryd.prog 50 #[.string s] w fun e w' => e = .returned (.string (hexS s.data.toList)) ∧ Below w.heap.size w w' := by
  go_enter Tryd.func50, Tryd.ntmps50
  have HU := Lib.hid (Bu.fresh w)
  have HB := Lib.hid (show Below w.heap.size w (w.alloc (.cells #[.pointer none, .slice none 0 0] 78)) from (Below.refl _ _).alloc (Nat.le_refl _) _)
  go_wp2_with fail
  go_loopw [9] (fun i wr => ∃ k : Nat, k ≤ s.size ∧ i = .int .i64 k ∧ Lib.IsBuilder 78 5 w.heap.size w.heap.size (Lib.byteCells (hexL (s.data.toList.take k))) wr ∧ Below w.heap.size w wr) (fun i _ => s.size - (intOf i).toNat)
  case atStart => exact ⟨0, by omega, rfl, HU.out, HB.out⟩
  case round =>
    obtain ⟨k, hk, rfl, hU, hb⟩ := hrel
    have HU1 := Lib.hid hU
    have HB1 := Lib.hid hb
    have hsz := hb.size
    clear hU hb
    by_cases hlt : k < s.size
    · have hc := s[k].toNat_lt
      have j0 : 0 ≤ (s[k].toNat : Int) / 16 := by omega
      have j1 : (s[k].toNat : Int) / 16 < 16 := by omega
      have j2 : 0 ≤ (s[k].toNat : Int) % 16 := by omega
      have j3 : (s[k].toNat : Int) % 16 < 16 := by omega
      have hl1 : (Lib.byteCells (hexL (s.data.toList.take k))).length + 2 ≤ 140737488355328 := by
        rw [Lib.byteCells_length, hexL_length, List.length_take]; omega
      have HL1 := Lib.hid hl1
      clear hl1
      have tok := True.intro
      go_wp2_with (first
        | (have _t := tok; go_at_call 57; refine (Bu.writeByte _ _ _ _ _ HU1.out (by have := HL1.out; omega) hsz).mono ?_; rintro e w5 ⟨rfl, hU5, hb5⟩; skip; clear _t tok; have HU5 := Lib.hid hU5; have HB5 := Lib.hid hb5; have hsz5 := hb5.size; clear hU5 hb5; have tok2 := True.intro)
        | (have _t := tok2; go_at_call 57; refine (Bu.writeByte _ _ _ _ _ (.inr HU5.out) (by rw [List.length_append]; exact HL1.out) (by omega)).mono ?_; rintro e w6 ⟨rfl, hU6, hb6⟩; skip; clear _t tok2; have HU6 := Lib.hid hU6; have HB6 := Lib.hid hb6; clear hU6 hb6))
      go_roundw
      case rel =>
        refine ⟨k + 1, by omega, by go_num, ?_, HB1.out.trans (HB5.out.trans HB6.out)⟩
        have h6 := HU6.out
        rw [hex_cells s k hlt] at h6
        · exact .inr h6
        · rw [digits_at _ (by omega), dig_val _ (by omega)]
        · rw [digits_at _ (by omega), dig_val _ (by omega)]
      case measure => simp [intOf]; omega
    · obtain rfl : k = s.size := by omega
      have hta : s.data.toList.take s.size = s.data.toList := List.take_of_length_le (by rw [Array.length_toList]; exact Nat.le_refl _)
      have HU2 := Lib.hid (hta ▸ HU1.out)
      go_wp2_with (go_at_call 48; refine (Tryd.Builder_String_any _ _ _ _ HU2.out hsz).mono ?_; rintro e w7 ⟨rfl, hb7⟩; skip; have HB7 := Lib.hid hb7; clear hb7)
      go_ret
      exact ⟨by unfold hexS; rfl, HB1.out.trans HB7.out⟩
end Go.Proofs.YtonjgfbefhefjaaDoor.Sha
