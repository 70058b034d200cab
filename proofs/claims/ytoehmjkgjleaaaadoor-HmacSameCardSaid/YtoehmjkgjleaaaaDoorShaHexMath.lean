/- Digits of bytes. -/
import Derived.WalkKit
import Derived.Lib.UnsafeStr
set_option linter.unusedVariables false
set_option linter.unusedSimpArgs false
namespace Go.Proofs.YtoehmjkgjleaaaaDoor.Sha
def dig (d : Nat) : Nat := if d < 10 then 48 + d else 87 + d
def hex1 (b : UInt8) : List UInt8 := [UInt8.ofNat (dig (b.toNat / 16)), UInt8.ofNat (dig (b.toNat % 16))]
def hexL (l : List UInt8) : List UInt8 := l.flatMap hex1
@[irreducible] def hexS (l : List UInt8) : ByteArray := ⟨(hexL l).toArray⟩
theorem hexS_list (l : List UInt8) : (hexS l).data.toList = hexL l := by unfold hexS; rfl
theorem hexL_length (l : List UInt8) : (hexL l).length = 2 * l.length := by
  induction l with
  | nil => rfl
  | cons b l ih =>
    have : hexL (b :: l) = hex1 b ++ hexL l := by simp [hexL]
    rw [this, List.length_append, ih, List.length_cons]; show 2 + _ = _; omega
theorem hexS_size (l : List UInt8) : (hexS l).size = 2 * l.length := by
  rw [← hexL_length, ← hexS_list, Array.length_toList]; rfl
theorem hexL_snoc (l : List UInt8) (b : UInt8) : hexL (l ++ [b]) = hexL l ++ hex1 b := by simp [hexL]
theorem dig_lt (d : Nat) (h : d < 16) : dig d < 256 := by unfold dig; split <;> omega
theorem dig_val (d : Nat) (h : d < 16) : ((UInt8.ofNat (dig d)).toNat : Int) = dig d := by
  rw [UInt8.toNat_ofNat', Nat.mod_eq_of_lt (dig_lt d h)]
def digitsS : ByteArray := ⟨#[48, 49, 50, 51, 52, 53, 54, 55, 56, 57, 97, 98, 99, 100, 101, 102]⟩
theorem digits_get (d : Nat) (h : d < 16) : digitsS.data[d]? = some (UInt8.ofNat (dig d)) := by
  have : ∀ i : Fin 16, digitsS.data[i.val]? = some (UInt8.ofNat (dig i.val)) := by decide
  exact this ⟨d, h⟩
theorem digits_at (d : Nat) (h : d < 16) (h' : d < (⟨#[48, 49, 50, 51, 52, 53, 54, 55, 56, 57, 97, 98, 99, 100, 101, 102]⟩ : ByteArray).size) :
    ((⟨#[48, 49, 50, 51, 52, 53, 54, 55, 56, 57, 97, 98, 99, 100, 101, 102]⟩ : ByteArray)[d]'h') = UInt8.ofNat (dig d) := by
  have h1 := digits_get d h
  have h2 : digitsS.data[d]? = some ((⟨#[48, 49, 50, 51, 52, 53, 54, 55, 56, 57, 97, 98, 99, 100, 101, 102]⟩ : ByteArray)[d]'h') := Array.getElem?_eq_getElem h'
  rw [h1] at h2
  exact (Option.some.inj h2).symm
theorem hex_cells (s : ByteArray) (k : Nat) (hk : k < s.size) (x1 x2 : Int) (h1 : x1 = dig (s[k].toNat / 16)) (h2 : x2 = dig (s[k].toNat % 16)) :
    (Lib.byteCells (hexL (s.data.toList.take k)) ++ [Value.int .u8 x1]) ++ [Value.int .u8 x2] = Lib.byteCells (hexL (s.data.toList.take (k + 1))) := by
  have hb := s[k].toNat_lt
  have e : s.data.toList.take (k + 1) = s.data.toList.take k ++ [s[k]] := by
    rw [List.take_succ_eq_append_getElem (by simpa using hk)]; rfl
  rw [e, hexL_snoc, h1, h2]
  unfold Lib.byteCells hex1
  rw [List.map_append, List.append_assoc]
  simp only [List.map_cons, List.map_nil, List.cons_append, List.nil_append]
  rw [dig_val _ (by omega), dig_val _ (by omega)]
/-- the first or the second digit, as a number -/
def dig2 (b : UInt8) (l : Nat) : Nat := if l = 0 then b.toNat / 16 else b.toNat % 16
theorem dig2_lt (b : UInt8) (l : Nat) : dig2 b l < 16 := by
  have := b.toNat_lt
  unfold dig2; split <;> omega
theorem hex1_take (b : UInt8) (l : Nat) (h : l < 2) : (hex1 b).take (l + 1) = (hex1 b).take l ++ [UInt8.ofNat (dig (dig2 b l))] := by
  match l, h with
  | 0, _ => rfl
  | 1, _ => rfl
end Go.Proofs.YtoehmjkgjleaaaaDoor.Sha
