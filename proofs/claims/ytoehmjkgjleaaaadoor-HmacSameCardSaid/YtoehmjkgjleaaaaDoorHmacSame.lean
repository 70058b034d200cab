/- Same; Spread of the program and of the reference. -/
import Derived.Test.YtoehmjkgjleaaaaDoorHmacSum
set_option linter.unusedVariables false
set_option linter.unusedSimpArgs false
namespace Go.Proofs.YtoehmjkgjleaaaaDoor.Sha
open Go.RowKit Go.Proofs.YtoehmjkgjleaaaaDoor.Cl Go.Proofs.YtoehmjkgjleaaaaDoor.Cv Go.Proofs.YtoehmjkgjleaaaaDoor.Ow
theorem or_zero8 (x d : UInt8) : (x ||| d) = 0 ↔ x = 0 ∧ d = 0 := by
  rw [← UInt8.toNat_inj, ← UInt8.toNat_inj, ← UInt8.toNat_inj, UInt8.toNat_or]
  exact Nat.or_eq_zero_iff
theorem xor_zero8 (x d : UInt8) : (x ^^^ d) = 0 ↔ x = d := by
  constructor
  · intro h
    have : x ^^^ d ^^^ d = 0 ^^^ d := by rw [h]
    simpa [UInt8.xor_assoc] using this
  · rintro rfl; simp
theorem or_u8 (x y : UInt8) : bits .or .u8 (x.toNat : Int) (y.toNat : Int) = (((x ||| y).toNat : Nat) : Int) := by
  rw [u8_or_nat _ _ x.toNat_lt y.toNat_lt, UInt8.toNat_or]
theorem get_l (s : ByteArray) (k : Nat) (h : k < s.size) : s.data.toList[k]? = some s[k] := by rw [List.getElem?_eq_getElem (by rw [Array.length_toList]; exact h)]; rfl
theorem take_eq_succ (a b : List UInt8) (k : Nat) (x y : UInt8) (hx : a[k]? = some x) (hy : b[k]? = some y) : a.take (k + 1) = b.take (k + 1) ↔ a.take k = b.take k ∧ x = y := by
  rw [List.take_add_one, List.take_add_one, hx, hy]
  constructor
  · intro h
    have hl : (a.take k).length = (b.take k).length := by
      have ha := (List.getElem?_eq_some_iff.1 hx).1
      have hb := (List.getElem?_eq_some_iff.1 hy).1
      rw [List.length_take, List.length_take]; omega
    have := List.append_inj h hl
    exact ⟨this.1, by simpa using this.2⟩
  · rintro ⟨h, rfl⟩; rw [h]
set_option maxRecDepth 20000 in
set_option maxHeartbeats 1000000 in
theorem Same_any (w : World) (a b : ByteArray) (ha : a.size ≤ 1000000) (hb0 : b.size ≤ 1000000) :
    Calls Tryd.prog 21 #[.string a, .string b] w fun e w' => e = .returned (.bool (a.toList == b.toList)) ∧ Below w.heap.size w w' := by
  have HLA := Lib.hid (show a.data.toList.length = a.size from Array.length_toList)
  have HLB := Lib.hid (show b.data.toList.length = b.size from Array.length_toList)
  by_cases hl : a.size = b.size
  · have hd0 : ((a.size : Int) == b.size) = true := by simp [hl]
    have hd1 : ((a.size : Int) != b.size) = false := by simp [hl]
    have hd2 : (a.size == b.size) = true := by simp [hl]
    have hlb : a.size ≤ b.size := by omega
    have HL := Lib.hid hl
    clear hl
    go_enter Tryd.func21, Tryd.ntmps21
    go_wp2_with fail
    clear hd0 hd1 hd2
    go_loopw [5, 14] (fun v i wr => ∃ (k : Nat) (x : UInt8), k ≤ a.size ∧ i = .int .i64 k ∧ v = .int .u8 (x.toNat : Int) ∧ (x = 0 ↔ a.data.toList.take k = b.data.toList.take k) ∧ Below w.heap.size w wr) (fun _ i _ => a.size - (intOf i).toNat)
    case atStart => exact ⟨0, 0, Nat.zero_le _, rfl, rfl, by simp, Below.refl _ _⟩
    case round =>
      obtain ⟨k, x, hk, rfl, rfl, hx, hb⟩ := hrel
      have HX := Lib.hid hx
      have HB := Lib.hid hb
      clear hx hb
      by_cases hka : k < a.size
      · have hd : decide (k < a.size) = true := by rw [decide_eq_true_eq]; exact hka
        have hkb : k < b.size := by omega
        have hia : (k : Int) < a.size := by omega
        have hib : (k : Int) < b.size := by omega
        have HT := Lib.hid (take_eq_succ _ _ _ _ _ (get_l a k hka) (get_l b k hkb))
        obtain ⟨d, hd'⟩ : ∃ d, a[k] ^^^ b[k] = d := ⟨_, rfl⟩
        have hxor : bits .xor .u8 (a[k].toNat : Int) (b[k].toNat : Int) = ((d.toNat : Nat) : Int) := by rw [← hd']; exact xor_u8 _ _
        obtain ⟨y, hy'⟩ : ∃ y, x ||| d = y := ⟨_, rfl⟩
        have hor : bits .or .u8 (x.toNat : Int) (d.toNat : Int) = ((y.toNat : Nat) : Int) := by rw [← hy']; exact or_u8 _ _
        have HY := Lib.hid (show y = 0 ↔ a.data.toList.take (k + 1) = b.data.toList.take (k + 1) by
          rw [← hy', or_zero8, ← hd', xor_zero8, HX.out, HT.out])
        clear hd' hy'
        go_wp2_with fail
        refine Rg.wp_region_later_all wr.heap.size (by kernel_rfl) (by kernel_rfl) ?_
        repeat (go_big_quiet_step (fail))
        refine wpQuiet_nil ?_
        rintro _ ⟨s9, rfl⟩
        go_wp2_with fail
        go_roundw
        case rel =>
          first
            | exact ⟨k + 1, y, by omega, by go_num, rfl, HY.out, HB.out.trans (s9.is.mono HB.out.size)⟩
            | ((repeat apply Exists.intro); refine ⟨?_, rfl⟩; exact ⟨k + 1, y, by omega, by go_num, rfl, HY.out, HB.out.trans (s9.is.mono HB.out.size)⟩)
        case measure => simp [intOf]; omega
      · obtain rfl : k = a.size := by omega
        have HE := Lib.hid (show x = 0 ↔ a.toList = b.toList by
          rw [ByteArray.toList_eq, ByteArray.toList_eq, HX.out, List.take_of_length_le (Nat.le_of_eq HLA.out), List.take_of_length_le (by rw [HLB.out]; exact Nat.le_of_eq HL.out.symm)])
        by_cases hx0 : x = 0
        · have hd : ((x.toNat : Int) == 0) = true := by rw [hx0]; rfl
          have HV := Lib.hid (show (a.toList == b.toList) = true by rw [beq_iff_eq]; exact HE.out.1 hx0)
          clear hx0
          go_wp2_with fail
          go_ret
          exact ⟨by rw [HV.out]; rfl, HB.out⟩
        · have hd : ((x.toNat : Int) == 0) = false := by
            rw [beq_eq_false_iff_ne]; intro e; apply hx0; apply UInt8.toNat_inj.1; simpa using e
          have HV := Lib.hid (show (a.toList == b.toList) = false by rw [beq_eq_false_iff_ne]; exact fun e => hx0 (HE.out.2 e))
          clear hx0
          go_wp2_with fail
          go_ret
          exact ⟨by rw [HV.out]; rfl, HB.out⟩
  · have HV := Lib.hid (show (a.toList == b.toList) = false by
      rw [beq_eq_false_iff_ne, ByteArray.toList_eq, ByteArray.toList_eq]
      intro e; apply hl; rw [← HLA.out, ← HLB.out, e])
    have hd0 : ((a.size : Int) == b.size) = false := by rw [beq_eq_false_iff_ne]; omega
    have hd1 : ((a.size : Int) != b.size) = true := by rw [bne_iff_ne]; omega
    have hd2 : (a.size == b.size) = false := by rw [beq_eq_false_iff_ne]; exact hl
    go_enter Tryd.func21, Tryd.ntmps21
    go_wp2_with fail
    go_ret
    exact ⟨by rw [HV.out]; rfl, Below.refl _ _⟩
end Go.Proofs.YtoehmjkgjleaaaaDoor.Sha
