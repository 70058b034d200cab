/- Hex of the reference. -/
import Derived.Test.YtoehmjkgjleaaaaDoorShaHexMath
import Derived.Test.YtoehmjkgjleaaaaDoorConv
import Derived.Test.YtoehmjkgjleaaaaDoorRows
import Derived.Lib.Hide
namespace Go.Proofs.YtoehmjkgjleaaaaDoor.Sha
open Go.RowKit Go.Proofs.YtoehmjkgjleaaaaDoor.Cv
set_option maxHeartbeats 1000000 in
theorem RefHex_any (w : World) (s : ByteArray) (hs : s.size ≤ 1000000) :
    Calls Tryd.prog 17 #[.string s] w fun e w' => e = .returned (.string (hexS s.data.toList)) ∧ Below w.heap.size w w' := by
  go_enter Tryd.func17, Tryd.ntmps17
  go_wp2_with fail
  go_loopw [3, 4] (fun t i wr => ∃ (k : Nat) (o : ByteArray), k ≤ s.size ∧ i = .int .i64 k ∧ t = .string o ∧ o.data.toList = hexL (s.data.toList.take k) ∧ Below w.heap.size w wr) (fun _ i _ => s.size - (intOf i).toNat)
  case atStart => exact ⟨0, _, by omega, rfl, rfl, rfl, Below.refl _ _⟩
  case round =>
    obtain ⟨k, o, hk, rfl, rfl, ho, hb⟩ := hrel
    have HO := Lib.hid ho
    have HB1 := Lib.hid hb
    clear ho hb
    by_cases hlt : k < s.size
    · have hd : decide ((k : Int) < s.size) = true := by simp; omega
      have hi : (k : Int) < s.size := by omega
      go_wp2_with fail
      go_region
      go_wp2_with fail
      have hx := s[k].toNat_lt
      have hW2 : Rg.Blk (wr.alloc (.cells #[.int .u8 ((s[k].toNat : Int) / 16 % 256), .int .u8 ((s[k].toNat : Int) % 16)] 5)).drew wr.heap.size 5 #[.int .u8 ((s[k].toNat : Int) / 16 % 256), .int .u8 ((s[k].toNat : Int) % 16)] := Rg.Blk.new wr _ _
      have hB2 : Below wr.heap.size wr (wr.alloc (.cells #[.int .u8 ((s[k].toNat : Int) / 16 % 256), .int .u8 ((s[k].toNat : Int) % 16)] 5)).drew := ((Below.refl _ _).alloc (Nat.le_refl _) _).drew
      generalize (wr.alloc (.cells #[.int .u8 ((s[k].toNat : Int) / 16 % 256), .int .u8 ((s[k].toNat : Int) % 16)] 5)).drew = W2 at *
      have C0 := Lib.hid (show W2.cell? ⟨wr.heap.size, 0, none⟩ = some (.int .u8 ((dig2 s[k] 0 : Nat) : Int)) by rw [hW2.cell 0 rfl]; unfold dig2; congr 2; simp; omega)
      have C1 := Lib.hid (show W2.cell? ⟨wr.heap.size, 1, none⟩ = some (.int .u8 ((dig2 s[k] 1 : Nat) : Int)) by rw [hW2.cell 1 rfl]; unfold dig2; rfl)
      have hlt2 := hW2.lt
      have HB2 := Lib.hid (HB1.out.trans (hB2.mono HB1.out.size))
      have hBB := HB1.out.size
      clear hW2 hB2 hd
      obtain ⟨wo, rfl⟩ : ∃ wo : World, wo = wr := ⟨_, rfl⟩
      go_loopw [3, 23] (fun t j wr => ∃ (l : Nat) (o2 : ByteArray), l ≤ 2 ∧ j = .int .i64 l ∧ t = .string o2 ∧ o2.data.toList = hexL (s.data.toList.take k) ++ (hex1 s[k]).take l ∧ Below (wo.heap.size + 1) W2 wr) (fun _ j _ => 2 - (intOf j).toNat)
      case atStart => exact ⟨0, o, by omega, rfl, rfl, by rw [HO.out]; simp, Below.refl _ _⟩
      case round =>
        obtain ⟨l, o2, hl, rfl, rfl, ho2, hb3⟩ := hrel
        have hol : o2.size ≤ 2000010 := by
          have := congrArg List.length ho2
          rw [List.length_append, hexL_length, List.length_take, List.length_take, Array.length_toList] at this
          have e : o2.data.size = o2.size := rfl
          rw [e] at this
          omega
        have HO2 := Lib.hid ho2
        have HB3 := Lib.hid hb3
        clear ho2 hb3
        by_cases hl2 : l < 2
        · have cl : wr.cell? ⟨wo.heap.size, l, none⟩ = some (.int .u8 ((dig2 s[k] l : Nat) : Int)) := by
            rw [HB3.out.cell (p := ⟨wo.heap.size, l, none⟩) (by show wo.heap.size < _; omega)]
            match l, hl2 with
            | 0, _ => exact C0.out
            | 1, _ => exact C1.out
          have hg := dig2_lt s[k] l
          have hil : (l : Int) < 2 := by omega
          generalize hdd : dig2 s[k] l = dd at *
          have HDD := Lib.hid hdd
          clear hdd
          have hq : ¬ 9223372036854775807 < o2.size + 1 := by omega
          by_cases h10 : dd < 10
          · have hv : dig dd = 48 + dd := by unfold dig; rw [if_pos h10]
            have hvv := dig_val dd hg
            have hV := Lib.hid (show (48 : Int) + dd = ((UInt8.ofNat (dig dd)).toNat : Int) by omega)
            clear hv hvv
            go_wp2_with (refine conv_string rfl 28 5 9 _ rfl Tryd.underlying28 Tryd.underlying5 Tryd.underlying9 _ 0 1 1 [UInt8.ofNat (dig dd)] rfl rfl (one_byte _ _ _ _ hV.out) ?_)
            go_roundw
            case rel =>
              refine ⟨l + 1, _, by omega, by go_num, rfl, ?_, (HB3.out.alloc (by have := HB3.out.size; omega) _)⟩
              rw [hex1_take _ _ hl2, HDD.out, ← List.append_assoc, ← HO2.out]
              simp
            case measure => simp [intOf]; omega
          · have hv : dig dd = 87 + dd := by unfold dig; rw [if_neg h10]
            have hvv := dig_val dd hg
            have hV := Lib.hid (show (87 : Int) + dd = ((UInt8.ofNat (dig dd)).toNat : Int) by omega)
            clear hv hvv
            go_wp2_with (refine conv_string rfl 28 5 9 _ rfl Tryd.underlying28 Tryd.underlying5 Tryd.underlying9 _ 0 1 1 [UInt8.ofNat (dig dd)] rfl rfl (one_byte _ _ _ _ hV.out) ?_)
            go_roundw
            case rel =>
              refine ⟨l + 1, _, by omega, by go_num, rfl, ?_, (HB3.out.alloc (by have := HB3.out.size; omega) _)⟩
              rw [hex1_take _ _ hl2, HDD.out, ← List.append_assoc, ← HO2.out]
              simp
            case measure => simp [intOf]; omega
        · obtain rfl : l = 2 := by omega
          go_wp2_with fail
          go_roundw
          case rel =>
            have hB4 : Below w.heap.size w wr := HB2.out.trans (HB3.out.mono (by omega))
            have ho4 : o2.data.toList = hexL (s.data.toList.take (k + 1)) := by
              rw [HO2.out, show s.data.toList.take (k + 1) = s.data.toList.take k ++ [s[k]] from by rw [List.take_succ_eq_append_getElem (by simpa using hlt)]; rfl, hexL_snoc]; rfl
            first
              | exact ⟨k + 1, o2, by omega, by go_num, rfl, ho4, hB4⟩
              | ((repeat apply Exists.intro); refine ⟨?_, rfl⟩; exact ⟨k + 1, o2, by omega, by go_num, rfl, ho4, hB4⟩)
          case measure => simp [intOf]; omega
    · obtain rfl : k = s.size := by omega
      go_wp2_with fail
      go_ret
      refine ⟨?_, HB1.out⟩
      have e : o = hexS s.data.toList := by
        have h1 := HO.out
        rw [List.take_of_length_le (by rw [Array.length_toList]; exact Nat.le_refl _), ← hexS_list] at h1
        exact ByteArray.ext (Array.toList_inj.1 h1)
      rw [← e]; rfl
end Go.Proofs.YtoehmjkgjleaaaaDoor.Sha
