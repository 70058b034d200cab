/- The key's block: of the program and of the reference. -/
import Derived.Test.YtoehmjkgjleaaaaDoorHmacMath
set_option linter.unusedVariables false
set_option linter.unusedSimpArgs false
namespace Go.Proofs.YtoehmjkgjleaaaaDoor.Sha
open Go.RowKit Go.Proofs.YtoehmjkgjleaaaaDoor.Cl Go.Proofs.YtoehmjkgjleaaaaDoor.Cv Go.Proofs.YtoehmjkgjleaaaaDoor.Ow
set_option maxRecDepth 20000 in
set_option maxHeartbeats 2000000 in
theorem pad_any (w : World) (key : ByteArray) (by' : UInt8) (b : Int) (hb : b = by'.toNat) (hT : Tables w) (hs : key.size ≤ 1000000) :
    Calls Tryd.prog 30 #[.string key, .int .u8 b] w fun e w' => e = .returned (.string (mkS (padL key.data.toList by'))) ∧ Below w.heap.size w w' := by
  subst hb
  have HT := Lib.hid hT
  have HKL := Lib.hid (show key.data.toList.length = key.size from Array.length_toList)
  clear hT
  by_cases hc : 64 < key.size
  · have HZ1 := Lib.hid (show (bytesV (sha 32 key.data.toList)).size = 32 by rw [bytesV_size, sha_length 32 (by decide)])
    have hd : decide ((64 : Int) < key.size) = true := by rw [decide_eq_true_eq]; omega
    go_enter Tryd.func30, Tryd.ntmps30
    go_wp2_with (first
      | (go_at_call 12; refine (Sum256_one _ _ _ HT.out hs).mono ?_; rintro e w1 ⟨rfl, hb1⟩; skip; have HB1 := Lib.hid hb1; clear hb1; have tok := True.intro)
      | (have _t := tok
         refine store_blk rfl 24 _ _ rfl w1.heap.size (bytesV (sha 32 key.data.toList)) _ 24 rfl rfl (Rg.Blk.new w1 _ _) (by rw [HZ1.out]; rfl) (by rw [HZ1.out]; rfl) (bytesV_one _) ?_
         intro V hV hgV
         have HV := Lib.hid hV
         have HBV := Lib.hid (show Below w1.heap.size w1 V from ((Below.refl _ _).alloc (Nat.le_refl _) _).grown hgV (by simp) (fun k hk => by cases hk; exact Nat.le_refl _))
         clear hV hgV _t tok; have tok2 := True.intro)
      | (have _t := tok2
         refine conv_string rfl 28 5 9 _ rfl Tryd.underlying28 Tryd.underlying5 Tryd.underlying9 w1.heap.size 0 32 32 (sha 32 key.data.toList) rfl (sha_length 32 (by decide) _) (Bytes.of_blk HV.out) ?_
         clear _t tok2
         obtain ⟨k, hk⟩ : ∃ k : ByteArray, (⟨(sha 32 key.data.toList).toArray⟩ : ByteArray) = k := ⟨_, rfl⟩
         rw [hk]
         have HK := Lib.hid (show k.data.toList = keyB key.data.toList by unfold keyB; rw [HKL.out, if_pos hc, ← hk])
         have hk64 : k.size ≤ 64 := by rw [← hk]; show (sha 32 key.data.toList).toArray.size ≤ 64; rw [List.size_toArray, sha_length 32 (by decide)]; decide
         clear hk)
      | (refine copy_str rfl _ _ 28 9 5 rfl V.heap.size 64 64 k (List.replicate 64 (Value.int .u8 0)).toArray 26 rfl rfl Tryd.underlying28 (by kernel_rfl) (Rg.Blk.new V _ _) hk64 (by rw [List.size_toArray, List.length_replicate]; exact hk64) ?_
         intro X hX hgX
         have hX2 : Rg.Blk X V.heap.size 26 (bytesV (xorTo (fill64 k.data.toList) by' 0)) := by
           have e := fill64_cells k.data.toList (by rw [Array.length_toList]; exact hk64)
           rw [Array.length_toList] at e
           rw [show xorTo (fill64 k.data.toList) by' 0 = fill64 k.data.toList by simp [xorTo], ← e]
           exact hX
         have HX := Lib.hid hX2
         have HBX := Lib.hid (show Below V.heap.size V X from ((Below.refl _ _).alloc (Nat.le_refl _) _).grown hgX (by simp) (fun k hk => by cases hk; exact Nat.le_refl _))
         clear hX hgX hX2))
    go_loopw [7, 19] (fun _ i wr => ∃ j : Nat, j ≤ 64 ∧ i = .int .i64 j ∧ Rg.Blk wr V.heap.size 26 (bytesV (xorTo (fill64 k.data.toList) by' j)) ∧ Below V.heap.size V wr) (fun _ i _ => 64 - (intOf i).toNat)
    case atStart => exact ⟨0, by decide, rfl, HX.out, HBX.out⟩
    case round =>
      obtain ⟨j, hj, rfl, hB, hb⟩ := hrel
      have HB := Lib.hid hB
      have HBW := Lib.hid hb
      clear hB hb HX HBX
      by_cases hj64 : j < 64
      · have hlen := fill64_length k.data.toList
        have hg := xorTo_get (fill64 k.data.toList) by' j (by rw [hlen]; exact hj64)
        have HS := Lib.hid (xorTo_set (fill64 k.data.toList) by' j (by rw [hlen]; exact hj64))
        have HLX := Lib.hid (show j < (xorTo (fill64 k.data.toList) by' j).length by rw [xorTo_length, hlen]; exact hj64)
        have hcell := HB.out.cell j (bytesV_get _ j _ hg)
        generalize (fill64 k.data.toList)[j]'(by rw [hlen]; exact hj64) = c at *
        obtain ⟨d, hd'⟩ : ∃ d, c ^^^ by' = d := ⟨_, rfl⟩
        have hxor : bits .xor .u8 (c.toNat : Int) (by'.toNat : Int) = ((d.toNat : Nat) : Int) := by rw [← hd']; exact xor_u8 c by'
        have HS := Lib.hid (hd' ▸ HS.out)
        clear hd'
        have hij : (j : Int) < 64 := by omega
        clear hlen hg
        go_wp2_with (refine store_byte rfl 5 _ _ rfl rfl rfl Tryd.underlying5 (by kernel_rfl) HB.out HLX.out ?_
                     intro w9 hR9 hg9
                     rw [HS.out] at hR9
                     have HR9 := Lib.hid hR9
                     have HB9 := Lib.hid (HBW.out.grown hg9 HBW.out.size (fun k hk => by cases hk; exact Nat.le_refl _))
                     clear hR9 hg9)
        go_roundw
        case rel =>
          first
            | exact ⟨j + 1, by omega, by go_num, HR9.out, HB9.out⟩
            | ((repeat apply Exists.intro); refine ⟨?_, rfl⟩; exact ⟨j + 1, by omega, by go_num, HR9.out, HB9.out⟩)
        case measure => simp [intOf]; omega
      · obtain rfl : j = 64 := by omega
        have HP := Lib.hid (show Rg.Blk wr V.heap.size 26 (bytesV (padL key.data.toList by')) by
          have := HB.out
          rw [xorTo_all _ _ _ (fill64_length _)] at this
          unfold padL; rw [← HK.out]; exact this)
        have HPL := Lib.hid (padL_length key.data.toList by')
        go_wp2_with (refine conv_string rfl 28 5 9 _ rfl Tryd.underlying28 Tryd.underlying5 Tryd.underlying9 V.heap.size 0 64 64 (padL key.data.toList by') rfl HPL.out (Bytes.of_blk HP.out) ?_; skip)
        go_ret
        exact ⟨rfl, ((HB1.out.trans (HBV.out.mono HB1.out.size)).trans (HBW.out.mono (by have := HB1.out.size; have := HBV.out.size; omega)))⟩
  · have hd : decide ((64 : Int) < key.size) = false := by rw [decide_eq_false_iff_not]; omega
    have HK := Lib.hid (show key.data.toList = keyB key.data.toList by unfold keyB; rw [HKL.out, if_neg hc])
    have hk64 : key.size ≤ 64 := by omega
    obtain ⟨k, hk⟩ : ∃ k : ByteArray, k = key := ⟨_, rfl⟩
    subst hk
    go_enter Tryd.func30, Tryd.ntmps30
    go_wp2_with (first
      | (refine copy_str rfl _ _ 28 9 5 rfl w.heap.size 64 64 k (List.replicate 64 (Value.int .u8 0)).toArray 26 rfl rfl Tryd.underlying28 (by kernel_rfl) (Rg.Blk.new w _ _) hk64 (by rw [List.size_toArray, List.length_replicate]; exact hk64) ?_
         intro X hX hgX
         have hX2 : Rg.Blk X w.heap.size 26 (bytesV (xorTo (fill64 k.data.toList) by' 0)) := by
           have e := fill64_cells k.data.toList (by rw [Array.length_toList]; exact hk64)
           rw [Array.length_toList] at e
           rw [show xorTo (fill64 k.data.toList) by' 0 = fill64 k.data.toList by simp [xorTo], ← e]
           exact hX
         have HX := Lib.hid hX2
         have HBX := Lib.hid (show Below w.heap.size w X from ((Below.refl _ _).alloc (Nat.le_refl _) _).grown hgX (by simp) (fun k hk => by cases hk; exact Nat.le_refl _))
         clear hX hgX hX2))
    go_loopw [7, 19] (fun _ i wr => ∃ j : Nat, j ≤ 64 ∧ i = .int .i64 j ∧ Rg.Blk wr w.heap.size 26 (bytesV (xorTo (fill64 k.data.toList) by' j)) ∧ Below w.heap.size w wr) (fun _ i _ => 64 - (intOf i).toNat)
    case atStart => exact ⟨0, by decide, rfl, HX.out, HBX.out⟩
    case round =>
      obtain ⟨j, hj, rfl, hB, hb⟩ := hrel
      have HB := Lib.hid hB
      have HBW := Lib.hid hb
      clear hB hb HX HBX
      by_cases hj64 : j < 64
      · have hlen := fill64_length k.data.toList
        have hg := xorTo_get (fill64 k.data.toList) by' j (by rw [hlen]; exact hj64)
        have HS := Lib.hid (xorTo_set (fill64 k.data.toList) by' j (by rw [hlen]; exact hj64))
        have HLX := Lib.hid (show j < (xorTo (fill64 k.data.toList) by' j).length by rw [xorTo_length, hlen]; exact hj64)
        have hcell := HB.out.cell j (bytesV_get _ j _ hg)
        generalize (fill64 k.data.toList)[j]'(by rw [hlen]; exact hj64) = c at *
        obtain ⟨d, hd'⟩ : ∃ d, c ^^^ by' = d := ⟨_, rfl⟩
        have hxor : bits .xor .u8 (c.toNat : Int) (by'.toNat : Int) = ((d.toNat : Nat) : Int) := by rw [← hd']; exact xor_u8 c by'
        have HS := Lib.hid (hd' ▸ HS.out)
        clear hd'
        have hij : (j : Int) < 64 := by omega
        clear hlen hg
        go_wp2_with (refine store_byte rfl 5 _ _ rfl rfl rfl Tryd.underlying5 (by kernel_rfl) HB.out HLX.out ?_
                     intro w9 hR9 hg9
                     rw [HS.out] at hR9
                     have HR9 := Lib.hid hR9
                     have HB9 := Lib.hid (HBW.out.grown hg9 HBW.out.size (fun k hk => by cases hk; exact Nat.le_refl _))
                     clear hR9 hg9)
        go_roundw
        case rel =>
          first
            | exact ⟨j + 1, by omega, by go_num, HR9.out, HB9.out⟩
            | ((repeat apply Exists.intro); refine ⟨?_, rfl⟩; exact ⟨j + 1, by omega, by go_num, HR9.out, HB9.out⟩)
        case measure => simp [intOf]; omega
      · obtain rfl : j = 64 := by omega
        have HP := Lib.hid (show Rg.Blk wr w.heap.size 26 (bytesV (padL k.data.toList by')) by
          have := HB.out
          rw [xorTo_all _ _ _ (fill64_length _)] at this
          unfold padL; rw [← HK.out]; exact this)
        have HPL := Lib.hid (padL_length k.data.toList by')
        go_wp2_with (refine conv_string rfl 28 5 9 _ rfl Tryd.underlying28 Tryd.underlying5 Tryd.underlying9 w.heap.size 0 64 64 (padL k.data.toList by') rfl HPL.out (Bytes.of_blk HP.out) ?_; skip)
        go_ret
        exact ⟨rfl, HBW.out⟩
end Go.Proofs.YtoehmjkgjleaaaaDoor.Sha
