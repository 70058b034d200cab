/- The fixed facts of layer 1's laws; Cut. -/
import Derived.Test.YtoehmjkgjleaaaaDoorShaTop
import Derived.Test.YtoehmjkgjleaaaaDoorShaHex
import Derived.Test.YtoehmjkgjleaaaaDoorShaAbc
set_option linter.unusedVariables false
set_option linter.unusedSimpArgs false
namespace Go.Proofs.YtoehmjkgjleaaaaDoor.Sha
open Go.RowKit Go.Proofs.YtoehmjkgjleaaaaDoor.Cl Go.Proofs.YtoehmjkgjleaaaaDoor.Cv
theorem toList_data (s : ByteArray) : s.toList = s.data.toList := ByteArray.toList_eq s
theorem joined_one (s : ByteArray) : (Jo.joined [s]).data.toList = s.data.toList := by rw [Jo.joined_list]; simp
theorem joined_size (xs : List ByteArray) : (Jo.joined xs).size = (xs.flatMap fun x => x.data.toList).length := by
  rw [← Jo.joined_list, Array.length_toList]; rfl
/-- one string in a slice just made -/
theorem parts_one (w : World) (s : ByteArray) (T : TypeId) (c : Nat) (hc : 1 ≤ c) : Jo.Parts (w.alloc (.cells #[.string s] T)) (.slice (some ⟨w.heap.size, 0, none⟩) 1 c) [s] :=
  .inr ⟨w.heap.size, 0, c, rfl, fun j x hx => by
    match j, hx with
    | 0, hx => simp at hx; subst hx; exact (Rg.Blk.new w _ _).cell 0 rfl, by simp, hc⟩
theorem Sum256_one (w : World) (s : ByteArray) (T : TypeId) (hT : Tables w) (hs : s.size ≤ 1000000) :
    Calls Tryd.prog 12 #[.slice (some ⟨w.heap.size, 0, none⟩) 1 1] (w.alloc (.cells #[.string s] T)) fun e w' => e = .returned (.agg (bytesV (sha 32 s.data.toList))) ∧ Below w.heap.size w w' := by
  have hb : Below w.heap.size w (w.alloc (.cells #[.string s] T)) := (Below.refl _ _).alloc (Nat.le_refl _) _
  refine (Sum256_any _ _ [s] (hT.below hb hT.size) (parts_one w s T 1 (Nat.le_refl _)) (by rw [joined_size]; simpa using hs) (by simp)).mono ?_
  rintro e w' ⟨rfl, h⟩
  exact ⟨by rw [joined_one], hb.trans (h.mono (by simp))⟩
theorem Sum512_one (w : World) (s : ByteArray) (T : TypeId) (hT : Tables w) (hs : s.size ≤ 1000000) :
    Calls Tryd.prog 13 #[.slice (some ⟨w.heap.size, 0, none⟩) 1 1] (w.alloc (.cells #[.string s] T)) fun e w' => e = .returned (.agg (bytesV (sha 64 s.data.toList))) ∧ Below w.heap.size w w' := by
  have hb : Below w.heap.size w (w.alloc (.cells #[.string s] T)) := (Below.refl _ _).alloc (Nat.le_refl _) _
  refine (Sum512_any _ _ [s] (hT.below hb hT.size) (parts_one w s T 1 (Nat.le_refl _)) (by rw [joined_size]; simpa using hs) (by simp)).mono ?_
  rintro e w' ⟨rfl, h⟩
  exact ⟨by rw [joined_one], hb.trans (h.mono (by simp))⟩
theorem Cut_any (w : World) (s : ByteArray) (n : Nat) (hn : n ≤ 1000000) : Calls Tryd.prog 11 #[.string s, .int .i64 n] w fun e w' => e = .returned (.string (s.extract 0 n)) ∧ w = w' := by
  by_cases h : n < s.size
  · go_enter Tryd.func11, Tryd.ntmps11
    go_wp2
    go_ret
    exact ⟨by simp, rfl⟩
  · have e : s.extract 0 n = s := by
      apply ByteArray.ext
      simp
      omega
    have h' : ¬ (n : Int) < s.size := by omega
    go_enter Tryd.func11, Tryd.ntmps11
    go_wp2
    go_ret
    exact ⟨rfl, rfl⟩
set_option maxRecDepth 20000 in
set_option maxHeartbeats 1000000 in
theorem awake_any (w : World) (hT : Tables w) : Calls Tryd.prog 10 #[] w fun e w' => e = .returned (.bool true) ∧ Below w.heap.size w w' := by
  have HT := Lib.hid hT
  clear hT
  have E1 : (hexS (sha 32 [97, 98, 99])).toList = [98, 97, 55, 56, 49, 54, 98, 102, 56, 102, 48, 49, 99, 102, 101, 97, 52, 49, 52, 49, 52, 48, 100, 101, 53, 100, 97, 101, 50, 50, 50, 51, 98, 48, 48, 51, 54, 49, 97, 51, 57, 54, 49, 55, 55, 97, 57, 99, 98, 52, 49, 48, 102, 102, 54, 49, 102, 50, 48, 48, 49, 53, 97, 100] := by rw [toList_data, hexS_list, abc256]
  have E2 : (hexS (sha 64 [97, 98, 99])).toList = [100, 100, 97, 102, 51, 53, 97, 49, 57, 51, 54, 49, 55, 97, 98, 97, 99, 99, 52, 49, 55, 51, 52, 57, 97, 101, 50, 48, 52, 49, 51, 49, 49, 50, 101, 54, 102, 97, 52, 101, 56, 57, 97, 57, 55, 101, 97, 50, 48, 97, 57, 101, 101, 101, 101, 54, 52, 98, 53, 53, 100, 51, 57, 97, 50, 49, 57, 50, 57, 57, 50, 97, 50, 55, 52, 102, 99, 49, 97, 56, 51, 54, 98, 97, 51, 99, 50, 51, 97, 51, 102, 101, 101, 98, 98, 100, 52, 53, 52, 100, 52, 52, 50, 51, 54, 52, 51, 99, 101, 56, 48, 101, 50, 97, 57, 97, 99, 57, 52, 102, 97, 53, 52, 99, 97, 52, 57, 102] := by rw [toList_data, hexS_list, abc512]
  have HZ1 := Lib.hid (show (bytesV (sha 32 [97, 98, 99])).size = 32 by rw [bytesV_size, sha_length 32 (by decide)])
  have HZ2 := Lib.hid (show (bytesV (sha 64 [97, 98, 99])).size = 64 by rw [bytesV_size, sha_length 64 (by decide)])
  have HS1 := Lib.hid (show (⟨(sha 32 [97, 98, 99]).toArray⟩ : ByteArray).size ≤ 1000000 by show (sha 32 _).toArray.size ≤ _; rw [List.size_toArray, sha_length 32 (by decide)]; decide)
  have HS2 := Lib.hid (show (⟨(sha 64 [97, 98, 99]).toArray⟩ : ByteArray).size ≤ 1000000 by show (sha 64 _).toArray.size ≤ _; rw [List.size_toArray, sha_length 64 (by decide)]; decide)
  go_enter Tryd.func10, Tryd.ntmps10
  go_wp2_with (first
    | (go_at_call 12; refine (Sum256_one _ _ _ HT.out (by decide)).mono ?_; rintro e w1 ⟨rfl, hb1⟩; skip; have HB1 := Lib.hid hb1; clear hb1)
    | (go_at_call 13; refine (Sum512_one _ _ _ (HT.out.below HB1.out HT.out.size) (by decide)).mono ?_; rintro e w2 ⟨rfl, hb2⟩; skip; have HB2 := Lib.hid hb2; clear hb2; have tok := True.intro)
    | (have _t := tok
       refine store_blk rfl 24 _ _ rfl w2.heap.size (bytesV (sha 32 [97, 98, 99])) _ 24 rfl rfl ((Rg.Blk.new w2 _ _).alloc _) (by rw [HZ1.out]; rfl) (by rw [HZ1.out]; rfl) (bytesV_one _) ?_
       intro X hX hgX
       have HX := Lib.hid hX
       have HQ := Lib.hid (show ∃ cs : Array Value, cs.size = 64 ∧ Rg.Blk X (w2.heap.size + 1) 26 cs from ⟨_, rfl, blk_grown (Rg.Blk.newAt (by simp) _ _) hgX (by omega)⟩)
       have HBX := Lib.hid (show Below w2.heap.size w2 X from (((Below.refl _ _).alloc (Nat.le_refl _) _).alloc (by simp) _).grown hgX (by simp; omega) (fun k hk => by cases hk; exact Nat.le_refl _))
       clear hX hgX _t tok; have tok2 := True.intro)
    | (have _t := tok2
       obtain ⟨cs, hcs, hB⟩ := HQ.out
       refine store_blk rfl 26 _ _ rfl (w2.heap.size + 1) (bytesV (sha 64 [97, 98, 99])) cs 26 rfl rfl hB (by rw [HZ2.out]; rfl) (by rw [HZ2.out]; exact hcs) (bytesV_one _) ?_
       intro Y hY hgY
       have HY := Lib.hid hY
       have HXY := Lib.hid (blk_grown HX.out hgY (by omega))
       have HBY := Lib.hid (show Below w2.heap.size w2 Y from HBX.out.grown hgY HBX.out.size (fun k hk => by cases hk; omega))
       clear hY hgY hcs hB _t tok2; have tok3 := True.intro)
    | (have _t := tok3
       refine conv_string rfl 28 5 9 _ rfl Tryd.underlying28 Tryd.underlying5 Tryd.underlying9 w2.heap.size 0 32 32 (sha 32 [97, 98, 99]) rfl (sha_length 32 (by decide) _) (Bytes.of_blk HXY.out) ?_; skip)
    | (have _t := tok3; go_at_call 16; refine (Hex_any _ _ HS1.out).mono ?_; rintro e w3 ⟨rfl, hb3⟩; skip; have HB3 := Lib.hid hb3; clear hb3 _t tok3; have R2 := run_string_len (P := Tryd.prog) w3 28 5 9 Tryd.underlying28 Tryd.underlying5 Tryd.underlying9 (w2.heap.size + 1) 0 64 64 (sha 64 [97, 98, 99]) (sha_length 64 (by decide) _) ((Bytes.of_blk HY.out).below HB3.out HY.out.lt); have tok4 := True.intro)
    | (have _t := tok4; go_at_call 16; refine (Hex_any _ _ HS2.out).mono ?_; rintro e w4 ⟨rfl, hb4⟩; skip; have HB4 := Lib.hid hb4; clear hb4 _t tok4))
  go_ret
  have h1 := HB1.out.size
  have h2 := HB2.out.size
  have h3 := HBY.out.size
  have h4 := HB3.out.size
  exact ⟨rfl, (((HB1.out.trans (HB2.out.mono (by omega))).trans (HBY.out.mono (by omega))).trans (HB3.out.mono (by omega))).trans (HB4.out.mono (by omega))⟩
end Go.Proofs.YtoehmjkgjleaaaaDoor.Sha
