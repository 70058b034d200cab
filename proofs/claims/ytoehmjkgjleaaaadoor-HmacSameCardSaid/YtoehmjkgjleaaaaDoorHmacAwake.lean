/- The fixed facts of layer 2's laws. -/
import Derived.Test.YtoehmjkgjleaaaaDoorHmacSpread
import Derived.Test.YtoehmjkgjleaaaaDoorShaAbc
set_option linter.unusedVariables false
set_option linter.unusedSimpArgs false
namespace Go.Proofs.YtoehmjkgjleaaaaDoor.Sha
open Go.RowKit Go.Proofs.YtoehmjkgjleaaaaDoor.Cl Go.Proofs.YtoehmjkgjleaaaaDoor.Cv Go.Proofs.YtoehmjkgjleaaaaDoor.Ow
def foxL : List UInt8 := [84, 104, 101, 32, 113, 117, 105, 99, 107, 32, 98, 114, 111, 119, 110, 32, 102, 111, 120, 32, 106, 117, 109, 112, 115, 32, 111, 118, 101, 114, 32, 116, 104, 101, 32, 108, 97, 122, 121, 32, 100, 111, 103]
theorem fox_hex : hexL (hmacL [107, 101, 121] foxL) = [102, 55, 98, 99, 56, 51, 102, 52, 51, 48, 53, 51, 56, 52, 50, 52, 98, 49, 51, 50, 57, 56, 101, 54, 97, 97, 54, 102, 98, 49, 52, 51, 101, 102, 52, 100, 53, 57, 97, 49, 52, 57, 52, 54, 49, 55, 53, 57, 57, 55, 52, 55, 57, 100, 98, 99, 50, 100, 49, 97, 51, 99, 100, 56] := by kernel_rfl
theorem joined_fox : (Jo.joined [⟨#[84, 104, 101, 32, 113, 117, 105, 99, 107, 32, 98, 114, 111, 119, 110, 32, 102, 111, 120, 32, 106, 117, 109, 112, 115, 32, 111, 118, 101, 114, 32, 116, 104, 101, 32, 108, 97, 122, 121, 32, 100, 111, 103]⟩]).data.toList = foxL := by rw [Jo.joined_list]; rfl
set_option maxRecDepth 20000 in
set_option maxHeartbeats 1000000 in
theorem hawake_any (w : World) (hT : Tables w) : Calls Tryd.prog 18 #[] w fun e w' => e = .returned (.bool true) ∧ Below w.heap.size w w' := by
  have HT := Lib.hid hT
  clear hT
  obtain ⟨d, hd⟩ : ∃ d, hmacL [107, 101, 121] foxL = d := ⟨_, rfl⟩
  have hdl : d.length = 32 := by rw [← hd, hmacL_length]
  have HDL := Lib.hid hdl
  have HD := Lib.hid (show hmacL (⟨#[107, 101, 121]⟩ : ByteArray).data.toList (Jo.joined [⟨#[84, 104, 101, 32, 113, 117, 105, 99, 107, 32, 98, 114, 111, 119, 110, 32, 102, 111, 120, 32, 106, 117, 109, 112, 115, 32, 111, 118, 101, 114, 32, 116, 104, 101, 32, 108, 97, 122, 121, 32, 100, 111, 103]⟩]).data.toList = d by rw [joined_fox]; exact hd)
  have HZ1 := Lib.hid (show (bytesV d).size = 32 by rw [bytesV_size, hdl])
  obtain ⟨h, hh⟩ : ∃ h, hexS d = h := ⟨_, rfl⟩
  have E1 : h.toList = [102, 55, 98, 99, 56, 51, 102, 52, 51, 48, 53, 51, 56, 52, 50, 52, 98, 49, 51, 50, 57, 56, 101, 54, 97, 97, 54, 102, 98, 49, 52, 51, 101, 102, 52, 100, 53, 57, 97, 49, 52, 57, 52, 54, 49, 55, 53, 57, 57, 55, 52, 55, 57, 100, 98, 99, 50, 100, 49, 97, 51, 99, 100, 56] := by rw [toList_data, ← hh, hexS_list, ← hd, fox_hex]
  have HH := Lib.hid hh
  have HJS := Lib.hid (show (Jo.joined [⟨#[84, 104, 101, 32, 113, 117, 105, 99, 107, 32, 98, 114, 111, 119, 110, 32, 102, 111, 120, 32, 106, 117, 109, 112, 115, 32, 111, 118, 101, 114, 32, 116, 104, 101, 32, 108, 97, 122, 121, 32, 100, 111, 103]⟩]).size ≤ 100000 by rw [joined_size]; decide)
  obtain ⟨z, hz⟩ : ∃ z, mkS (spreadL (⟨#[107]⟩ : ByteArray).data.toList (⟨#[108]⟩ : ByteArray).data.toList 40) = z := ⟨_, rfl⟩
  have hzs : z.size = 40 := by rw [← hz, mkS_size, spreadL_length]
  have HZ := Lib.hid hz
  have HX : Hid ((⟨d.toArray⟩ : ByteArray).size ≤ 1000000) := Lib.hid (by show d.toArray.size ≤ _; rw [List.size_toArray, hdl]; decide)
  clear hd hdl hh hz
  go_enter Tryd.func18, Tryd.ntmps18
  go_wp2_with (first
    | (go_at_call 19; refine (HSum_any _ ⟨#[107, 101, 121]⟩ (some ⟨w.heap.size, 0, none⟩) 1 1 [_] rfl (Rd.one _ _ _) (by decide) HJS.out (by decide) (HT.out.below ((Below.refl _ _).alloc (Nat.le_refl _) _) HT.out.size)).mono ?_; rintro e w1 ⟨rfl, hb1⟩; skip
       rw [HD.out]
       have HB1 := Lib.hid (show Below w.heap.size w w1 from ((Below.refl _ _).alloc (Nat.le_refl _) _).trans (hb1.mono (by simp))); clear hb1; have tok := True.intro)
    | (have _t := tok
       refine store_blk rfl 24 _ _ rfl w1.heap.size (bytesV d) _ 24 rfl rfl (Rg.Blk.new w1 _ _) (by rw [HZ1.out]; rfl) (by rw [HZ1.out]; rfl) (bytesV_one _) ?_
       intro V hV hgV
       have HV := Lib.hid hV
       have HBV := Lib.hid (HB1.out.trans ((show Below w1.heap.size w1 V from ((Below.refl _ _).alloc (Nat.le_refl _) _).grown hgV (by simp) (fun k hk => by cases hk; exact Nat.le_refl _)).mono HB1.out.size))
       clear hV hgV _t tok; have tok2 := True.intro)
    | (have _t := tok2; refine conv_string rfl 28 5 9 _ rfl Tryd.underlying28 Tryd.underlying5 Tryd.underlying9 w1.heap.size 0 32 32 d rfl HDL.out (Bytes.of_blk HV.out) ?_; clear _t tok2)
    | (go_at_call 16; refine (Hex_any _ _ HX.out).mono ?_; rintro e w3 ⟨rfl, hb3⟩; skip; rw [show hexS (⟨d.toArray⟩ : ByteArray).data.toList = h from HH.out]; have HB3 := Lib.hid (HBV.out.trans (hb3.mono HBV.out.size)); clear hb3)
    | (go_at_call 21; refine (Same_any _ ⟨#[97]⟩ ⟨#[97]⟩ (by decide) (by decide)).mono ?_; rintro e w4 ⟨rfl, hb4⟩; skip; rw [beq_self_eq_true]; have HB4 := Lib.hid (HB3.out.trans (hb4.mono HB3.out.size)); clear hb4)
    | (go_at_call 22; refine (Spread_any _ ⟨#[107]⟩ ⟨#[108]⟩ 40 40 (by decide) (by decide) (by decide) (HT.out.below HB4.out HT.out.size)).mono ?_; rintro e w5 ⟨rfl, hb5⟩; skip; rw [HZ.out]; have HB5 := Lib.hid (HB4.out.trans (hb5.mono HB4.out.size)); clear hb5))
  go_ret
  exact ⟨rfl, HB5.out⟩
end Go.Proofs.YtoehmjkgjleaaaaDoor.Sha
