/- kex.Derive: keys by letters. -/
import Derived.Test.YtfaeigbfnjkojaaGreatDoorKfC
import Derived.Test.YtfaeigbfnjkojaaGreatDoorShaC
import Derived.Test.YtfaeigbfnjkojaaGreatDoorWirB
import Derived.Test.YtfaeigbfnjkojaaGreatDoorRegC
set_option linter.unusedVariables false
set_option linter.unusedSimpArgs false
namespace Go.Proofs.YtfaeigbfnjkojaaGreatDoor.Kx
open Go.RowKit Go.Proofs.YtfaeigbfnjkojaaGreatDoor.Cl
/-- the bytes that a secret and a hash begin -/
def bgL (s h : List UInt8) : List UInt8 := Wi.textL (Wi.bigL s) ++ h
def chL (bg m0 : List UInt8) : Nat → List UInt8
  | 0 => []
  | k + 1 => chL bg m0 k ++ Sha.sha 32 (bg ++ (if k = 0 then m0 else chL bg m0 k))
def moL (bg m0 : List UInt8) (k : Nat) : List UInt8 := if k = 0 then m0 else chL bg m0 k
theorem chL_len (bg m0 : List UInt8) : ∀ k, (chL bg m0 k).length = 32 * k
  | 0 => rfl
  | k + 1 => by rw [chL, List.length_append, chL_len, Sha.sha_length 32 (by decide)]; omega
/-- so many bytes, by a letter -/
def derL (s h i : List UInt8) (c : UInt8) (n : Nat) : List UInt8 := (chL (bgL s h) (c :: i) ((n + 31) / 32)).take n
theorem derL_len (s h i : List UInt8) (c : UInt8) (n : Nat) : (derL s h i c n).length = n := by
  unfold derL; rw [List.length_take, chL_len]; omega
theorem parts_two (w : World) (T : TypeId) (a b : ByteArray) : Jo.Parts (w.alloc (.cells #[.string a, .string b] T)) (.slice (some ⟨w.heap.size, 0, none⟩) 2 2) [a, b] :=
  .inr ⟨w.heap.size, 0, 2, rfl, fun j x hx => by
    match j, hx with
    | 0, hx => simp at hx; subst hx; exact (Rg.Blk.new w _ _).cell 0 rfl
    | 1, hx => simp at hx; subst hx; exact (Rg.Blk.new w _ _).cell 1 rfl, by simp, Nat.le_refl _⟩
def strLen : Value → Nat
  | .string s => s.size
  | _ => 0
set_option maxRecDepth 20000 in
set_option maxHeartbeats 2000000 in
theorem Derive_any (w : World) (s h i : List UInt8) (hs : s.length = 32) (hh : h.length = 32) (hi : i.length = 32) (c : UInt8) (n : Int) (hn : n ≤ 8160) (hT : Sha.Tables w) :
    Calls Tryz.prog 11 #[.agg (Cv.bytesV s), .agg (Cv.bytesV h), .agg (Cv.bytesV i), .int .u8 c.toNat, .int .i64 n] w fun e w' => e = .returned (.string ⟨(derL s h i c n.toNat).toArray⟩) ∧ Below w.heap.size w w' := by
  have HSL := Lib.hid hs
  have HHL := Lib.hid hh
  have HIL := Lib.hid hi
  have HT := Lib.hid hT
  obtain ⟨m, hm⟩ : ∃ m, n.toNat = m := ⟨_, rfl⟩
  have HM := Lib.hid (show m ≤ 8160 by omega)
  have hmx : max 0 (min n 8160) = (m : Int) := by omega
  rw [hm]
  obtain ⟨bs, hbs⟩ : ∃ b : ByteArray, (⟨(bgL s h).toArray⟩ : ByteArray) = b := ⟨_, rfl⟩
  have HBS := Lib.hid (show (⟨([] ++ Wi.textL (Wi.bigL s) ++ h).toArray⟩ : ByteArray) = bs from hbs)
  have HBSL := Lib.hid (show bs.data.toList = bgL s h from by rw [← hbs])
  have HSZ := Lib.hid (show (⟨s.toArray⟩ : ByteArray).size = 32 from by show s.toArray.size = 32; simp [hs])
  have HHZ := Lib.hid (show (⟨h.toArray⟩ : ByteArray).size = 32 from by show h.toArray.size = 32; simp [hh])
  have HBGL := Lib.hid (show (Wi.textL (Wi.bigL (⟨s.toArray⟩ : ByteArray).data.toList)).length ≤ 37 from by have := Wi.bigL_length s; unfold Wi.textL; rw [List.length_append, Be.be_length]; show 4 + (Wi.bigL s).length ≤ 37; omega)
  clear hs hh hi hT hm hn hbs
  go_enter Tryz.func11, Tryz.ntmps11
  have tok1 := True.intro
  go_upto_region 1 with (first
    | (have _t := tok1; (with_reducible refine gate_ ?_); refine Rg.box_fresh rfl 22 _ rfl (Cv.bytesV s) rfl ?_; intro X hX hbX hnX; have HX := Lib.hid hX; have HBX := Lib.hid hbX; have HNX := Lib.hid hnX; clear hX hbX hnX; have tok2 := True.intro; clear _t tok1)
    | (have _t := tok2; (with_reducible refine gate_ ?_); refine Rg.box_fresh rfl 22 _ rfl (Cv.bytesV h) rfl ?_; intro X2 hX hbX hnX; have HX2 := Lib.hid hX; have HBX2 := Lib.hid hbX; have HNX2 := Lib.hid hnX; clear hX hbX hnX; have tok3 := True.intro; clear _t tok2)
    | (have _t := tok3; (with_reducible refine gate_ ?_); refine Rg.box_fresh rfl 22 _ rfl (Cv.bytesV i) rfl ?_; intro X3 hX hbX hnX; have HX3 := Lib.hid hX; have HBX3 := Lib.hid hbX; have HNX3 := Lib.hid hnX; clear hX hbX hnX; clear _t tok3))
  obtain ⟨sb, hsb⟩ : ∃ n, w.heap.size = n := ⟨_, rfl⟩
  obtain ⟨hb, hhb⟩ : ∃ n, X.heap.size = n := ⟨_, rfl⟩
  obtain ⟨ib, hib⟩ : ∃ n, X2.heap.size = n := ⟨_, rfl⟩
  obtain ⟨ob, hob⟩ : ∃ n, X3.heap.size = n := ⟨_, rfl⟩
  have HK := Lib.hid (show Rg.Blk X3 sb 22 (Cv.bytesV s) from (((hsb ▸ HX.out).below HBX2.out (by rw [← hsb]; exact HX.out.lt)).below HBX3.out (by have := HNX2.out; have := HNX.out; omega)))
  have HH := Lib.hid (show Rg.Blk X3 hb 22 (Cv.bytesV h) from ((hhb ▸ HX2.out).below HBX3.out (by rw [← hhb]; exact HX2.out.lt)))
  have HI := Lib.hid (show Rg.Blk X3 ib 22 (Cv.bytesV i) from hib ▸ HX3.out)
  have HB := Lib.hid (show Below sb w X3 from hsb ▸ ((HBX.out.trans (HBX2.out.mono HBX.out.size)).trans (HBX3.out.mono (by have := HNX.out; have := HNX2.out; omega))))
  have HN := Lib.hid (show sb < ob ∧ hb < ob ∧ ib < ob from by have h1 := HNX.out; have h2 := HNX2.out; have h3 := HNX3.out; omega)
  have HT3 := Lib.hid (HT.out.below HB.out (by rw [← hsb]; exact HT.out.size))
  have HKB := Lib.hid hsb
  have HTZ := Lib.hid (show 23 ≤ sb from hsb ▸ HT.out.size)
  have HOB := Lib.hid hob
  try rw [hsb]
  try rw [hhb]
  try rw [hib]
  clear HX HBX HNX HX2 HBX2 HNX2 HX3 HBX3 HNX3 hsb hhb hib hob HT
  go_upto_region 3 with fail
  try rw [HOB.out]
  have HO := Lib.hid (show Wi.IsOut ob ob [] (X3.alloc (.cells #[.pointer none, .slice none 0 0] 69)) from HOB.out ▸ Wi.outFresh X3)
  have HBY := Lib.hid (show Below ob X3 (X3.alloc (.cells #[.pointer none, .slice none 0 0] 69)) from HOB.out ▸ (Below.refl _ _).alloc (Nat.le_refl _) _)
  have HYS := Lib.hid (show ob ≤ (X3.alloc (.cells #[.pointer none, .slice none 0 0] 69)).heap.size from by simp; rw [HOB.out]; omega)
  generalize X3.alloc (.cells #[.pointer none, .slice none 0 0] 69) = Y at *
  have HK := Lib.hid ((HK.out.below HBY.out HN.out.1))
  have HH := Lib.hid ((HH.out.below HBY.out HN.out.2.1))
  have HI := Lib.hid ((HI.out.below HBY.out HN.out.2.2))
  refine RL.start (fun W => Below ob Y W) (by kernel_rfl) (Below.drew (Below.refl _ _)) ?_
  refine' RL.takeV (i := 0) (v := _) rfl (by kernel_rfl) (by kernel_rfl) (by kernel_rfl) (fun _ _ _ h => h) (by rfl) ?hk10 ?_
  case hk10 => (intro W hSW; go_simp; try with_reducible rfl)
  (try simp only [Act.put, List.setIfInBounds_toArray, List.set_cons_zero, List.set_cons_succ])
  refine' RL.takeV (i := 1) (v := _) rfl (by kernel_rfl) (by kernel_rfl) (by kernel_rfl) (fun _ _ _ h => h) (by rfl) ?hk11 ?_
  case hk11 => (intro W hSW; have x1 := Cv.run_string_len (P := Tryz.prog) W 36 5 9 Tryz.underlying36 Tryz.underlying5 Tryz.underlying9 sb 0 32 32 s HSL.out (Cv.Bytes.of_blk (HK.out.below hSW HN.out.1)); go_simp; try with_reducible rfl)
  (try simp only [Act.put, List.setIfInBounds_toArray, List.set_cons_zero, List.set_cons_succ])
  refine' RL.takeV (i := 3) (v := _) rfl (by kernel_rfl) (by kernel_rfl) (by kernel_rfl) (fun _ _ _ h => h) (by rfl) ?hk12 ?_
  case hk12 => (intro W hSW; go_simp; try with_reducible rfl)
  (try simp only [Act.put, List.setIfInBounds_toArray, List.set_cons_zero, List.set_cons_succ])
  refine' RL.takeV (i := 4) (v := _) rfl (by kernel_rfl) (by kernel_rfl) (by kernel_rfl) (fun _ _ _ h => h) (by rfl) ?hk13 ?_
  case hk13 => (intro W hSW; have x1 := Cv.run_string_len (P := Tryz.prog) W 36 5 9 Tryz.underlying36 Tryz.underlying5 Tryz.underlying9 hb 0 32 32 h HHL.out (Cv.Bytes.of_blk (HH.out.below hSW HN.out.2.1)); go_simp; try with_reducible rfl)
  (try simp only [Act.put, List.setIfInBounds_toArray, List.set_cons_zero, List.set_cons_succ])
  refine' RL.stepCall (i := 2) 29 #[.pointer (some ⟨ob, 0, none⟩), .string ⟨s.toArray⟩] rfl (by kernel_rfl) (by rfl) ?hv14 ?hc14
  case hv14 => (intro W; go_simp; try with_reducible rfl)
  intro wa hlwa hswa
  have hIO := (Wi.IsOut.below HO.out (Below.drew (Below.refl _ _))).below hlwa
  refine (Wi.Big_any ob ob [] ⟨s.toArray⟩ (by rw [HSZ.out]; decide) wa hIO (by rw [HSZ.out]; decide) (Nat.le_trans HYS.out (Below.size hswa))).mono ?_
  rintro e w1 ⟨rfl, h1, hc1⟩
  refine ⟨_, rfl, Below.trans hswa hc1.below, ?_⟩
  (try simp only [Act.put, List.setIfInBounds_toArray, List.set_cons_zero, List.set_cons_succ])
  refine' RL.stepCall (i := 5) 30 #[.pointer (some ⟨ob, 0, none⟩), .string ⟨h.toArray⟩] rfl (by kernel_rfl) (by rfl) ?hv15 ?hc15
  case hv15 => (intro W; go_simp; try with_reducible rfl)
  intro wb hlwb hswb
  have hIO := Wi.IsOut.below h1 hlwb
  refine (Wi.Raw_any ob ob _ ⟨h.toArray⟩ wb hIO (by rw [HHZ.out, List.nil_append]; have := HBGL.out; omega) (Nat.le_trans HYS.out (Below.size hswb))).mono ?_
  rintro e w2 ⟨rfl, h2, hc2⟩
  refine ⟨_, rfl, Below.trans hswb hc2.below, ?_⟩
  (try simp only [Act.put, List.setIfInBounds_toArray, List.set_cons_zero, List.set_cons_succ])
  refine' RL.stepCall (i := 6) 31 #[.pointer (some ⟨ob, 0, none⟩)] rfl (by kernel_rfl) (by rfl) ?hv16 ?hc16
  case hv16 => (intro W; go_simp; try with_reducible rfl)
  intro wc hlwc hswc
  have hIO := Wi.IsOut.below h2 hlwc
  refine (Wi.Bytes_eq ob ob _ bs HBS.out wc (Bo.Read.of hIO) (Nat.le_trans HYS.out (Below.size hswc))).mono ?_
  rintro e w3 ⟨rfl, h3, hb3, hk3⟩
  refine ⟨_, rfl, Below.trans hswc hb3, ?_⟩
  (try simp only [Act.put, List.setIfInBounds_toArray, List.set_cons_zero, List.set_cons_succ])
  refine RL.stepK (i := 7) rfl (by kernel_rfl) (by rfl) (fun we hlwe hswe K hK => ?_)
  go_simp
  refine hK.out _ _ hswe ?_
  clear hK
  (try simp only [Act.put, List.setIfInBounds_toArray, List.set_cons_zero, List.set_cons_succ])
  refine RL.done (by kernel_rfl) (fun Y2 hlY2 hsY2 => ?_)
  have HB2 := Lib.hid (show Below ob Y Y2 from hsY2)
  clear hlY2 hsY2 hlwe hswe h3 hb3 hk3 hlwc hswc h2 hc2 hlwb hswb h1 hc1 hlwa hswa
  have HI := Lib.hid (HI.out.below HB2.out HN.out.2.2)
  have HTO := Lib.hid (show 23 ≤ ob from by have h1 := HTZ.out; have h2 := HN.out; omega)
  have HT2 := Lib.hid ((HT3.out.below HBY.out HTO.out).below HB2.out HTO.out)
  have HB := Lib.hid ((HB.out.trans (HBY.out.mono (by have h2 := HN.out; omega))).trans (HB2.out.mono (by have h2 := HN.out; omega)))
  clear HK HH HBY HB2 HO HYS HT3
  obtain ⟨ms, hms⟩ : ∃ b : ByteArray, (⟨(c :: i).toArray⟩ : ByteArray) = b := ⟨_, rfl⟩
  have HM0 := Lib.hid (show (⟨#[c]⟩ : ByteArray) ++ ⟨i.toArray⟩ = ms from by rw [← hms]; apply ByteArray.ext; apply Array.toList_inj.1; simp)
  have HM0Z := Lib.hid (show ms.size ≤ 1000000 from by rw [← hms]; show (c :: i).toArray.size ≤ _; simp [HIL.out])
  have HMS := Lib.hid hms
  clear hms
  go_upto_region 5 with fail
  refine RL.start (RL.Aft Y2) (by kernel_rfl) (RL.Aft.drew (RL.Aft.refl Y2)) ?_
  refine' RL.takeV (i := 0) (v := _) rfl (by kernel_rfl) (by kernel_rfl) (by kernel_rfl) (fun _ _ _ h => h) (by rfl) ?hk17 ?_
  case hk17 => (intro W hSW; go_simp; try with_reducible rfl)
  (try simp only [Act.put, List.setIfInBounds_toArray, List.set_cons_zero, List.set_cons_succ])
  refine' RL.takeV (i := 3) (v := _) rfl (by kernel_rfl) (by kernel_rfl) (by kernel_rfl) (fun _ _ _ h => h) (by rfl) ?hk18 ?_
  case hk18 => (intro W hSW; go_simp; try with_reducible rfl)
  (try simp only [Act.put, List.setIfInBounds_toArray, List.set_cons_zero, List.set_cons_succ])
  refine' RL.takeV (i := 4) (v := _) rfl (by kernel_rfl) (by kernel_rfl) (by kernel_rfl) (fun _ _ _ h => h) (by rfl) ?hk19 ?_
  case hk19 => (intro W hSW; have x1 := Cv.run_string_len (P := Tryz.prog) W 36 5 9 Tryz.underlying36 Tryz.underlying5 Tryz.underlying9 ib 0 32 32 i HIL.out (Cv.Bytes.of_blk (aft_blk hSW HI.out)); go_simp; try with_reducible rfl)
  (try simp only [Act.put, List.setIfInBounds_toArray, List.set_cons_zero, List.set_cons_succ])
  refine RL.stepK (i := 1) rfl (by kernel_rfl) (by rfl) (fun wv hlwv hswv K hK => ?_)
  go_simp
  obtain ⟨b1, hb1⟩ : ∃ n, wv.heap.size = n := ⟨_, rfl⟩
  have hby : Cv.Bytes (wv.alloc (.cells #[.int .u8 c.toNat] 5)) b1 0 [c] := hb1 ▸ Cv.one_byte wv 5 c.toNat c rfl
  refine hK.out _ _ (RL.Aft.alloc hswv _) ?_
  try rw [hb1]
  clear hK
  (try simp only [Act.put, List.setIfInBounds_toArray, List.set_cons_zero, List.set_cons_succ])
  refine RL.stepK (i := 2) rfl (by kernel_rfl) (by rfl) (fun wx hlwx hswx K hK => ?_)
  have x1 := Cv.run_string_len (P := Tryz.prog) wx 36 5 9 Tryz.underlying36 Tryz.underlying5 Tryz.underlying9 b1 0 1 1 [c] rfl (hby.below hlwx (by simp; omega))
  go_simp
  refine hK.out _ _ hswx ?_
  clear hK x1
  (try simp only [Act.put, List.setIfInBounds_toArray, List.set_cons_zero, List.set_cons_succ])
  refine' RL.takeV (i := 5) (v := _) rfl (by kernel_rfl) (by kernel_rfl) (by kernel_rfl) (fun _ _ _ h => h) (by rfl) ?hk20 ?_
  case hk20 => (intro W hSW; have x1 := HM0.out; have x2 := HIL.out; go_simp; try with_reducible rfl)
  (try simp only [Act.put, List.setIfInBounds_toArray, List.set_cons_zero, List.set_cons_succ])
  refine RL.stepK (i := 6) rfl (by kernel_rfl) (by rfl) (fun we hlwe hswe K hK => ?_)
  go_simp
  refine hK.out _ _ hswe ?_
  clear hK
  (try simp only [Act.put, List.setIfInBounds_toArray, List.set_cons_zero, List.set_cons_succ])
  refine RL.done (by kernel_rfl) (fun Y3 hlY3 hsY3 => ?_)
  have HA := Lib.hid (show RL.Aft Y2 Y3 from hsY3)
  clear hlY3 hsY3 hlwe hswe hlwx hswx hlwv hswv hby hb1
  have HT3 := Lib.hid (HT2.out.below HA.out HT2.out.size)
  have HB := Lib.hid (HB.out.trans (Below.mono HA.out (HB.out.size_le HKB.out)))
  clear HA HT2 HI
  go_upto_region 6 with fail
  obtain ⟨bg, hbg⟩ : ∃ l, bgL s h = l := ⟨_, rfl⟩
  obtain ⟨m0, hm0⟩ : ∃ l, c :: i = l := ⟨_, rfl⟩
  have HRES := Lib.hid (show derL s h i c m = (chL bg m0 ((m + 31) / 32)).take m from by rw [← hbg, ← hm0]; rfl)
  have HBSL := Lib.hid (hbg ▸ HBSL.out)
  have HMS := Lib.hid (hm0 ▸ HMS.out)
  have HM0L := Lib.hid (show m0.length = 33 from by rw [← hm0, List.length_cons, HIL.out])
  have HBGL := Lib.hid (show bg.length ≤ 69 from by rw [← hbg]; unfold bgL; rw [List.length_append, HHL.out]; have := HBGL.out; exact Nat.add_le_add_right this 32)
  rw [← HMS.out]
  clear hbg hm0 HMS HM0 HM0Z HIL HSL HHL HSZ HHZ HBS
  go_loopw [13, 14] (fun oo mo wr => ∃ k : Nat, k ≤ (m + 31) / 32 ∧ oo = .string ⟨(chL bg m0 k).toArray⟩ ∧ mo = .string ⟨(moL bg m0 k).toArray⟩ ∧ Below sb w wr ∧ Sha.Tables wr) (fun oo _ _ => m - strLen oo)
  case atStart => exact ⟨0, Nat.zero_le _, rfl, rfl, HB.out, HT3.out⟩
  case round =>
    obtain ⟨k, hk, rfl, rfl, hb, ht⟩ := hrel
    clear HB HT3
    have HB := Lib.hid hb
    have HT := Lib.hid ht
    clear hb ht
    have HCL := Lib.hid (chL_len bg m0 k)
    have HCS := Lib.hid (show chL bg m0 (k + 1) = chL bg m0 k ++ Sha.sha 32 (bg ++ moL bg m0 k) from rfl)
    have HMO := Lib.hid (show moL bg m0 (k + 1) = chL bg m0 (k + 1) from rfl)
    have HML := Lib.hid (show (moL bg m0 k).length ≤ 33 + 32 * k from by unfold moL; split; rw [HM0L.out]; omega; rw [HCL.out]; omega)
    obtain ⟨xs, hxs⟩ : ∃ l, chL bg m0 k = l := ⟨_, rfl⟩
    obtain ⟨ys, hys⟩ : ∃ l, moL bg m0 k = l := ⟨_, rfl⟩
    have HXS := Lib.hid hxs
    rw [hxs] at HCL HCS
    rw [hys] at HML HCS
    rw [hxs, hys]
    clear hxs hys
    by_cases hkm : 32 * k < m
    · obtain ⟨zs, hzs⟩ : ∃ l, Sha.sha 32 (bg ++ ys) = l := ⟨_, rfl⟩
      have HZL := Lib.hid (show zs.length = 32 from hzs ▸ Sha.sha_length 32 (by decide) _)
      have hxl : xs.length = 32 * k := HCL.out
      have hd : decide (32 * (k : Int) < (m : Int)) = true := by simp; omega
      have HSU := Lib.hid (fun W (hW : Sha.Tables W) v (hv : Jo.Parts W v [bs, ⟨ys.toArray⟩]) => show Calls Tryz.prog 32 #[v] W fun e w' => e = .returned (.agg (Cv.bytesV zs)) ∧ Below W.heap.size W w' from by
        have e1 : (Jo.joined [bs, ⟨ys.toArray⟩]).data.toList = bg ++ ys := by rw [Jo.joined_list]; simp [HBSL.out]
        have := Sha.Sum256_any W v [bs, ⟨ys.toArray⟩] hW hv (by rw [← ByteArray.size_data, ← Array.length_toList, e1, List.length_append]; have h1 := HBGL.out; have h2 := HML.out; have h3 := HM.out; omega) (by simp)
        rwa [e1, hzs] at this)
      rw [hzs] at HCS
      clear hzs
      obtain ⟨nx, hnx⟩ : ∃ l, chL bg m0 (k + 1) = l := ⟨_, rfl⟩
      rw [hnx] at HMO
      have HADD := Lib.hid (show (⟨xs.toArray⟩ : ByteArray) ++ ⟨zs.toArray⟩ = ⟨nx.toArray⟩ from by rw [← hnx, HCS.out]; apply ByteArray.ext; apply Array.toList_inj.1; simp)
      have HNX := Lib.hid hnx
      have HKM := Lib.hid (show k + 1 ≤ (m + 31) / 32 from by omega)
      have HNL := Lib.hid (show nx.length = 32 * k + 32 from by rw [← hnx, chL_len]; omega)
      have HNN := Lib.hid (show ¬ 9223372036854775807 < 32 * k + 32 from by have := HM.out; omega)
      clear hnx
      go_upto_region 8 with (first
        | (go_at_call 32; refine (HSU.out _ (HT.out.below ((Below.refl _ _).alloc (Nat.le_refl _) _) HT.out.size) _ (parts_two wr 9 bs _)).mono ?_; rintro e w9 ⟨rfl, hb9⟩; skip; have HB9 := Lib.hid hb9; clear hb9)
        | (refine Rg.store_fresh rfl 22 _ _ rfl (Cv.bytesV zs) _ 22 rfl rfl (by rw [Cv.bytesV_size, HZL.out]; kernel_rfl) (by rw [Cv.bytesV_size, HZL.out]; rfl) (Cv.bytesV_one _) ?_; intro V1 hX hbX; have HV1 := Lib.hid hX; have HBV := Lib.hid hbX; clear hX hbX))
      obtain ⟨vb, hvb⟩ : ∃ n, w9.heap.size = n := ⟨_, rfl⟩
      have HV1 := Lib.hid (hvb ▸ HV1.out)
      try rw [hvb]
      have HB9 := Lib.hid (show Below wr.heap.size wr w9 from Below.trans ((Below.refl _ _).alloc (Nat.le_refl _) _) (HB9.out.mono (by simp)))
      have HBV := Lib.hid (HB9.out.trans (HBV.out.mono HB9.out.size))
      have HB := Lib.hid (HB.out.trans (HBV.out.mono (HB.out.size_le HKB.out)))
      have HT := Lib.hid (HT.out.below HBV.out HT.out.size)
      clear HB9 hvb HBV
      go_upto_region 8 with fail
      have hzl := HZL.out
      have hadd := HADD.out
      have hnn := HNN.out
      have hnx := HNL.out
      go_wp2_with ((with_reducible refine gate_ ?_); refine Cv.conv_string rfl 36 5 9 _ rfl Tryz.underlying36 Tryz.underlying5 Tryz.underlying9 vb 0 32 32 zs rfl HZL.out (Cv.Bytes.of_blk HV1.out) ?_; skip)
      go_roundw
      case rel =>
        have REL := Lib.hid (show ∃ k' : Nat, k' ≤ (m + 31) / 32 ∧ Value.string ⟨nx.toArray⟩ = .string ⟨(chL bg m0 k').toArray⟩ ∧ Value.string ⟨nx.toArray⟩ = .string ⟨(moL bg m0 k').toArray⟩ ∧ Below sb w V1 ∧ Sha.Tables V1 from ⟨k + 1, HKM.out, by rw [HNX.out], by rw [HMO.out], HB.out, HT.out⟩)
        first
          | exact REL.out
          | ((repeat apply Exists.intro); refine ⟨?_, rfl⟩; exact REL.out)
      case measure => (show m - (⟨nx.toArray⟩ : ByteArray).size < m - (⟨xs.toArray⟩ : ByteArray).size; rw [show (⟨nx.toArray⟩ : ByteArray).size = 32 * k + 32 from by show nx.toArray.size = _; simp [hnx], show (⟨xs.toArray⟩ : ByteArray).size = 32 * k from by show xs.toArray.size = _; simp [hxl]]; omega)
    · have hxl : xs.length = 32 * k := HCL.out
      have hd : decide (32 * (k : Int) < (m : Int)) = false := by simp; omega
      have HKE := Lib.hid (show k = (m + 31) / 32 from by omega)
      have hmk : m ≤ 32 * k := by omega
      have hmk0 : (0 : Int) ≤ (m : Int) := by omega
      have hmkz : (m : Int) ≤ 32 * (k : Int) := by omega
      go_wp2_with fail
      go_ret
      refine ⟨?_, HKB.out ▸ HB.out⟩
      rw [HRES.out, ← HKE.out, HXS.out]
      show Ending.returned (.string ((⟨xs.toArray⟩ : ByteArray).extract 0 m)) = .returned (.string ⟨(xs.take m).toArray⟩)
      refine congrArg _ (congrArg _ ?_)
      apply ByteArray.ext; apply Array.toList_inj.1
      rw [Sha.extract_list0]
end Go.Proofs.YtfaeigbfnjkojaaGreatDoor.Kx
