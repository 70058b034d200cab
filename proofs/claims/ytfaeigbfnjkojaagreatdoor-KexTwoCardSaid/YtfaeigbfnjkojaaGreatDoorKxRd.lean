/- The reference's Derive. -/
import Derived.Test.YtfaeigbfnjkojaaGreatDoorKxU
import Derived.Test.YtfaeigbfnjkojaaGreatDoorRefT
set_option linter.unusedVariables false
set_option linter.unusedSimpArgs false
namespace Go.Proofs.YtfaeigbfnjkojaaGreatDoor.Kx
open Go.RowKit Go.Proofs.YtfaeigbfnjkojaaGreatDoor.Cl
theorem app_str (a b : List UInt8) : (⟨a.toArray⟩ : ByteArray) ++ (⟨b.toArray⟩ : ByteArray) = ⟨(a ++ b).toArray⟩ := by apply ByteArray.ext; apply Array.toList_inj.1; simp
theorem str_size (a : List UInt8) : (⟨a.toArray⟩ : ByteArray).size = a.length := by show a.toArray.size = _; simp
theorem RefSum_list (W : World) (l : List UInt8) (hl : l.length ≤ 1000000) : Calls Tryz.prog 33 #[.string ⟨l.toArray⟩] W fun e w' => e = .returned (.string ⟨(Sha.sha 32 l).toArray⟩) ∧ Below W.heap.size W w' := by
  have := Sha.RefSum256_any W ⟨l.toArray⟩ (by rw [str_size]; exact hl)
  rwa [← Sha.shaS_eq] at this
set_option maxRecDepth 20000 in
set_option maxHeartbeats 2000000 in
theorem RefDerive_any (w : World) (s h i : List UInt8) (hs : s.length = 32) (hh : h.length = 32) (hi : i.length = 32) (c : UInt8) (m : Nat) (hm : m ≤ 8160) :
    Calls Tryz.prog 13 #[.string ⟨s.toArray⟩, .string ⟨h.toArray⟩, .string ⟨i.toArray⟩, .int .u8 c.toNat, .int .i64 m] w fun e w' => e = .returned (.string ⟨(derL s h i c m).toArray⟩) ∧ Below w.heap.size w w' := by
  obtain ⟨bt, hbt⟩ : ∃ l, Wi.textL (Wi.bigL s) = l := ⟨_, rfl⟩
  have HBT := Lib.hid (show bt.length ≤ 37 from by rw [← hbt]; have := Wi.bigL_length s; unfold Wi.textL; rw [List.length_append, Be.be_length]; omega)
  have HBC := Lib.hid (fun W => show Calls Tryz.prog 34 #[.string ⟨s.toArray⟩] W fun e w' => e = .returned (.string ⟨bt.toArray⟩) ∧ Below W.heap.size W w' from by
    have := Wi.RefBig_any W ⟨s.toArray⟩ (by rw [str_size, hs]; decide)
    rw [show (⟨s.toArray⟩ : ByteArray).data.toList = s from rfl, hbt] at this
    exact this)
  have HRES := Lib.hid (show derL s h i c m = (chL (bt ++ h) (c :: i) ((m + 31) / 32)).take m from by rw [← hbt]; rfl)
  have HM := Lib.hid hm
  have HIL := Lib.hid hi
  have HHL := Lib.hid hh
  clear hs hbt hm hi hh
  go_enter Tryz.func13, Tryz.ntmps13
  go_upto_region 2 with fail
  go_loopw [11] (fun oo wr => ∃ k : Nat, k ≤ (m + 31) / 32 ∧ oo = .string ⟨(chL (bt ++ h) (c :: i) k).toArray⟩ ∧ Below w.heap.size w wr) (fun oo _ => m - strLen oo)
  case atStart => exact ⟨0, Nat.zero_le _, rfl, Below.refl _ _⟩
  case round =>
    obtain ⟨k, hk, rfl, hb⟩ := hrel
    have HB := Lib.hid hb
    clear hb
    have HCL := Lib.hid (chL_len (bt ++ h) (c :: i) k)
    have HCS := Lib.hid (show chL (bt ++ h) (c :: i) (k + 1) = chL (bt ++ h) (c :: i) k ++ Sha.sha 32 ((bt ++ h) ++ moL (bt ++ h) (c :: i) k) from rfl)
    have hk0 : k = 0 ∨ 0 < k := by omega
    by_cases hkm : 32 * k < m
    · obtain ⟨nx, hnx⟩ : ∃ l, chL (bt ++ h) (c :: i) (k + 1) = l := ⟨_, rfl⟩
      have HNX := Lib.hid hnx
      have HNL := Lib.hid (show nx.length = 32 * k + 32 from by rw [← hnx, chL_len]; omega)
      have HKM := Lib.hid (show k + 1 ≤ (m + 31) / 32 from by omega)
      rcases hk0 with rfl | hk0
      · rw [hnx] at HCS
        clear hnx
        have hd : decide ((0 : Int) < (m : Int)) = true := by simp; omega
        rw [show chL (bt ++ h) (c :: i) 0 = [] from rfl] at *
        obtain ⟨l1, hl1⟩ : ∃ l, bt ++ h = l := ⟨_, rfl⟩
        obtain ⟨l2, hl2⟩ : ∃ l, l1 ++ [c] = l := ⟨_, rfl⟩
        obtain ⟨l3, hl3⟩ : ∃ l, l2 ++ i = l := ⟨_, rfl⟩
        have hi := HIL.out
        have hh := HHL.out
        have A1 := Lib.hid (show (⟨bt.toArray⟩ : ByteArray) ++ (⟨h.toArray⟩ : ByteArray) = ⟨l1.toArray⟩ ∧ ¬ 9223372036854775807 < bt.length + h.length from ⟨by rw [app_str, hl1], by have := HBT.out; omega⟩)
        have hz1 : l1.length ≤ 69 := by rw [← hl1, List.length_append]; have := HBT.out; omega
        have A2 := Lib.hid (show (⟨l1.toArray⟩ : ByteArray) ++ (⟨#[c]⟩ : ByteArray) = ⟨l2.toArray⟩ ∧ ¬ 9223372036854775807 < l1.length + 1 from ⟨by rw [← hl2]; exact app_str l1 [c], by omega⟩)
        have hz2 : l2.length ≤ 70 := by rw [← hl2, List.length_append]; exact Nat.add_le_add_right hz1 1
        have A3 := Lib.hid (show (⟨l2.toArray⟩ : ByteArray) ++ (⟨i.toArray⟩ : ByteArray) = ⟨l3.toArray⟩ ∧ ¬ 9223372036854775807 < l2.length + i.length from ⟨by rw [app_str, hl3], by omega⟩)
        have HSU := Lib.hid (fun W => show Calls Tryz.prog 33 #[.string ⟨l3.toArray⟩] W fun e w' => e = .returned (.string ⟨nx.toArray⟩) ∧ Below W.heap.size W w' from by
          have := RefSum_list W l3 (by rw [← hl3, List.length_append]; omega)
          rwa [show Sha.sha 32 l3 = nx from by rw [HCS.out, ← hl3, ← hl2, hl1]; simp [moL]] at this)
        clear hl1 hl2 hl3 hz1 hz2 hi hh
        go_upto_region 4 with fail
        refine RL.start (RL.Aft wr) (by kernel_rfl) (RL.Aft.drew (RL.Aft.refl wr)) ?_
        refine' RL.takeV (i := 0) (v := _) rfl (by kernel_rfl) (by kernel_rfl) (by kernel_rfl) (fun _ _ _ h => h) (by rfl) ?hk21 ?_
        case hk21 => (intro W hSW; go_simp; try with_reducible rfl)
        (try simp only [Act.put, List.setIfInBounds_toArray, List.set_cons_zero, List.set_cons_succ])
        refine' RL.takeC (i := 1) (v := .string ⟨bt.toArray⟩) 34 #[.string ⟨s.toArray⟩] rfl (by kernel_rfl) (by kernel_rfl) (by kernel_rfl) (fun _ _ _ h => h) (by rfl) ?hk22 ?hc22 ?_
        case hk22 => (intro W; go_simp; try with_reducible rfl)
        case hc22 => (intro W hSW; exact (HBC.out W).mono (fun e w9 h9 => ⟨h9.1, h9.2, RL.Aft.lat hSW h9.2⟩))
        (try simp only [Act.put, List.setIfInBounds_toArray, List.set_cons_zero, List.set_cons_succ])
        refine' RL.takeV (i := 2) (v := _) rfl (by kernel_rfl) (by kernel_rfl) (by kernel_rfl) (fun _ _ _ h => h) (by rfl) ?hk23 ?_
        case hk23 => (intro W hSW; go_simp; try with_reducible rfl)
        (try simp only [Act.put, List.setIfInBounds_toArray, List.set_cons_zero, List.set_cons_succ])
        refine' RL.takeV (i := 3) (v := _) rfl (by kernel_rfl) (by kernel_rfl) (by kernel_rfl) (fun _ _ _ h => h) (by rfl) ?hk24 ?_
        case hk24 => (intro W hSW; have x1 := A1.out.1; have x2 := A1.out.2; go_simp; try with_reducible rfl)
        (try simp only [Act.put, List.setIfInBounds_toArray, List.set_cons_zero, List.set_cons_succ])
        refine' RL.takeV (i := 4) (v := _) rfl (by kernel_rfl) (by kernel_rfl) (by kernel_rfl) (fun _ _ _ h => h) (by rfl) ?hk25 ?_
        case hk25 => (intro W hSW; go_simp; try with_reducible rfl)
        (try simp only [Act.put, List.setIfInBounds_toArray, List.set_cons_zero, List.set_cons_succ])
        refine' RL.takeV (i := 8) (v := _) rfl (by kernel_rfl) (by kernel_rfl) (by kernel_rfl) (fun _ _ _ h => h) (by rfl) ?hk26 ?_
        case hk26 => (intro W hSW; go_simp; try with_reducible rfl)
        (try simp only [Act.put, List.setIfInBounds_toArray, List.set_cons_zero, List.set_cons_succ])
        refine RL.stepK (i := 5) rfl (by kernel_rfl) (by rfl) (fun wv hlwv hswv K hK => ?_)
        go_simp
        obtain ⟨b1, hb1⟩ : ∃ n, wv.heap.size = n := ⟨_, rfl⟩
        have hby : Cv.Bytes (wv.alloc (.cells #[.int .u8 c.toNat] 5)) b1 0 [c] := hb1 ▸ Cv.one_byte wv 5 c.toNat c rfl
        refine hK.out _ _ (RL.Aft.alloc hswv _) ?_
        try rw [hb1]
        clear hK
        (try simp only [Act.put, List.setIfInBounds_toArray, List.set_cons_zero, List.set_cons_succ])
        refine RL.stepK (i := 6) rfl (by kernel_rfl) (by rfl) (fun wx hlwx hswx K hK => ?_)
        have x1 := Cv.run_string_len (P := Tryz.prog) wx 36 5 9 Tryz.underlying36 Tryz.underlying5 Tryz.underlying9 b1 0 1 1 [c] rfl (hby.below hlwx (by simp; omega))
        go_simp
        refine hK.out _ _ hswx ?_
        clear hK x1
        (try simp only [Act.put, List.setIfInBounds_toArray, List.set_cons_zero, List.set_cons_succ])
        refine' RL.takeV (i := 7) (v := _) rfl (by kernel_rfl) (by kernel_rfl) (by kernel_rfl) (fun _ _ _ h => h) (by rfl) ?hk27 ?_
        case hk27 => (intro W hSW; have x1 := A2.out.1; have x2 := A2.out.2; go_simp; try with_reducible rfl)
        (try simp only [Act.put, List.setIfInBounds_toArray, List.set_cons_zero, List.set_cons_succ])
        refine' RL.takeV (i := 9) (v := _) rfl (by kernel_rfl) (by kernel_rfl) (by kernel_rfl) (fun _ _ _ h => h) (by rfl) ?hk28 ?_
        case hk28 => (intro W hSW; have x1 := A3.out.1; have x2 := A3.out.2; go_simp; try with_reducible rfl)
        (try simp only [Act.put, List.setIfInBounds_toArray, List.set_cons_zero, List.set_cons_succ])
        refine' RL.takeC (i := 10) (v := .string ⟨nx.toArray⟩) 33 #[.string ⟨l3.toArray⟩] rfl (by kernel_rfl) (by kernel_rfl) (by kernel_rfl) (fun _ _ _ h => h) (by rfl) ?hk29 ?hc29 ?_
        case hk29 => (intro W; go_simp; try with_reducible rfl)
        case hc29 => (intro W hSW; exact (HSU.out W).mono (fun e w9 h9 => ⟨h9.1, h9.2, RL.Aft.lat hSW h9.2⟩))
        (try simp only [Act.put, List.setIfInBounds_toArray, List.set_cons_zero, List.set_cons_succ])
        refine RL.stepK (i := 11) rfl (by kernel_rfl) (by rfl) (fun we hlwe hswe K hK => ?_)
        go_simp
        refine hK.out _ _ hswe ?_
        clear hK
        (try simp only [Act.put, List.setIfInBounds_toArray, List.set_cons_zero, List.set_cons_succ])
        refine RL.done (by kernel_rfl) (fun Y3 hlY3 hsY3 => ?_)
        have HB3 := Lib.hid (HB.out.trans (Below.mono hsY3 HB.out.size))
        clear hlY3 hsY3 hlwe hswe hlwx hswx hlwv hswv hby hb1
        go_wp2_with fail
        go_roundw
        case rel =>
          have REL := Lib.hid (show ∃ k' : Nat, k' ≤ (m + 31) / 32 ∧ Value.string ⟨nx.toArray⟩ = .string ⟨(chL (bt ++ h) (c :: i) k').toArray⟩ ∧ Below w.heap.size w Y3 from ⟨0 + 1, HKM.out, by rw [HNX.out], HB3.out⟩)
          first
            | exact REL.out
            | ((repeat apply Exists.intro); refine ⟨?_, rfl⟩; exact REL.out)
        case measure => (show m - (⟨nx.toArray⟩ : ByteArray).size < m - (⟨#[]⟩ : ByteArray).size; rw [str_size, HNL.out, show (⟨#[]⟩ : ByteArray).size = 0 from rfl]; omega)
      · obtain ⟨xs, hxs⟩ : ∃ l, chL (bt ++ h) (c :: i) k = l := ⟨_, rfl⟩
        rw [hxs] at HCL
        have HCS := Lib.hid (show nx = xs ++ Sha.sha 32 ((bt ++ h) ++ xs) from by rw [← hnx, HCS.out, ← hxs]; unfold moL; rw [if_neg (by omega)])
        rw [hxs]
        clear hnx hxs
        have hxl : xs.length = 32 * k := HCL.out
        have hd : decide (32 * (k : Int) < (m : Int)) = true := by simp; omega
        have hxe : xs.isEmpty = false := by cases xs with | nil => simp at hxl; omega | cons => rfl
        obtain ⟨l1, hl1⟩ : ∃ l, bt ++ h = l := ⟨_, rfl⟩
        obtain ⟨l2, hl2⟩ : ∃ l, l1 ++ xs = l := ⟨_, rfl⟩
        obtain ⟨zs, hzs⟩ : ∃ l, Sha.sha 32 l2 = l := ⟨_, rfl⟩
        have hh := HHL.out
        have A1 := Lib.hid (show (⟨bt.toArray⟩ : ByteArray) ++ (⟨h.toArray⟩ : ByteArray) = ⟨l1.toArray⟩ ∧ ¬ 9223372036854775807 < bt.length + h.length from ⟨by rw [app_str, hl1], by have := HBT.out; omega⟩)
        have hz1 : l1.length ≤ 69 := by rw [← hl1, List.length_append]; have := HBT.out; omega
        have A2 := Lib.hid (show (⟨l1.toArray⟩ : ByteArray) ++ (⟨xs.toArray⟩ : ByteArray) = ⟨l2.toArray⟩ ∧ ¬ 9223372036854775807 < l1.length + 32 * k from ⟨by rw [app_str, hl2], by have := HM.out; omega⟩)
        have HZL := Lib.hid (show zs.length = 32 from hzs ▸ Sha.sha_length 32 (by decide) _)
        have A3 := Lib.hid (show (⟨xs.toArray⟩ : ByteArray) ++ (⟨zs.toArray⟩ : ByteArray) = ⟨nx.toArray⟩ ∧ ¬ 9223372036854775807 < 32 * k + 32 from ⟨by rw [app_str, HCS.out, hl1, hl2, hzs], by have := HM.out; omega⟩)
        have HSU := Lib.hid (fun W => show Calls Tryz.prog 33 #[.string ⟨l2.toArray⟩] W fun e w' => e = .returned (.string ⟨zs.toArray⟩) ∧ Below W.heap.size W w' from by
          have := RefSum_list W l2 (by rw [← hl2, List.length_append]; have := HM.out; omega)
          rwa [hzs] at this)
        clear hl1 hl2 hzs hz1 hh
        go_upto_region 5 with fail
        have a1 := A1.out.1
        have b1 := A1.out.2
        have a2 := A2.out.1
        have b2 := A2.out.2
        have a3 := A3.out.1
        have b3 := A3.out.2
        have hzl := HZL.out
        have hnl := HNL.out
        go_wp2_with (first
          | (go_at_call 34; refine (HBC.out _).mono ?_; rintro e w1 ⟨rfl, hb1⟩; skip; have HB1 := Lib.hid (HB.out.trans (hb1.mono HB.out.size)); clear hb1)
          | (go_at_call 33; refine (HSU.out _).mono ?_; rintro e w2 ⟨rfl, hb1⟩; skip; have HB2 := Lib.hid (HB1.out.trans (hb1.mono HB1.out.size)); clear hb1))
        go_roundw
        case rel =>
          have REL := Lib.hid (show ∃ k' : Nat, k' ≤ (m + 31) / 32 ∧ Value.string ⟨nx.toArray⟩ = .string ⟨(chL (bt ++ h) (c :: i) k').toArray⟩ ∧ Below w.heap.size w w2 from ⟨k + 1, HKM.out, by rw [HNX.out], HB2.out⟩)
          first
            | exact REL.out
            | ((repeat apply Exists.intro); refine ⟨?_, rfl⟩; exact REL.out)
        case measure => (show m - (⟨nx.toArray⟩ : ByteArray).size < m - (⟨xs.toArray⟩ : ByteArray).size; rw [str_size, str_size, hnl, hxl]; omega)
    · have hxl := HCL.out
      obtain ⟨xs, hxs⟩ : ∃ l, chL (bt ++ h) (c :: i) k = l := ⟨_, rfl⟩
      have HXS := Lib.hid hxs
      rw [hxs] at hxl
      rw [hxs]
      clear hxs
      have hd : decide (32 * (k : Int) < (m : Int)) = false := by simp; omega
      have HKE := Lib.hid (show k = (m + 31) / 32 from by omega)
      have hmk : m ≤ 32 * k := by omega
      have hmk0 : (0 : Int) ≤ (m : Int) := by omega
      have hmkz : (m : Int) ≤ 32 * (k : Int) := by omega
      go_wp2_with fail
      go_ret
      refine ⟨?_, HB.out⟩
      rw [HRES.out, ← HKE.out, HXS.out]
      show Ending.returned (.string ((⟨xs.toArray⟩ : ByteArray).extract 0 m)) = .returned (.string ⟨(xs.take m).toArray⟩)
      refine congrArg _ (congrArg _ ?_)
      apply ByteArray.ext; apply Array.toList_inj.1
      rw [Sha.extract_list0]
end Go.Proofs.YtfaeigbfnjkojaaGreatDoor.Kx
