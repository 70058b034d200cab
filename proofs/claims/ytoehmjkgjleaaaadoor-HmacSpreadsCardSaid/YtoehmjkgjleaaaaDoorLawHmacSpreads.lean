/- The law HmacSpreads: the walk. -/
import Derived.Test.YtoehmjkgjleaaaaDoorHmacAwake
set_option linter.unusedVariables false
set_option linter.unusedSimpArgs false
namespace Go.Proofs.YtoehmjkgjleaaaaDoor.Sha
open Go.RowKit Go.Proofs.YtoehmjkgjleaaaaDoor.Cl Go.Proofs.YtoehmjkgjleaaaaDoor.Cv Go.Proofs.YtoehmjkgjleaaaaDoor.Ow
set_option maxRecDepth 20000 in
set_option maxHeartbeats 2000000 in
theorem law_HmacSpreads (w : World) (key0 label0 : ByteArray) (n : Int) (hn : (Lit.int .i64 n).wf = true) (hT : Tables w) :
    Calls Tryd.prog 9 #[.string key0, .string label0, .int .i64 n] w fun e w' => e = .returned (.bool true) ∧ Below w.heap.size w w' := by
  have HT := Lib.hid hT
  have hnb := bounds_i64 hn
  obtain ⟨p, hp⟩ : ∃ p, min n 300 = p := ⟨_, rfl⟩
  obtain ⟨m, hm⟩ : ∃ m : Nat, max 0 p = (m : Int) := ⟨(max 0 p).toNat, by omega⟩
  have hml : m ≤ 300 := by omega
  have hpl : p ≤ 300 := by omega
  have HM := Lib.hid (show max 0 (min n 300) = (m : Int) by rw [hp, hm])
  have hks : (key0.extract 0 80).size ≤ 1000000 := by rw [ByteArray.size_extract]; omega
  have hls : (label0.extract 0 40).size ≤ 1000 := by rw [ByteArray.size_extract]; omega
  have HKS := Lib.hid hks
  have HLS := Lib.hid hls
  have tka := True.intro
  clear hT hks hls hn
  generalize hk' : key0.extract 0 80 = key at *
  generalize hl' : label0.extract 0 40 = label at *
  have HCK := Lib.hid (show ∀ W : World, Calls Tryd.prog 11 #[.string key0, .int .i64 80] W fun e w' => e = .returned (.string key) ∧ W = w' from fun W => hk' ▸ Cut_any W key0 80 (by decide))
  have HCL := Lib.hid (show ∀ W : World, Calls Tryd.prog 11 #[.string label0, .int .i64 40] W fun e w' => e = .returned (.string label) ∧ W = w' from fun W => hl' ▸ Cut_any W label0 40 (by decide))
  clear hk' hl'
  obtain ⟨s, hs'⟩ : ∃ s, mkS (spreadL key.data.toList label.data.toList m) = s := ⟨_, rfl⟩
  obtain ⟨t, ht'⟩ : ∃ t, mkS (spreadL key.data.toList label.data.toList (m + 40)) = t := ⟨_, rfl⟩
  have HSS := Lib.hid hs'
  have HTT := Lib.hid ht'
  have hts : t.size = m + 40 := by rw [← ht', mkS_size, spreadL_length]
  have hI : (m : Int) ≤ (t.size : Int) := by omega
  have hex : t.extract 0 m = s := by
    rw [← hs', ← ht']
    apply ByteArray.ext; apply Array.toList_inj.1
    rw [extract_list0]
    exact spreadL_prefix _ _ _ _
  have HMT := Lib.hid (show max 0 (min ((m : Int) + 40) 8160) = ((m + 40 : Nat) : Int) by omega)
  have HM1 := Lib.hid (show max 0 (min (m : Int) 8160) = ((m : Nat) : Int) by omega)
  have hlen : ((t.size : Int) == (m : Int) + 40) = true := by rw [beq_iff_eq]; omega
  have hself : (s.toList == s.toList) = true := beq_self_eq_true _
  clear hs' ht' hts
  by_cases hneg : n < 0
  · have hm0 : m = 0 := by have := HM.out; omega
    have HM0 := Lib.hid (show max 0 (min n 8160) = ((0 : Nat) : Int) by omega)
    obtain ⟨z, hz⟩ : ∃ z, mkS (spreadL key.data.toList label.data.toList 0) = z := ⟨_, rfl⟩
    have hz0 : z.toList = [] := by
      rw [toList_data, ← hz]; exact List.eq_nil_of_length_eq_zero (by rw [mkS_list, spreadL_length])
    have hz1 : z.toList.isEmpty = true := by rw [hz0]; rfl
    have HZ := Lib.hid hz
    have hd : decide (n < 0) = true := by rw [decide_eq_true_eq]; exact hneg
    clear hz hneg hm0
    go_enter Tryd.func9, Tryd.ntmps9
    go_wp2_with (first
      | (go_at_call 18; refine (hawake_any _ HT.out).mono ?_; rintro e w1 ⟨rfl, hb1⟩; skip; have HB1 := Lib.hid hb1; clear hb1)
      | (have _t := tka; go_at_call 11; refine (HCK.out _).mono ?_; rintro e w2 ⟨rfl, rfl⟩; clear _t tka; have tkb := True.intro)
      | (have _t := tkb; go_at_call 11; refine (HCL.out _).mono ?_; rintro e w2 ⟨rfl, rfl⟩; clear _t tkb; have tok := True.intro)
      | (have _t := tok; go_at_call 22; refine (Spread_any _ key label _ m HM1.out HKS.out HLS.out (HT.out.below HB1.out HT.out.size)).mono ?_; rintro e w3 ⟨rfl, hb3⟩; skip; rw [HSS.out]; have HB3 := Lib.hid (HB1.out.trans (hb3.mono HB1.out.size)); clear hb3 _t tok; have tok2 := True.intro)
      | (have _t := tok2; go_at_call 22; refine (Spread_any _ key label _ (m + 40) HMT.out HKS.out HLS.out (HT.out.below HB3.out HT.out.size)).mono ?_; rintro e w4 ⟨rfl, hb4⟩; skip; rw [HTT.out]; have HB4 := Lib.hid (HB3.out.trans (hb4.mono HB3.out.size)); clear hb4 _t tok2; have tok3 := True.intro)
      | (have _t := tok3; go_at_call 22; refine (Spread_any _ key label n 0 HM0.out HKS.out HLS.out (HT.out.below HB4.out HT.out.size)).mono ?_; rintro e w5 ⟨rfl, hb5⟩; skip; rw [HZ.out]; have HB4 := Lib.hid (HB4.out.trans (hb5.mono HB4.out.size)); clear hb5 _t tok3)
      | (go_at_call 23; refine (RefSpread_any _ key label m (by omega) HKS.out HLS.out).mono ?_; rintro e w6 ⟨rfl, hb6⟩; skip; rw [HSS.out]; have HB6 := Lib.hid (HB4.out.trans (hb6.mono HB4.out.size)); clear hb6))
    go_ret
    exact ⟨by simp, HB6.out⟩
  · have hd : decide (n < 0) = false := by rw [decide_eq_false_iff_not]; exact hneg
    have HM0 := HM1
    obtain ⟨z, hz⟩ : ∃ z : ByteArray, s = z := ⟨_, rfl⟩
    have HZ := Lib.hid (HSS.out.trans hz)
    clear hz hneg
    go_enter Tryd.func9, Tryd.ntmps9
    go_wp2_with (first
      | (go_at_call 18; refine (hawake_any _ HT.out).mono ?_; rintro e w1 ⟨rfl, hb1⟩; skip; have HB1 := Lib.hid hb1; clear hb1)
      | (have _t := tka; go_at_call 11; refine (HCK.out _).mono ?_; rintro e w2 ⟨rfl, rfl⟩; clear _t tka; have tkb := True.intro)
      | (have _t := tkb; go_at_call 11; refine (HCL.out _).mono ?_; rintro e w2 ⟨rfl, rfl⟩; clear _t tkb; have tok := True.intro)
      | (have _t := tok; go_at_call 22; refine (Spread_any _ key label _ m HM1.out HKS.out HLS.out (HT.out.below HB1.out HT.out.size)).mono ?_; rintro e w3 ⟨rfl, hb3⟩; skip; rw [HSS.out]; have HB3 := Lib.hid (HB1.out.trans (hb3.mono HB1.out.size)); clear hb3 _t tok; have tok2 := True.intro)
      | (have _t := tok2; go_at_call 22; refine (Spread_any _ key label _ (m + 40) HMT.out HKS.out HLS.out (HT.out.below HB3.out HT.out.size)).mono ?_; rintro e w4 ⟨rfl, hb4⟩; skip; rw [HTT.out]; have HB4 := Lib.hid (HB3.out.trans (hb4.mono HB3.out.size)); clear hb4 _t tok2; have tok3 := True.intro)
      | (have _t := tok3; go_at_call 22; refine (Spread_any _ key label n 0 HM0.out HKS.out HLS.out (HT.out.below HB4.out HT.out.size)).mono ?_; rintro e w5 ⟨rfl, hb5⟩; skip; rw [HZ.out]; have HB4 := Lib.hid (HB4.out.trans (hb5.mono HB4.out.size)); clear hb5 _t tok3)
      | (go_at_call 23; refine (RefSpread_any _ key label m (by omega) HKS.out HLS.out).mono ?_; rintro e w6 ⟨rfl, hb6⟩; skip; rw [HSS.out]; have HB6 := Lib.hid (HB4.out.trans (hb6.mono HB4.out.size)); clear hb6))
    go_ret
    exact ⟨by simp, HB6.out⟩
end Go.Proofs.YtoehmjkgjleaaaaDoor.Sha
