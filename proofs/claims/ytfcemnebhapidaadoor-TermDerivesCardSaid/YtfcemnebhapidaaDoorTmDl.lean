/- The law TermDerives, over Derived's contract. -/
import Derived.Test.YtfcemnebhapidaaDoorTmAr
import Derived.Test.YtfcemnebhapidaaDoorTmGw
set_option linter.unusedVariables false
set_option linter.unusedSimpArgs false
namespace Go.Proofs.YtfcemnebhapidaaDoor.Te
open Go.RowKit Go.Proofs.YtfcemnebhapidaaDoor.Ow Go.Proofs.YtfcemnebhapidaaDoor.Mp Go.Maps
set_option maxRecDepth 20000 in
set_option maxHeartbeats 8000000 in
theorem law_TermDerives_of (hD : DerC) (w : World) (A : Option Addr) (c : Nat) (xs : List ByteArray) (hR : Rd w A (xs.map Value.string)) (hc : xs.length ≤ c) (hm : c ≤ maxLen) (B : Option Addr) (d : Nat) (ys : List ByteArray) (hRy : Rd w B (ys.map Value.string)) (hcy : ys.length ≤ d) (hmy : d ≤ maxLen) (a : Nat → Addr) (hE : Ei.ErrsAll w a) : Calls Tryd.prog 5 #[.slice A xs.length c, .slice B ys.length d] w fun e w' => e = .returned (.bool true) ∧ Below w.heap.size w w' := by
  have HAW := Lib.hid (awake31 w a (.of hE))
  have HE := Lib.hid hE
  have HLN := Lib.hid (fun W (hW : Below w.heap.size w W) => learn_any W A c xs xs.length rfl (hR.below hW) 10 (by decide) (by simp only [maxLen] at hm; omega) a (.of (hE.below hW)))
  obtain ⟨L, hL⟩ : ∃ L, lrn xs 10 = L := ⟨_, rfl⟩
  have HLE := Lib.hid hL
  have HLL := Lib.hid (show L.length ≤ 10 from hL ▸ lrn_len xs 10)
  have HFIT := Lib.hid (show ∀ t ∈ L, t.wf ∧ t.txt.length ≤ 90 from hL ▸ lrn_fit)
  have HFIT1 := Lib.hid (show ∀ t ∈ L, t.wf ∧ t.txt.length ≤ 100 from fun t ht => ⟨(HFIT.out t ht).1, by have := (HFIT.out t ht).2; omega⟩)
  obtain ⟨n, hn⟩ : ∃ n, L.length = n := ⟨_, rfl⟩
  have HN := Lib.hid hn
  obtain ⟨m, hmm⟩ : ∃ m, ys.length = m := ⟨_, rfl⟩
  rw [hmm]
  have HM := Lib.hid hmm
  have HRY := Lib.hid hRy
  have hm64 : m ≤ 9223372036854775807 := by rw [hmm] at hcy; simp only [maxLen] at hmy; omega
  have HM64 := Lib.hid hm64
  have HCD := Lib.hid (show ∀ W, Below w.heap.size w W → Calls Tryd.prog 22 #[.iface 137 (.pointer (some (a 3)))] W fun e w' => e = .returned (.int .i64 3) ∧ W = w' from fun W hW => Ei.Code_any W a (hE.below hW) 3 (by decide))
  clear hE hR hRy hc hm hcy hmy hL hn hmm hm64
  go_enter Tryd.func5, Tryd.ntmps5
  go_wp2_with (first
    | (go_at_call 9; refine HAW.out.mono ?_; rintro e w1 ⟨rfl, hb1⟩; skip; have HB := Lib.hid hb1; clear hb1)
    | (go_at_call 10; refine (HLN.out _ HB.out).mono ?_; rintro e w2 ⟨kb, mb, v2, rfl, hk, ho⟩; rw [HLE.out] at hk ho; obtain ⟨A2, c2, rfl, hr, _⟩ := ho.form; rw [txts_len, HN.out]; skip; have HK := Lib.hid (ks_from hk HB.out); have HRL := Lib.hid hr; clear hk ho hr HB))
  obtain ⟨np, hnp⟩ : ∃ np, (ptsL L).length = np := ⟨_, rfl⟩
  have HPN := Lib.hid hnp
  have HPL := Lib.hid (show ((ptsL L).map encStr).length = np by rw [List.length_map]; exact hnp)
  have HPB := Lib.hid (show np ≤ 500000 from hnp ▸ HK.out.plen (by have := HLL.out; omega))
  clear hnp
  go_loopw [7] (fun i wr => ∃ k : Nat, k ≤ m ∧ k ≤ 8 ∧ i = .int .i64 k ∧ Below w2.heap.size w2 wr) (fun i _ => 9 - (intOf i).toNat)
  case atStart => exact ⟨0, Nat.zero_le _, Nat.zero_le _, rfl, Below.refl _ _⟩
  case round =>
    obtain ⟨k, hkm, hk8, rfl, hb⟩ := hrel
    have HKx := Lib.hid (HK.out.below hb)
    clear HK
    have HK := HKx
    clear HKx
    have HB := Lib.hid hb
    clear hb
    by_cases hgo : k < m ∧ k < 8
    · have d1 : decide (k < m) = true := by simp; exact hgo.1
      have d1i : decide ((k : Int) < m) = true := by simp; exact hgo.1
      have d2 : decide (k < 8) = true := by simp; exact hgo.2
      have d2i : decide ((k : Int) < 8) = true := by simp; omega
      have hki : (k : Int) < m := by omega
      have hk0 : (0 : Int) ≤ k := by omega
      obtain ⟨s, hs⟩ : ∃ s, ys[k]? = some s := ⟨_, List.getElem?_eq_getElem (by rw [HM.out]; exact hgo.1)⟩
      obtain ⟨b0, o0, rfl, hb0, hc0⟩ := HRY.out k (.string s) (by rw [List.getElem?_map, hs]; rfl)
      have hc1 : wr.cell? ⟨b0, o0 + k, none⟩ = some (.string s) := (HK.out.bel.cell (p := ⟨b0, o0 + k, none⟩) hb0).trans hc0
      have HGO := Lib.hid hgo
      have HCT := Lib.hid (show ∀ W : World, Calls Tryd.prog 14 #[.string s, .int .i64 90] W fun e w' => e = .returned (.string (strB (cutB s))) ∧ W = w' from fun W => Cut31 W s 90 (by decide))
      have HOF := Lib.hid (fun W (hW : Below w.heap.size w W) => OfV W s a (.of (HE.out.below hW)))
      have HCL := Lib.hid (cutB_len s)
      clear hgo hs hc0
      cases hp : parse (cutB s) with
      | none =>
        have HCA := Lib.hid (show ∀ W, Calls Tryd.prog 17 #[.string (strB (cutB s))] W fun e w' => (∃ y : List UInt8, y.length ≤ 100000 ∧ e = .returned (.tuple #[.string (strB y), .bool false])) ∧ Below W.heap.size W w' from fun W => (RCanon_any _ W (cutB s) (Nat.lt_succ_self _) (by have := HCL.out; omega)).mono (by rintro e w' ⟨h, hb⟩; rw [hp] at h; exact ⟨h, hb⟩))
        rw [hp] at HOF
        clear hp
        go_wp2_with (first
          | (go_at_call 14; refine (HCT.out _).mono ?_; rintro e w3 ⟨rfl, rfl⟩; skip)
          | (go_at_call 17; refine (HCA.out _).mono ?_; rintro e w4 ⟨⟨y, _, rfl⟩, hb⟩; skip; have HKy := Lib.hid (HK.out.below hb); clear HK; have HK := HKy; clear HKy; have HBy := Lib.hid (HB.out.trans (hb.mono HB.out.size)); clear HB; have HB := HBy; clear HBy; clear hb)
          | (go_at_call 13; refine (HOF.out _ HK.out.bel).mono ?_; rintro e w5 ⟨k5, x5, A5, n5, c5, rfl, hv, hb⟩; skip; have HV := Lib.hid hv; have HKy := Lib.hid (HK.out.below hb); clear HK; have HK := HKy; clear HKy; have HBy := Lib.hid (HB.out.trans (hb.mono HB.out.size)); clear HB; have HB := HBy; clear HBy; clear hb hv)
          | (go_at_call 15; refine (DerivesV w _ kb mb L _ _ _ _ _ _ HK.out HV.out).mono ?_; rintro e w6 ⟨rfl, hb⟩; rw [show dOf L none = false from rfl]; skip; have HKy := Lib.hid (HK.out.below hb); clear HK; have HK := HKy; clear HKy; have HBy := Lib.hid (HB.out.trans (hb.mono HB.out.size)); clear HB; have HB := HBy; clear HBy; clear hb HV))
        go_roundw
        case rel =>
          have REL := Lib.hid (show ∃ k' : Nat, k' ≤ m ∧ k' ≤ 8 ∧ Value.int .i64 ((k : Int) + 1) = .int .i64 k' ∧ Below w2.heap.size w2 w6 from ⟨k + 1, HGO.out.1, HGO.out.2, rfl, HB.out⟩)
          first
            | exact REL.out
            | ((repeat apply Exists.intro); refine ⟨?_, rfl⟩; exact REL.out)
        case measure => (first | (simp [intOf]; done) | (simp [intOf]; omega))
      | some t =>
        have HCA := Lib.hid (show ∀ W, Calls Tryd.prog 17 #[.string (strB (cutB s))] W fun e w' => e = .returned (.tuple #[.string (strB t.txt), .bool true]) ∧ Below W.heap.size W w' from fun W => (RCanon_any _ W (cutB s) (Nat.lt_succ_self _) (by have := HCL.out; omega)).mono (by rintro e w' ⟨h, hb⟩; rw [hp] at h; exact ⟨h, hb⟩))
        rw [hp] at HOF
        have HLT := Lib.hid (show ∀ u ∈ L ++ [t], u.wf ∧ u.txt.length ≤ 100 from fun u hu => by
          rcases List.mem_append.1 hu with hu | hu
          · exact HFIT1.out u hu
          · rw [List.mem_singleton.1 hu]; exact ⟨(parse_iff.1 hp).wf, by rw [parse_len hp]; have := HCL.out; omega⟩)
        clear hp
        cases hdr : derB L t
        all_goals
          have HDR := Lib.hid hdr
          clear hdr
          go_wp2_with (first
            | (go_at_call 14; refine (HCT.out _).mono ?_; rintro e w3 ⟨rfl, rfl⟩; skip)
            | (go_at_call 17; refine (HCA.out _).mono ?_; rintro e w4 ⟨rfl, hb⟩; skip; have HKy := Lib.hid (HK.out.below hb); clear HK; have HK := HKy; clear HKy; have HBy := Lib.hid (HB.out.trans (hb.mono HB.out.size)); clear HB; have HB := HBy; clear HBy; clear hb)
            | (go_at_call 13; refine (HOF.out _ HK.out.bel).mono ?_; rintro e w5 ⟨k5, x5, A5, n5, c5, rfl, hv, hb⟩; skip; have HV := Lib.hid hv; have HKy := Lib.hid (HK.out.below hb); clear HK; have HK := HKy; clear HKy; have HBy := Lib.hid (HB.out.trans (hb.mono HB.out.size)); clear HB; have HB := HBy; clear HBy; clear hb hv)
            | (go_at_call 15; refine (DerivesV w _ kb mb L _ _ _ _ _ _ HK.out HV.out).mono ?_; rintro e w6 ⟨rfl, hb⟩; rw [show dOf L (some t) = derB L t from rfl, HDR.out]; skip; have HKy := Lib.hid (HK.out.below hb); clear HK; have HK := HKy; clear HKy; have HBy := Lib.hid (HB.out.trans (hb.mono HB.out.size)); clear HB; have HB := HBy; clear HBy; clear hb HV)
            | (go_at_call 20; refine (RDerives_of hD _ A2 n c2 L HN.out (HRL.out.below HB.out) t HLT.out (by have := HLL.out; have := HN.out; omega)).mono ?_; rintro e w7 ⟨rfl, hb⟩; rw [HDR.out]; skip; have HKy := Lib.hid (HK.out.below hb); clear HK; have HK := HKy; clear HKy; have HBy := Lib.hid (HB.out.trans (hb.mono HB.out.size)); clear HB; have HB := HBy; clear HBy; clear hb))
          go_roundw
          case rel =>
            have REL := Lib.hid (show ∃ k' : Nat, k' ≤ m ∧ k' ≤ 8 ∧ Value.int .i64 ((k : Int) + 1) = .int .i64 k' ∧ Below w2.heap.size w2 w7 from ⟨k + 1, HGO.out.1, HGO.out.2, rfl, HB.out⟩)
            first
              | exact REL.out
              | ((repeat apply Exists.intro); refine ⟨?_, rfl⟩; exact REL.out)
          case measure => (first | (simp [intOf]; done) | (simp [intOf]; omega))
    · have hdd : decide (k < m) = false ∨ (decide (k < m) = true ∧ decide (k < 8) = false) := by simp; omega
      clear hgo
      rcases hdd with d1 | ⟨d1, d2⟩
      · have d1i : decide ((k : Int) < m) = false := by simp at d1 ⊢; omega
        go_wp2_with (first
          | (go_at_call 12; refine (Parts_KS w _ kb mb L HK.out (by have := HLL.out; omega)).mono ?_; rintro e w4 ⟨v4, rfl, ho, hb⟩; obtain ⟨A4, c4, rfl, hr4, _⟩ := ho.form; rw [HPL.out]; skip; have HP1 := Lib.hid hr4; have HKy := Lib.hid (HK.out.below hb); clear HK; have HK := HKy; clear HKy; have HBy := Lib.hid (HB.out.trans (hb.mono HB.out.size)); clear HB; have HB := HBy; clear HBy; clear ho hb hr4)
          | (go_at_call 21; refine (RApart_of hD _ A2 n c2 L HN.out (HRL.out.below HB.out) HFIT1.out (by have := HLL.out; have := HN.out; omega) HK.out.kn).mono ?_; rintro e w5 ⟨v5, rfl, ho, hb⟩; obtain ⟨A5, c5, rfl, hr5, _⟩ := ho.form; rw [HPL.out]; skip; have HP2 := Lib.hid hr5; have HP1y := Lib.hid (HP1.out.below hb); clear HP1; have HP1 := HP1y; clear HP1y; have HKy := Lib.hid (HK.out.below hb); clear HK; have HK := HKy; clear HKy; have HBy := Lib.hid (HB.out.trans (hb.mono HB.out.size)); clear HB; have HB := HBy; clear HBy; clear ho hb hr5)
          | (go_at_call 11; refine (same_any _ _ _ _ _ _ _ (ptsL L) (ptsL L) HPN.out HPN.out HP1.out HP2.out (by rw [HPN.out]; have := HPB.out; omega)).mono ?_; rintro e w6 ⟨rfl, hb⟩; rw [decide_eq_true rfl]; skip; have HKy := Lib.hid (HK.out.below hb); clear HK; have HK := HKy; clear HKy; have HBy := Lib.hid (HB.out.trans (hb.mono HB.out.size)); clear HB; have HB := HBy; clear HBy; clear hb)
          | (go_at_call 15; refine (Derives_zero _ kb).mono ?_; rintro e w7 ⟨rfl, hb⟩; skip; have HKy := Lib.hid (HK.out.below hb); clear HK; have HK := HKy; clear HKy; have HBy := Lib.hid (HB.out.trans (hb.mono HB.out.size)); clear HB; have HB := HBy; clear HBy; clear hb)
          | (go_at_call 16; refine (LearnZero_KS w _ kb mb L HK.out a (.of HE.out)).mono ?_; rintro e w8 ⟨rfl, hb⟩; skip; have HKy := Lib.hid (HK.out.below hb); clear HK; have HK := HKy; clear HKy; have HBy := Lib.hid (HB.out.trans (hb.mono HB.out.size)); clear HB; have HB := HBy; clear HBy; clear hb)
          | (go_at_call 22; refine (HCD.out _ HK.out.bel).mono ?_; rintro e w9 ⟨rfl, rfl⟩; skip))
        go_ret
        exact ⟨by first | rfl | simp, HK.out.bel⟩
      · have d1i : decide ((k : Int) < m) = true := by simp at d1 ⊢; omega
        have d2i : decide ((k : Int) < 8) = false := by simp at d2 ⊢; omega
        go_wp2_with (first
          | (go_at_call 12; refine (Parts_KS w _ kb mb L HK.out (by have := HLL.out; omega)).mono ?_; rintro e w4 ⟨v4, rfl, ho, hb⟩; obtain ⟨A4, c4, rfl, hr4, _⟩ := ho.form; rw [HPL.out]; skip; have HP1 := Lib.hid hr4; have HKy := Lib.hid (HK.out.below hb); clear HK; have HK := HKy; clear HKy; have HBy := Lib.hid (HB.out.trans (hb.mono HB.out.size)); clear HB; have HB := HBy; clear HBy; clear ho hb hr4)
          | (go_at_call 21; refine (RApart_of hD _ A2 n c2 L HN.out (HRL.out.below HB.out) HFIT1.out (by have := HLL.out; have := HN.out; omega) HK.out.kn).mono ?_; rintro e w5 ⟨v5, rfl, ho, hb⟩; obtain ⟨A5, c5, rfl, hr5, _⟩ := ho.form; rw [HPL.out]; skip; have HP2 := Lib.hid hr5; have HP1y := Lib.hid (HP1.out.below hb); clear HP1; have HP1 := HP1y; clear HP1y; have HKy := Lib.hid (HK.out.below hb); clear HK; have HK := HKy; clear HKy; have HBy := Lib.hid (HB.out.trans (hb.mono HB.out.size)); clear HB; have HB := HBy; clear HBy; clear ho hb hr5)
          | (go_at_call 11; refine (same_any _ _ _ _ _ _ _ (ptsL L) (ptsL L) HPN.out HPN.out HP1.out HP2.out (by rw [HPN.out]; have := HPB.out; omega)).mono ?_; rintro e w6 ⟨rfl, hb⟩; rw [decide_eq_true rfl]; skip; have HKy := Lib.hid (HK.out.below hb); clear HK; have HK := HKy; clear HKy; have HBy := Lib.hid (HB.out.trans (hb.mono HB.out.size)); clear HB; have HB := HBy; clear HBy; clear hb)
          | (go_at_call 15; refine (Derives_zero _ kb).mono ?_; rintro e w7 ⟨rfl, hb⟩; skip; have HKy := Lib.hid (HK.out.below hb); clear HK; have HK := HKy; clear HKy; have HBy := Lib.hid (HB.out.trans (hb.mono HB.out.size)); clear HB; have HB := HBy; clear HBy; clear hb)
          | (go_at_call 16; refine (LearnZero_KS w _ kb mb L HK.out a (.of HE.out)).mono ?_; rintro e w8 ⟨rfl, hb⟩; skip; have HKy := Lib.hid (HK.out.below hb); clear HK; have HK := HKy; clear HKy; have HBy := Lib.hid (HB.out.trans (hb.mono HB.out.size)); clear HB; have HB := HBy; clear HBy; clear hb)
          | (go_at_call 22; refine (HCD.out _ HK.out.bel).mono ?_; rintro e w9 ⟨rfl, rfl⟩; skip))
        go_ret
        exact ⟨by first | rfl | simp, HK.out.bel⟩
end Go.Proofs.YtfcemnebhapidaaDoor.Te
