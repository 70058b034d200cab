/- The laws' learn: who learned the terms among some texts. -/
import Derived.Test.YtfcemnebhapidaaDoorTmRd
import Derived.Test.YtfcemnebhapidaaDoorTmSr
set_option linter.unusedVariables false
set_option linter.unusedSimpArgs false
namespace Go.Proofs.YtfcemnebhapidaaDoor.Te
open Go.RowKit Go.Proofs.YtfcemnebhapidaaDoor.Ow Go.Proofs.YtfcemnebhapidaaDoor.Mp Go.Maps
/-- a text, cut -/
def cutB (s : ByteArray) : List UInt8 := (s.extract 0 90).data.toList
theorem cutB_len (s : ByteArray) : (cutB s).length ≤ 90 := by unfold cutB; rw [Array.length_toList]; show (s.extract 0 90).size ≤ 90; rw [ByteArray.size_extract]; omega
/-- the terms among the first texts -/
def lrn (xs : List ByteArray) (k : Nat) : List Tm := (xs.take k).filterMap fun s => parse (cutB s)
theorem lrn_none {xs : List ByteArray} {k : Nat} {s : ByteArray} (hx : xs[k]? = some s) (hp : parse (cutB s) = none) : lrn xs (k + 1) = lrn xs k := by
  unfold lrn
  rw [List.take_add_one, hx, List.filterMap_append]
  simp [hp]
theorem lrn_some {xs : List ByteArray} {k : Nat} {s : ByteArray} {t : Tm} (hx : xs[k]? = some s) (hp : parse (cutB s) = some t) : lrn xs (k + 1) = lrn xs k ++ [t] := by
  unfold lrn
  rw [List.take_add_one, hx, List.filterMap_append]
  simp [hp]
theorem lrn_len (xs : List ByteArray) (k : Nat) : (lrn xs k).length ≤ k := by
  unfold lrn
  have h1 := List.length_filterMap_le (fun s => parse (cutB s)) (xs.take k)
  rw [List.length_take] at h1
  omega
theorem lrn_fit {xs : List ByteArray} {k : Nat} : ∀ t ∈ lrn xs k, t.wf ∧ t.txt.length ≤ 90 := fun t ht => by
  unfold lrn at ht
  obtain ⟨s, _, hs⟩ := List.mem_filterMap.1 ht
  exact ⟨(parse_iff.1 hs).wf, by rw [parse_len hs]; exact cutB_len s⟩
theorem lrn_all {xs : List ByteArray} {k : Nat} (h : xs.length ≤ k) : lrn xs k = lrn xs xs.length := by
  unfold lrn
  rw [List.take_of_length_le h, List.take_length]
theorem LearnZero_KS (w W : World) (kb mb : Nat) (L : List Tm) (h : KS w W kb mb L) (a : Nat → Addr) (hE : ErrsT w a) :
    Calls Tryd.prog 16 #[.pointer (some ⟨kb, 0, none⟩), .agg #[.string ⟨#[]⟩, .string ⟨#[]⟩, .slice none 0 0]] W fun e w' => e = .returned (.iface 137 (.pointer (some (a 3)))) ∧ Below W.heap.size W w' :=
  Learn_zero W kb a (hE.below h.bel)
def txts (L : List Tm) : List Value := (L.map Tm.txt).map encStr
theorem txts_snoc (L : List Tm) (t : Tm) : txts L ++ [.string (strB t.txt)] = txts (L ++ [t]) := by unfold txts; rw [List.map_append, List.map_append]; rfl
theorem txts_str (L : List Tm) : ∀ u ∈ txts L, isStr u := fun u hu => by
  unfold txts at hu
  obtain ⟨x, _, rfl⟩ := List.mem_map.1 hu
  exact ⟨_, rfl⟩
theorem txts_len (L : List Tm) : (txts L).length = L.length := by unfold txts; rw [List.length_map, List.length_map]
theorem own_upd {w w' : World} {B kb mb : Nat} {E : TypeId} {v : Value} {xs : List Value} (h : Owns w B E v xs) (hu : Sp.Upd w w' [kb, mb]) (h1 : kb < B) (h2 : mb < B) : Owns w' B E v xs :=
  Sp.ownsRow_keep h fun k hk => hu.block k (h.lt k hk).2 (by have := (h.lt k hk).1; simp; omega)
theorem ownsLow {w : World} {B C : Nat} {E : TypeId} {v : Value} {xs : List Value} (h : Owns w B E v xs) (hC : C ≤ B) : Owns w C E v xs :=
  ⟨h.1, h.2.imp id (fun ⟨g, cap, cur, hv, hb, rest⟩ => ⟨g, cap, cur, hv, Nat.le_trans hC hb, rest⟩)⟩
theorem ksblk {w W : World} {kb mb : Nat} {L : List Tm} (h : KS w W kb mb L) : kb < W.heap.size ∧ mb < W.heap.size := by
  obtain ⟨K, h1, _⟩ := h.out
  exact ⟨h1.1.lt, h1.ltM⟩
set_option maxRecDepth 20000 in
set_option maxHeartbeats 8000000 in
theorem learn_any (w : World) (A : Option Addr) (c : Nat) (xs : List ByteArray) (n : Nat) (hn : xs.length = n) (hR : Rd w A (xs.map Value.string)) (m : Nat) (hm : m ≤ 20) (hxl : n ≤ 9223372036854775807) (a : Nat → Addr) (hE : ErrsT w a) :
    Calls Tryd.prog 10 #[.slice A n c, .int .i64 m] w fun e w' => ∃ kb mb v, e = .returned (.tuple #[.pointer (some ⟨kb, 0, none⟩), v]) ∧ KS w w' kb mb (lrn xs m) ∧ Owns w' w.heap.size 9 v (txts (lrn xs m)) := by
  have HR := Lib.hid hR
  have HE := Lib.hid hE
  have HN := Lib.hid hn
  have HM := Lib.hid hm
  have HXL := Lib.hid hxl
  clear hR hE hn hm hxl
  go_enter Tryd.func10, Tryd.ntmps10
  go_wp2_with (go_at_call 23; refine (New_KS w _ (Below.refl _ _)).mono ?_; rintro e w1 ⟨kb, mb, rfl, h1, h2, h3, h4⟩; skip; have HK := Lib.hid h1; have HKL := Lib.hid (ksblk h1); clear h1 h2 h3 h4)
  go_loopw [7, 8] (fun v i wr => ∃ k : Nat, k ≤ n ∧ k ≤ m ∧ i = .int .i64 k ∧ KS w wr kb mb (lrn xs k) ∧ Owns wr w1.heap.size 9 v (txts (lrn xs k)) ∧ StrRow wr v ∧ w1.heap.size ≤ wr.heap.size) (fun _ i _ => 21 - (intOf i).toNat)
  case atStart => exact ⟨0, Nat.zero_le _, Nat.zero_le _, rfl, HK.out, Owns.nil _ _ _, StrRow.nil _, Nat.le_refl _⟩
  case round =>
    obtain ⟨k, hkn, hkm, rfl, hks, hO, hS, hsz⟩ := hrel
    have HKS := Lib.hid hks
    have HO := Lib.hid hO
    have HSR := Lib.hid hS
    have HSZ := Lib.hid hsz
    have hk20 : k ≤ 20 := by have := HM.out; omega
    clear hks hO HK hsz hS
    have HB1 := Lib.hid (show w.heap.size ≤ w1.heap.size from by have := HKS.out.lk; have := HKL.out.1; omega)
    by_cases hgo : k < n ∧ k < m
    · have d1 : decide (k < n) = true := by simp; exact hgo.1
      have d1i : decide ((k : Int) < n) = true := by simp; exact hgo.1
      have d2 : decide (k < m) = true := by simp; exact hgo.2
      have d2i : decide ((k : Int) < m) = true := by simp; exact hgo.2
      have hki : (k : Int) < n := by omega
      have hk0 : (0 : Int) ≤ k := by omega
      obtain ⟨s, hs⟩ : ∃ s, xs[k]? = some s := ⟨_, List.getElem?_eq_getElem (by rw [HN.out]; exact hgo.1)⟩
      obtain ⟨b0, o0, rfl, hb0, hc0⟩ := HR.out k (.string s) (by rw [List.getElem?_map, hs]; rfl)
      have hc1 : wr.cell? ⟨b0, o0 + k, none⟩ = some (.string s) := (HKS.out.bel.cell (p := ⟨b0, o0 + k, none⟩) hb0).trans hc0
      have HGO := Lib.hid hgo
      have HS := Lib.hid hs
      have HCT := Lib.hid (show ∀ W : World, Calls Tryd.prog 14 #[.string s, .int .i64 90] W fun e w' => e = .returned (.string (strB (cutB s))) ∧ W = w' from fun W => Cut31 W s 90 (by decide))
      clear hgo hs hc0
      cases hp : parse (cutB s) with
      | none =>
        have HCA := Lib.hid (show ∀ W, Calls Tryd.prog 17 #[.string (strB (cutB s))] W fun e w' => (∃ y : List UInt8, y.length ≤ 100000 ∧ e = .returned (.tuple #[.string (strB y), .bool false])) ∧ Below W.heap.size W w' from fun W => (RCanon_any _ W (cutB s) (Nat.lt_succ_self _) (by have := cutB_len s; omega)).mono (by rintro e w' ⟨h, hb⟩; rw [hp] at h; exact ⟨h, hb⟩))
        have HOF := Lib.hid (fun W (hW : Below w.heap.size w W) => Of_none W (cutB s) (by have := cutB_len s; omega) hp a (HE.out.below hW))
        have HL2 := Lib.hid (lrn_none HS.out hp)
        clear hp
        go_wp2_with (first
          | (go_at_call 14; refine (HCT.out _).mono ?_; rintro e w2 ⟨rfl, rfl⟩; skip)
          | (go_at_call 17; refine (HCA.out _).mono ?_; rintro e w3 ⟨⟨y, _, rfl⟩, hb⟩; skip; have HSRx := Lib.hid (HSR.out.below HO.out hb); clear HSR; have HSR := HSRx; clear HSRx; have HKSy := Lib.hid (HKS.out.below hb); clear HKS; have HKS := HKSy; clear HKSy; have HOy := Lib.hid (HO.out.below hb); clear HO; have HO := HOy; clear HOy; have HSZx := Lib.hid (Nat.le_trans HSZ.out hb.size); clear HSZ; have HSZ := HSZx; clear HSZx; clear hb)
          | (go_at_call 13; refine (HOF.out _ HKS.out.bel).mono ?_; rintro e w4 ⟨rfl, hb⟩; skip; have HSRx := Lib.hid (HSR.out.below HO.out hb); clear HSR; have HSR := HSRx; clear HSRx; have HKSy := Lib.hid (HKS.out.below hb); clear HKS; have HKS := HKSy; clear HKSy; have HOy := Lib.hid (HO.out.below hb); clear HO; have HO := HOy; clear HOy; have HSZx := Lib.hid (Nat.le_trans HSZ.out hb.size); clear HSZ; have HSZ := HSZx; clear HSZx; clear hb)
          | (go_at_call 16; refine (LearnZero_KS w _ kb mb _ HKS.out a HE.out).mono ?_; rintro e w5 ⟨rfl, hb⟩; skip; have HSRx := Lib.hid (HSR.out.below HO.out hb); clear HSR; have HSR := HSRx; clear HSRx; have HKSy := Lib.hid (HKS.out.below hb); clear HKS; have HKS := HKSy; clear HKSy; have HOy := Lib.hid (HO.out.below hb); clear HO; have HO := HOy; clear HOy; have HSZx := Lib.hid (Nat.le_trans HSZ.out hb.size); clear HSZ; have HSZ := HSZx; clear HSZx; clear hb))
        go_roundw
        case rel =>
          have REL := Lib.hid (show ∃ k' : Nat, k' ≤ n ∧ k' ≤ m ∧ Value.int .i64 ((k : Int) + 1) = .int .i64 k' ∧ KS w w5 kb mb (lrn xs k') ∧ Owns w5 w1.heap.size 9 _ (txts (lrn xs k')) ∧ StrRow w5 _ ∧ w1.heap.size ≤ w5.heap.size from ⟨k + 1, HGO.out.1, HGO.out.2, rfl, by rw [HL2.out]; exact HKS.out, by rw [HL2.out]; exact HO.out, HSR.out, HSZ.out⟩)
          first
            | exact REL.out
            | ((repeat apply Exists.intro); refine ⟨?_, rfl⟩; exact REL.out)
        case measure => (first | (simp [intOf]; done) | (simp [intOf]; omega))
      | some t =>
        have HCA := Lib.hid (show ∀ W, Calls Tryd.prog 17 #[.string (strB (cutB s))] W fun e w' => e = .returned (.tuple #[.string (strB t.txt), .bool true]) ∧ Below W.heap.size W w' from fun W => (RCanon_any _ W (cutB s) (Nat.lt_succ_self _) (by have := cutB_len s; omega)).mono (by rintro e w' ⟨h, hb⟩; rw [hp] at h; exact ⟨h, hb⟩))
        have HOF := Lib.hid (fun W (hW : Below w.heap.size w W) => Of_some W (cutB s) t (by have := cutB_len s; omega) hp a (HE.out.below hW))
        have HL2 := Lib.hid (lrn_some HS.out hp)
        have HTW := Lib.hid (show t.wf ∧ t.txt.length ≤ 900 from ⟨(parse_iff.1 hp).wf, by rw [parse_len hp]; have := cutB_len s; omega⟩)
        have HLN := Lib.hid (show (lrn xs k).length ≤ 20 by have := lrn_len xs k; omega)
        have HTL := Lib.hid (show ((txts (lrn xs k)).length + 1) * 16 ≤ 140737488355328 by rw [txts_len]; have := HLN.out; omega)
        clear hp
        go_wp2_with (first
          | (go_at_call 14; refine (HCT.out _).mono ?_; rintro e w2 ⟨rfl, rfl⟩; skip)
          | (go_at_call 17; refine (HCA.out _).mono ?_; rintro e w3 ⟨rfl, hb⟩; skip; have HSRx := Lib.hid (HSR.out.below HO.out hb); clear HSR; have HSR := HSRx; clear HSRx; have HKSy := Lib.hid (HKS.out.below hb); clear HKS; have HKS := HKSy; clear HKSy; have HOy := Lib.hid (HO.out.below hb); clear HO; have HO := HOy; clear HOy; have HSZx := Lib.hid (Nat.le_trans HSZ.out hb.size); clear HSZ; have HSZ := HSZx; clear HSZx; clear hb)
          | (go_at_call 13; refine (HOF.out _ HKS.out.bel).mono ?_; rintro e w4 ⟨At, ct, rfl, hf, hb⟩; skip; have HTP := Lib.hid hf.tp; have HSRx := Lib.hid (HSR.out.below HO.out hb); clear HSR; have HSR := HSRx; clear HSRx; have HKSy := Lib.hid (HKS.out.below hb); clear HKS; have HKS := HKSy; clear HKSy; have HOy := Lib.hid (HO.out.below hb); clear HO; have HO := HOy; clear HOy; have HSZx := Lib.hid (Nat.le_trans HSZ.out hb.size); clear HSZ; have HSZ := HSZx; clear HSZx; clear hb hf)
          | (go_at_call 16; refine (Learn_KS w _ kb mb _ t _ HKS.out HTW.out.1 HTW.out.2 HTP.out (by have := HLN.out; omega)).mono ?_; rintro e w5 ⟨rfl, hks, hu⟩; skip; have HO5 := Lib.hid (own_upd HO.out hu HKL.out.1 HKL.out.2); have HSR5 := Lib.hid (HSR.out.upd HO.out hu HKL.out.1 HKL.out.2); have HK5 := Lib.hid hks; have HSZx := Lib.hid (Nat.le_trans HSZ.out hu.size); clear HSZ; have HSZ := HSZx; clear HSZx; clear hu hks)
          | (refine appS rfl _ _ 22 rfl (E := 9) (by' := 16) rfl infoS (by decide) HO5.out (txts_str _) HSR5.out rfl rfl HTL.out HSZ.out ?_; rintro v6 w6 h2 h3 h4 h5; rw [txts_snoc] at h2; skip; have HO6 := Lib.hid h2; have HSR6 := Lib.hid h5; have HK6 := Lib.hid (ks_own HK5.out HO5.out HSR5.out h3 HKL.out.1 HKL.out.2 HB1.out); have HSZ6 := Lib.hid (Nat.le_trans HSZ.out h3.size); clear h2 h3 h4 h5))
        go_roundw
        case rel =>
          have REL := Lib.hid (show ∃ k' : Nat, k' ≤ n ∧ k' ≤ m ∧ Value.int .i64 ((k : Int) + 1) = .int .i64 k' ∧ KS w w6 kb mb (lrn xs k') ∧ Owns w6 w1.heap.size 9 _ (txts (lrn xs k')) ∧ StrRow w6 _ ∧ w1.heap.size ≤ w6.heap.size from ⟨k + 1, HGO.out.1, HGO.out.2, rfl, by rw [HL2.out]; exact HK6.out, by rw [HL2.out]; exact HO6.out, HSR6.out, HSZ6.out⟩)
          first
            | exact REL.out
            | ((repeat apply Exists.intro); refine ⟨?_, rfl⟩; exact REL.out)
        case measure => (first | (simp [intOf]; done) | (simp [intOf]; omega))
    · have HLE := Lib.hid (show lrn xs k = lrn xs m by
        by_cases h1 : k < n
        · rw [show k = m by omega]
        · obtain rfl : k = n := by omega
          rw [← HN.out] at hkm ⊢
          rw [lrn_all hkm])
      have hdd : decide (k < n) = false ∨ (decide (k < n) = true ∧ decide (k < m) = false) := by simp; omega
      rcases hdd with d1 | ⟨d1, d2⟩
      · have d1i : decide ((k : Int) < n) = false := by simp at d1 ⊢; omega
        clear hgo
        go_wp2
        refine bodyPost_ret (v := .tuple #[.pointer (some ⟨kb, 0, none⟩), u7]) (by simp [results, Tryd.results10, go_sem]) rfl ?_
        exact ⟨kb, mb, _, rfl, HLE.out ▸ HKS.out, by have := HO.out; rw [HLE.out] at this; exact ownsLow this HB1.out⟩
      · have d1i : decide ((k : Int) < n) = true := by simp at d1 ⊢; omega
        have d2i : decide ((k : Int) < m) = false := by simp at d2 ⊢; omega
        clear hgo
        go_wp2
        refine bodyPost_ret (v := .tuple #[.pointer (some ⟨kb, 0, none⟩), u7]) (by simp [results, Tryd.results10, go_sem]) rfl ?_
        exact ⟨kb, mb, _, rfl, HLE.out ▸ HKS.out, by have := HO.out; rw [HLE.out] at this; exact ownsLow this HB1.out⟩
end Go.Proofs.YtfcemnebhapidaaDoor.Te
