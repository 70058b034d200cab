/- What a term tells; what is known, in memory: New, has. -/
import Derived.Test.YtfcemnebhapidaaDoorTmPs
import Derived.Test.YtfcemnebhapidaaDoorMapA
set_option linter.unusedVariables false
set_option linter.unusedSimpArgs false
namespace Go.Proofs.YtfcemnebhapidaaDoor.Te
open Go.RowKit Go.Proofs.YtfcemnebhapidaaDoor.Ow Go.Proofs.YtfcemnebhapidaaDoor.Mp Go.Maps
attribute [local irreducible] pT parse
theorem Text_any (w : World) (k x : ByteArray) (A : Option Addr) (n c : Nat) : Calls Tryd.prog 25 #[.agg #[.string k, .string x, .slice A n c]] w fun e w' => e = .returned (.string x) ∧ Below w.heap.size w w' := by
  go_enter Tryd.func25, Tryd.ntmps25
  go_upto_region 1 with (refine Rg.box_fresh rfl 31 _ rfl #[.string k, .string x, .slice A n c] rfl ?_; intro X hX hbX hnX; have HX := Lib.hid hX; have HBX := Lib.hid hbX; clear hX hbX hnX)
  have c0 := HX.out.cell 1 (v := .string x) rfl
  go_wp2
  go_ret
  exact ⟨rfl, HBX.out⟩
theorem Kind_any (w : World) (k x : ByteArray) (A : Option Addr) (n c : Nat) : Calls Tryd.prog 26 #[.agg #[.string k, .string x, .slice A n c]] w fun e w' => e = .returned (.string k) ∧ Below w.heap.size w w' := by
  go_enter Tryd.func26, Tryd.ntmps26
  go_upto_region 1 with (refine Rg.box_fresh rfl 31 _ rfl #[.string k, .string x, .slice A n c] rfl ?_; intro X hX hbX hnX; have HX := Lib.hid hX; have HBX := Lib.hid hbX; clear hX hbX hnX)
  have c0 := HX.out.cell 0 (v := .string k) rfl
  go_wp2
  go_ret
  exact ⟨rfl, HBX.out⟩
theorem Same_any (w : World) (k x k' x' : ByteArray) (A A' : Option Addr) (n c n' c' : Nat) : Calls Tryd.prog 28 #[.agg #[.string k, .string x, .slice A n c], .agg #[.string k', .string x', .slice A' n' c']] w fun e w' => e = .returned (.bool (x.toList == x'.toList)) ∧ Below w.heap.size w w' := by
  go_enter Tryd.func28, Tryd.ntmps28
  go_upto_region 1 with (first
    | (refine Rg.box_fresh rfl 31 _ rfl #[.string k', .string x', .slice A' n' c'] rfl ?_; intro Y hY hbY hnY; have HY := Lib.hid hY; have HBY := Lib.hid hbY; have HXY := Lib.hid (HX.out.below hbY HX.out.lt); clear hY hbY hnY)
    | (refine Rg.box_fresh rfl 31 _ rfl #[.string k, .string x, .slice A n c] rfl ?_; intro X hX hbX hnX; have HX := Lib.hid hX; have HBX := Lib.hid hbX; clear hX hbX hnX))
  have c0 := HXY.out.cell 1 (v := .string x) rfl
  have c1 := HY.out.cell 1 (v := .string x') rfl
  go_wp2
  go_ret
  exact ⟨rfl, HBX.out.trans (HBY.out.mono HBX.out.size)⟩
theorem own_le {w : World} {B n sz : Nat} {E : TypeId} {v : Value} {xs : List Value} (h : w.ownsRow B E sz v n xs) : ∃ A c, v = .slice A n c ∧ c ≤ maxLen := by
  rcases h.2 with ⟨hv, hn⟩ | ⟨g, cap, cur, hv, _, _, _, hm, _⟩
  · exact ⟨none, 0, by rw [hv, hn], Nat.zero_le _⟩
  · exact ⟨_, _, hv, hm⟩
theorem TParts_any (w : World) (k x : ByteArray) (t : Tm) (p : Value) (h : TP w t p) : Calls Tryd.prog 27 #[.agg #[.string k, .string x, p]] w fun e w' => ∃ v, e = .returned v ∧ TS (TP w) w' v t.prt ∧ Below w.heap.size w w' := by
  obtain ⟨A, c, rfl⟩ := h.slice
  have HC := Lib.hid (fun W (hW : Below w.heap.size w W) => TClone_any (fun t p (h : TP w t p) => h.one) W _ t.prt (h.ts.below hW) (by cases t <;> simp [Tm.prt]))
  clear h
  generalize hn : t.prt.length = n at *
  have HN := Lib.hid hn
  clear hn
  go_enter Tryd.func27, Tryd.ntmps27
  go_upto_region 1 with (refine Rg.box_fresh rfl 31 _ rfl #[.string k, .string x, .slice A n c] rfl ?_; intro X hX hbX hnX; have HX := Lib.hid hX; have HBX := Lib.hid hbX; clear hX hbX hnX)
  have c2 := HX.out.cell 2 (v := .slice A n c) rfl
  go_wp2_with (go_at_call 41; refine (HC.out _ HBX.out).mono ?_; rintro e w1 ⟨v, ps, rfl, hps, ho, hq, hb⟩; skip; have HPS := Lib.hid hps; have HO := Lib.hid ho; have HQ := Lib.hid hq; have HB := Lib.hid hb; clear hps ho hq hb)
  go_ret
  refine ⟨_, rfl, ?_, HBX.out.trans (HB.out.mono HBX.out.size)⟩
  have hnl := HN.out
  subst hnl
  cases hl : t.prt with
  | nil =>
    have h0 := HPS.out
    rw [hl] at h0
    have ho := HO.out
    rw [hl] at ho
    obtain ⟨A', c', hv, hle⟩ := own_le ho
    exact ⟨A', c', [], hv, Nat.zero_le _, hle, rfl, by rw [List.zip_nil_left, tcs_nil]; exact Rd.nil _ _, fun j t p h => by simp at h⟩
  | cons x l =>
    have ho := HO.out
    have h0 := HPS.out
    have hq := HQ.out
    rw [hl] at ho h0 hq
    obtain ⟨g, c', rfl, h1, h2, h3, h4⟩ := own_form ho (by simp)
    exact ⟨some ⟨g, 0, none⟩, c', ps, rfl, h1, h2, h0, rd_of_range (own_range ho).1, hq⟩
/-- a term, or the zero one -/
def OT (B : Nat) (w : World) (o : Option Tm) (v : Value) : Prop :=
  match o with
  | some t => ∃ p, v = .agg (tv t p) ∧ FT B w t p
  | none => v = .agg #[.string ⟨#[]⟩, .string ⟨#[]⟩, .slice none 0 0]
set_option maxRecDepth 20000 in
set_option maxHeartbeats 1000000 in
theorem Of_any (w : World) (s : List UInt8) (hs : s.length ≤ 1000) (a : Nat → Addr) (hE : ErrsT w a) :
    Calls Tryd.prog 13 #[.string (strB s)] w fun e w' => ∃ v, e = .returned v ∧ OT w.heap.size w' (parse s) v ∧ Below w.heap.size w w' := by
  obtain ⟨o, ho⟩ : ∃ o, parse s = o := ⟨_, rfl⟩
  rw [ho]
  cases o with
  | some t =>
    have HP := Lib.hid (fun W (hW : Below w.heap.size w W) => Parse_some W s t hs ho)
    clear ho hE
    go_enter Tryd.func13, Tryd.ntmps13
    have HZ := Lib.hid (Rg.Blk.new w #[.string ⟨#[]⟩, .string ⟨#[]⟩, .slice none 0 0] 31)
    have HBW := Lib.hid (show Below w.heap.size w (w.alloc (.cells #[.string ⟨#[]⟩, .string ⟨#[]⟩, .slice none 0 0] 31)) from (Below.refl _ _).alloc (Nat.le_refl _) _)
    go_wp2_with (first
      | (go_at_call 24; refine (HP.out _ HBW.out).mono ?_; rintro e W1 ⟨p, rfl, hft, hb⟩; obtain ⟨Aa, ca, rfl⟩ := hft.tp.slice; skip; have HT := Lib.hid (hft.mono HZ.out.lt); have HZx := Lib.hid (HZ.out.below hb HZ.out.lt); clear HZ; have HZ := HZx; clear HZx; have HBWx := Lib.hid (HBW.out.trans (Below.mono hb HBW.out.size)); clear HBW; have HBW := HBWx; clear HBWx; clear hft hb)
      | (refine Rg.store_fresh rfl 31 _ _ rfl #[.string (strB (Tm.knd t)), .string (strB (Tm.txt t)), .slice Aa (Tm.prt t).length ca] _ 31 rfl rfl (by kernel_rfl) rfl (by simp [Value.oneCell']) ?_; intro Y hY hbY; have HY := Lib.hid hY; have HZx := Lib.hid (HZ.out.below hbY HZ.out.lt); clear HZ; have HZ := HZx; clear HZx; have HBWx := Lib.hid (HBW.out.trans (Below.mono hbY HBW.out.size)); clear HBW; have HBW := HBWx; clear HBWx; have HTx := Lib.hid (HT.out.below hbY); clear HT; have HT := HTx; clear HTx; clear hY hbY)
      | (refine Cv.load_cells rfl 31 _ rfl W1.heap.size 0 rfl #[.string (strB (Tm.knd t)), .string (strB (Tm.txt t)), .slice Aa (Tm.prt t).length ca] _ (fun j v hv => by rw [Nat.zero_add]; exact HY.out.cell j hv) Tryd.underlying31 rfl (by kernel_rfl) ?_; skip)
      | (refine Cv.store_blk rfl 31 _ _ rfl w.heap.size #[.string (strB (Tm.knd t)), .string (strB (Tm.txt t)), .slice Aa (Tm.prt t).length ca] #[.string ⟨#[]⟩, .string ⟨#[]⟩, .slice none 0 0] 31 rfl rfl HZ.out (by kernel_rfl) rfl (by simp [Value.oneCell']) ?_; intro V hV hgV; have HV := Lib.hid hV; have HGV := Lib.hid hgV; clear hV hgV))
    have p0 := HV.out.cell 0 (v := .string (strB (Tm.knd t))) rfl
    have p1 := HV.out.cell 1 (v := .string (strB (Tm.txt t))) rfl
    have p2 := HV.out.cell 2 (v := .slice Aa (Tm.prt t).length ca) rfl
    have hz6 := HV.out.lt
    refine bodyPost_ret (v := .agg #[.string (strB (Tm.knd t)), .string (strB (Tm.txt t)), .slice Aa (Tm.prt t).length ca]) (by simp [results, Tryd.results13, go_sem, p0, p1, p2, hz6]) rfl ?_
    exact ⟨_, rfl, ⟨_, rfl, (HT.out.on HGV.out.size (fun k h1 h2 => HGV.out.block k h2 (fun e => by have e := Option.some.inj e; omega))).mono (Nat.le_succ _)⟩, HBW.out.grown HGV.out HBW.out.size (fun j hj => by cases hj; exact Nat.le_refl _)⟩
  | none =>
    have HP := Lib.hid (fun W (hW : Below w.heap.size w W) => Parse_none W s hs ho a (hE.below hW))
    clear ho hE
    go_enter Tryd.func13, Tryd.ntmps13
    have HZ := Lib.hid (Rg.Blk.new w #[.string ⟨#[]⟩, .string ⟨#[]⟩, .slice none 0 0] 31)
    have HBW := Lib.hid (show Below w.heap.size w (w.alloc (.cells #[.string ⟨#[]⟩, .string ⟨#[]⟩, .slice none 0 0] 31)) from (Below.refl _ _).alloc (Nat.le_refl _) _)
    go_wp2_with (first
      | (go_at_call 24; refine (HP.out _ HBW.out).mono ?_; rintro e W1 ⟨rfl, hb⟩; skip; have HZx := Lib.hid (HZ.out.below hb HZ.out.lt); clear HZ; have HZ := HZx; clear HZx; have HBWx := Lib.hid (HBW.out.trans (Below.mono hb HBW.out.size)); clear HBW; have HBW := HBWx; clear HBWx; clear hb)
      | (refine Rg.store_fresh rfl 31 _ _ rfl #[.string ⟨#[]⟩, .string ⟨#[]⟩, .slice none 0 0] _ 31 rfl rfl (by kernel_rfl) rfl (by simp [Value.oneCell']) ?_; intro Y hY hbY; have HY := Lib.hid hY; have HZx := Lib.hid (HZ.out.below hbY HZ.out.lt); clear HZ; have HZ := HZx; clear HZx; have HBWx := Lib.hid (HBW.out.trans (Below.mono hbY HBW.out.size)); clear HBW; have HBW := HBWx; clear HBWx; clear hY hbY)
      | (refine Cv.load_cells rfl 31 _ rfl W1.heap.size 0 rfl #[.string ⟨#[]⟩, .string ⟨#[]⟩, .slice none 0 0] _ (fun j v hv => by rw [Nat.zero_add]; exact HY.out.cell j hv) Tryd.underlying31 rfl (by kernel_rfl) ?_; skip)
      | (refine Cv.store_blk rfl 31 _ _ rfl w.heap.size #[.string ⟨#[]⟩, .string ⟨#[]⟩, .slice none 0 0] #[.string ⟨#[]⟩, .string ⟨#[]⟩, .slice none 0 0] 31 rfl rfl HZ.out (by kernel_rfl) rfl (by simp [Value.oneCell']) ?_; intro V hV hgV; have HV := Lib.hid hV; have HGV := Lib.hid hgV; clear hV hgV))
    have p0 := HV.out.cell 0 (v := .string ⟨#[]⟩) rfl
    have p1 := HV.out.cell 1 (v := .string ⟨#[]⟩) rfl
    have p2 := HV.out.cell 2 (v := .slice none 0 0) rfl
    have hz6 := HV.out.lt
    refine bodyPost_ret (v := .agg #[.string ⟨#[]⟩, .string ⟨#[]⟩, .slice none 0 0]) (by simp [results, Tryd.results13, go_sem, p0, p1, p2, hz6]) rfl ?_
    exact ⟨_, rfl, rfl, HBW.out.grown HGV.out HBW.out.size (fun j hj => by cases hj; exact Nat.le_refl _)⟩
end Go.Proofs.YtfcemnebhapidaaDoor.Te
