/- The law WireReads: the walk. -/
import Derived.Test.YtkpecnkflibmjaaDoorStep
import Derived.Test.YtkpecnkflibmjaaDoorApiCode
import Derived.Test.YtkpecnkflibmjaaDoorWireAwake
import Derived.Deep.RegionWith
set_option linter.unusedVariables false
set_option linter.unusedSimpArgs false
namespace Go.Proofs.YtkpecnkflibmjaaDoor.Wi
open Go.RowKit Go.Proofs.YtkpecnkflibmjaaDoor.Ow Go.Proofs.YtkpecnkflibmjaaDoor.Be Go.Proofs.YtkpecnkflibmjaaDoor.Cl
attribute [local go_sem ↓] Go.wp_at_zero Go.wp_at_succ
/-- the slice address A reads as the asks xs -/
def RdA (w : World) (A : Option Addr) (xs : List (Int × Int)) : Prop := ∀ j q, xs[j]? = some q →
  (∃ b o, A = some ⟨b, o, none⟩ ∧ b < w.heap.size ∧ w.cell? ⟨b, o + j * 2, none⟩ = some (.int .i64 q.1) ∧ w.cell? ⟨b, o + j * 2 + 1, none⟩ = some (.int .i64 q.2)) ∧
  -9223372036854775808 ≤ q.2 ∧ q.2 ≤ 9223372036854775807
def eOf (a : Nat → Addr) (k : Nat) : Value := .iface 136 (.pointer (some (a k)))
theorem evV_eOf (a : Nat → Addr) (c : Nat) : evV (eOf a) c = Ei.evA a c := rfl
theorem errs_all {w : World} {a : Nat → Addr} (h : Ei.ErrsAll w a) : Errs w (eOf a) :=
  ⟨fun k _ => ⟨a k, rfl⟩, h.cell 3 (by decide), h.cell 2 (by decide), h.cell 1 (by decide)⟩
set_option maxRecDepth 20000 in
set_option maxHeartbeats 4000000 in
theorem law_WireReads (w : World) (s : ByteArray) (A : Option Addr) (cp : Nat) (xs : List (Int × Int)) (hR : RdA w A xs) (hc : xs.length ≤ cp) (hm : cp ≤ maxLen) (a : Nat → Addr) (hE : Ei.ErrsAll w a)
    (hM : ∃ m, w.cell? ⟨20, 0, none⟩ = some (.int .i64 m)) :
    Calls Tryd.prog 6 #[.string s, .slice A xs.length cp] w fun e w' => e = .returned (.bool true) ∧ Below w.heap.size w w' := by
  have HE := Lib.hid hE
  have HEV := Lib.hid (errs_all hE)
  have HR := Lib.hid hR
  have HM := Lib.hid hM
  obtain ⟨n, hn⟩ : ∃ n, xs.length = n := ⟨_, rfl⟩
  have hnm : n ≤ 9223372036854775807 := by unfold maxLen at hm; omega
  rw [hn]
  have HN := Lib.hid hn
  obtain ⟨t, ht⟩ : ∃ t, s.extract 0 200 = t := ⟨_, rfl⟩
  have hts : t.size ≤ 200 := by rw [← ht, ByteArray.size_extract]; omega
  have HT := Lib.hid (show ∀ W : World, Calls Tryd.prog 8 #[.string s, .int .i64 200] W fun e w' => e = .returned (.string t) ∧ W = w' from fun W => ht ▸ Cut_any W s 200 (by decide))
  clear hE hR hn hm hc hM ht
  go_enter Tryd.func6, Tryd.ntmps6
  go_wp2_with (first
    | (go_at_call 7; refine (awake_any _ _ HEV.out).mono ?_; rintro e w1 ⟨rfl, hb1⟩; skip; have HB1 := Lib.hid hb1; clear hb1)
    | (go_at_call 8; refine (HT.out _).mono ?_; rintro e w2 ⟨rfl, rfl⟩; skip)
    | (go_at_call 25; refine (Of_any _ t).mono ?_; rintro e w5 ⟨rfl, h5, hb5⟩; skip; have H5 := Lib.hid h5; have HB5 := Lib.hid hb5; clear h5 hb5))
  have hX8 : Rg.Blk (w5.alloc (.cells #[.string t, .int .i64 0] 62)) w5.heap.size 62 #[.string t, .int .i64 0] := Rg.Blk.new w5 _ _
  have hXI : IsIn (w5.alloc (.cells #[.string t, .int .i64 0] 62)) w1.heap.size t .nilIface := H5.out.alloc _
  have hXW : Below w1.heap.size w1 (w5.alloc (.cells #[.string t, .int .i64 0] 62)) := HB5.out.alloc HB5.out.size _
  generalize w5.alloc (.cells #[.string t, .int .i64 0] 62) = X at *
  have HJI := Lib.hid (show w1.heap.size < w5.heap.size from H5.out.lt)
  have HX8 := Lib.hid hX8
  have HXI := Lib.hid hXI
  have HXW := Lib.hid hXW
  have HGL := Lib.hid (Errs.gl HEV.out HB1.out.size)
  obtain ⟨mm, hmm⟩ := HM.out
  have HGM := Lib.hid (show 20 < w1.heap.size from Nat.lt_of_lt_of_le (World.block_lt_of_cell? _ _ hmm) HB1.out.size)
  clear hX8 hXI hXW hmm
  go_loopw [8] (fun i wr => ∃ (k : Nat) (s1 : ByteArray) (c1 : Nat), k ≤ n ∧ k ≤ 30 ∧ i = .int .i64 k ∧ s1.size ≤ 200 ∧ c1 ≤ 20 ∧ IsIn wr w1.heap.size s1 (evV (eOf a) c1) ∧ Rg.Blk wr w5.heap.size 62 #[.string s1, .int .i64 (c1 : Int)] ∧ Below w1.heap.size w1 wr) (fun i _ => 40 - (intOf i).toNat)
  case atStart => exact ⟨0, t, 0, Nat.zero_le _, by decide, rfl, hts, by decide, HXI.out, HX8.out, HXW.out⟩
  case round =>
    obtain ⟨k, s1, c1, hk, hk30, rfl, hs1, hc1, hI, hJ, hb⟩ := hrel
    have HI := Lib.hid hI
    have HJ := Lib.hid hJ
    have HB := Lib.hid hb
    have HBW := Lib.hid (HB1.out.trans (hb.mono HB1.out.size))
    have j0 := hJ.cell 0 (v := .string s1) rfl
    have j1 := hJ.cell 1 (v := .int .i64 c1) rfl
    have jf0 := hJ.frozen 0
    have jf1 := hJ.frozen 1
    have hji : w1.heap.size < w5.heap.size := HJI.out
    clear hI hJ hb
    by_cases hgo : k < n ∧ k < 30
    case pos =>
      obtain ⟨hkn, hkt⟩ := hgo
      have hd1 : decide (k < n) = true := by simp; exact hkn
      have hd2 : decide ((k : Int) < 30) = true := by simp; omega
      have hik : (k : Int) < n := by omega
      have hik0 : (0 : Int) ≤ k := by omega
      obtain ⟨⟨b, o, rfl, hbl, hq1, hq2⟩, hN1, hN2⟩ := HR.out k _ (List.getElem?_eq_getElem (by rw [HN.out]; exact hkn))
      generalize xs[k]'(by rw [HN.out]; exact hkn) = q at *
      obtain ⟨kind, N⟩ := q
      simp only at hq1 hq2 hN1 hN2
      have q1 := (HBW.out.cell (p := ⟨b, o + k * 2, none⟩) hbl).trans hq1
      have q2 := (HBW.out.cell (p := ⟨b, o + k * 2 + 1, none⟩) hbl).trans hq2
      have q3 : wr.cell? ⟨b, o + (k * 2 + 1), none⟩ = some (.int .i64 N) := q2
      obtain ⟨s2, hs2⟩ : ∃ s2, stS kind N s1 c1 = s2 := ⟨_, rfl⟩
      obtain ⟨c2, hc2⟩ : ∃ c2, stC kind N s1 c1 = c2 := ⟨_, rfl⟩
      have hs2l : s2.size ≤ 200 := by rw [← hs2]; exact Nat.le_trans (stS_size kind N s1 c1) hs1
      have hc2l : c2 ≤ 20 := by rw [← hc2]; exact stC_le kind N s1 c1 hc1
      have HST := Lib.hid (show ∀ W : World, Below wr.heap.size wr W → Calls Tryd.prog 34 #[.pointer (some ⟨w1.heap.size, 0, none⟩), inV s1 c1, .agg #[.int .i64 kind, .int .i64 N]] W (Stepped (eOf a) w1.heap.size W s2 c2) from fun W hW => by
        have := step_any W (eOf a) w1.heap.size s1 c1 kind N hN1 hN2 (by omega) (HEV.out.below (HBW.out.trans (hW.mono HBW.out.size))) HGL.out (cell_later HM.out (HBW.out.trans (hW.mono HBW.out.size))) HGM.out (HI.out.below hW HI.out.lt)
        rw [hs2, hc2] at this
        exact this)
      unfold inV at HST
      have HJL := Lib.hid HJ.out.lt
      clear hq1 hq2 hbl hs2 hc2
      go_wp2_with fail
      go_region_with (first
        | (go_at_call 34; refine (HST.out _ (Below.drew (Below.refl _ _))).mono ?_; rintro e w6 ⟨rfl, h6, hg6⟩; unfold inV; have b8 : Rg.Blk w6 w5.heap.size 62 #[.string s1, .int .i64 (c1 : Int)] := blk_grown (HJ.out.below (Below.drew (Below.refl _ _)) HJL.out) hg6 (by omega); have r0 := b8.cell 0 (v := .string s1) rfl; have r1 := b8.cell 1 (v := .int .i64 (c1 : Int)) rfl; have f0 := b8.frozen 0; have f1 := b8.frozen 1; have H6 := Lib.hid h6; have HG6 := Lib.hid hg6; have HB8 := Lib.hid b8; clear h6 hg6 b8))
      all_goals
        have hY8 : Rg.Blk ((w6.setCell ⟨w5.heap.size, 0, none⟩ (.string s2)).setCell ⟨w5.heap.size, 1, none⟩ (.int .i64 (c2 : Int))) w5.heap.size 62 #[.string s2, .int .i64 (c2 : Int)] := blk_set (blk_set HB8.out 0 _) 1 _
        have hYI : IsIn ((w6.setCell ⟨w5.heap.size, 0, none⟩ (.string s2)).setCell ⟨w5.heap.size, 1, none⟩ (.int .i64 (c2 : Int))) w1.heap.size s2 (evV (eOf a) c2) := blk_setOther (blk_setOther H6.out (by omega)) (by omega)
        have hYW : Below w1.heap.size w1 ((w6.setCell ⟨w5.heap.size, 0, none⟩ (.string s2)).setCell ⟨w5.heap.size, 1, none⟩ (.int .i64 (c2 : Int))) := (((HB.out.trans (Below.drew (Below.refl _ _))).grown HG6.out HB.out.size (fun k hk => by cases hk; exact Nat.le_refl _)).setCell (by simp; omega) _).setCell (by simp; omega) _
        generalize ((w6.setCell ⟨w5.heap.size, 0, none⟩ (.string s2)).setCell ⟨w5.heap.size, 1, none⟩ (.int .i64 (c2 : Int))) = Y at *
        have i0 := hY8.cell 0 (v := .string s2) rfl
        have i1 := hY8.cell 1 (v := .int .i64 (c2 : Int)) rfl
        have HY8 := Lib.hid hY8
        have HYI := Lib.hid hYI
        have HYW := Lib.hid hYW
        have HYA := Lib.hid (HB1.out.trans (hYW.mono HB1.out.size))
        have HCD := Lib.hid (show ∀ W : World, Below Y.heap.size Y W → Calls Tryd.prog 35 #[evV (eOf a) c2] W fun e w' => e = .returned (.int .i64 (c2 : Int)) ∧ W = w' from fun W hW => Ei.Code_any W a (HE.out.below (HYA.out.trans (hW.mono HYA.out.size))) c2 hc2l)
        clear hY8 hYI hYW q1 q2 q3 j0 j1 jf0 jf1 r0 r1 f0 f1
        go_wp2_with fail
        go_region_held3 (fun w' => w'.cell? ⟨w5.heap.size, 0, none⟩ = some (.string s2) ∧ w'.cell? ⟨w5.heap.size, 1, none⟩ = some (.int .i64 (c2 : Int))) (go_keep)
          (first
            | (go_at_call 33; refine (InLeft_any _ (eOf a) w1.heap.size s2 _ (HYI.out.below (Below.drew (Below.refl _ _)) HYI.out.lt)).mono ?_; rintro e w7 ⟨rfl, rfl⟩; skip)
            | (go_at_call 36; refine (InErr_any _ w1.heap.size s2 _ (HYI.out.below (Below.drew (Below.refl _ _)) HYI.out.lt)).mono ?_; rintro e w7 ⟨rfl, rfl⟩; skip)
            | (go_at_call 35; refine (HCD.out _ (Below.drew (Below.refl _ _))).mono ?_; rintro e w7 ⟨rfl, rfl⟩; skip))
        go_wp2_with fail
        go_roundw
        case rel =>
          have h1 : IsIn Y.drew w1.heap.size s2 (evV (eOf a) c2) := HYI.out.below (Below.drew (Below.refl _ _)) HYI.out.lt
          have h2 : Rg.Blk Y.drew w5.heap.size 62 #[.string s2, .int .i64 (c2 : Int)] := HY8.out.below (Below.drew (Below.refl _ _)) HY8.out.lt
          have h3 : Below w1.heap.size w1 Y.drew := HYW.out.trans (Below.drew (Below.refl _ _))
          first
            | exact ⟨k + 1, s2, c2, by omega, by omega, by go_num, hs2l, hc2l, h1, h2, h3⟩
            | ((repeat apply Exists.intro); refine ⟨?_, rfl⟩; exact ⟨k + 1, s2, c2, by omega, by omega, by go_num, hs2l, hc2l, h1, h2, h3⟩)
        case measure => simp [intOf]; omega
    have hd : decide (k < n) = true ∧ decide ((k : Int) < 30) = false ∨ decide (k < n) = false := by
      by_cases h1 : k < n
      · left; simp; omega
      · right; simp; omega
    have HES := Lib.hid (HEV.out.below HBW.out)
    by_cases hc0 : c1 = 0
    · subst hc0
      by_cases hs0 : s1.size = 0
      · have hl := toList_empty hs0
        have hl2 : s1.toList.isEmpty = true := by rw [hl]; rfl
        have HC := Lib.hid (show endC s1 0 = 0 from if_neg fun e => e.2 hs0)
        rcases hd with ⟨hd1, hd2⟩ | hd1
        all_goals
          try have hik : (k : Int) < n := by simp at hd1; omega
          go_wp2_with (first
            | (go_at_call 32; refine (InEnd_any _ (eOf a) w1.heap.size s1 0 HES.out HGL.out HI.out).mono ?_; rintro e w7 ⟨rfl, h7, hg7⟩
               rw [HC.out, evV_zero]
               have b8 := blk_grown HJ.out hg7 (by omega)
               have u0 := b8.cell 0 (v := .string s1) rfl
               have u1 := b8.cell 1 (v := .int .i64 0) rfl
               have HG7 := Lib.hid hg7
               clear h7 hg7 b8))
          go_ret
          exact ⟨by simp, HB1.out.trans ((HB.out.grown HG7.out HB.out.size (fun k hk => by cases hk; exact Nat.le_refl _)).mono HB1.out.size)⟩
      · have hl2 := toList_ne hs0
        have HC := Lib.hid (show endC s1 0 = 3 from if_pos ⟨rfl, hs0⟩)
        have HS := Lib.hid (show endS s1 0 = ⟨#[]⟩ from rfl)
        rcases hd with ⟨hd1, hd2⟩ | hd1
        all_goals
          try have hik : (k : Int) < n := by simp at hd1; omega
          go_wp2_with (first
            | (go_at_call 32; refine (InEnd_any _ (eOf a) w1.heap.size s1 0 HES.out HGL.out HI.out).mono ?_; rintro e w7 ⟨rfl, h7, hg7⟩
               rw [HC.out] at h7
               rw [HS.out] at h7
               rw [HC.out]
               have b8 := blk_grown HJ.out hg7 (by omega)
               have u0 := b8.cell 0 (v := .string s1) rfl
               have u1 := b8.cell 1 (v := .int .i64 0) rfl
               have hw7 : Below w.heap.size w w7 := HB1.out.trans ((HB.out.grown hg7 HB.out.size (fun k hk => by cases hk; exact Nat.le_refl _)).mono HB1.out.size)
               have ef := (HE.out.below hw7).cell 2 (by decide)
               have hf : w7.cell? ⟨0, 0, none⟩ = some (.iface 136 (.pointer (some (a 3)))) := ef
               have H7 := Lib.hid h7
               have HW7 := Lib.hid hw7
               clear h7 hg7 b8 ef hw7))
          go_region_held3 (fun w' => w'.cell? ⟨0, 0, none⟩ = some (.iface 136 (.pointer (some (a 3))))) (go_keep)
            (first
              | (go_at_call 37; refine (Ei.is_same (a 3) _).mono ?_; rintro e w8 ⟨rfl, rfl⟩; skip)
              | (go_at_call 36; refine (InErr_any _ w1.heap.size ⟨#[]⟩ _ (H7.out.below (Below.drew (Below.refl _ _)) H7.out.lt)).mono ?_; rintro e w8 ⟨rfl, rfl⟩; skip)
              | (go_at_call 33; refine (InLeft_any _ (eOf a) w1.heap.size ⟨#[]⟩ _ (H7.out.below (Below.drew (Below.refl _ _)) H7.out.lt)).mono ?_; rintro e w8 ⟨rfl, rfl⟩; skip))
          go_wp2_with fail
          go_ret
          exact ⟨rfl, HW7.out.trans (Below.drew (Below.refl _ _))⟩
    · have hc0' : ((c1 : Int) != 0) = true := by rw [bne_iff_ne]; omega
      have HC := Lib.hid (show endC s1 c1 = c1 from if_neg fun e => hc0 e.1)
      have HCD := Lib.hid (show ∀ W : World, Below w.heap.size w W → Calls Tryd.prog 35 #[evV (eOf a) c1] W fun e w' => e = .returned (.int .i64 (c1 : Int)) ∧ W = w' from fun W hW => Ei.Code_any W a (HE.out.below hW) c1 hc1)
      rcases hd with ⟨hd1, hd2⟩ | hd1
      all_goals
        try have hik : (k : Int) < n := by simp at hd1; omega
        go_wp2_with (first
          | (go_at_call 32; refine (InEnd_any _ (eOf a) w1.heap.size s1 c1 HES.out HGL.out HI.out).mono ?_; rintro e w7 ⟨rfl, h7, hg7⟩
             rw [HC.out]
             have b8 := blk_grown HJ.out hg7 (by omega)
             have u0 := b8.cell 0 (v := .string s1) rfl
             have u1 := b8.cell 1 (v := .int .i64 (c1 : Int)) rfl
             have HW7 := Lib.hid (show Below w.heap.size w w7 from HB1.out.trans ((HB.out.grown hg7 HB.out.size (fun k hk => by cases hk; exact Nat.le_refl _)).mono HB1.out.size))
             clear h7 hg7 b8))
        go_region_held3 (fun w' => w'.cell? ⟨w5.heap.size, 1, none⟩ = some (.int .i64 (c1 : Int))) (go_keep)
          (first
            | (go_at_call 35; refine (HCD.out _ (HW7.out.trans (Below.drew (Below.refl _ _)))).mono ?_; rintro e w8 ⟨rfl, rfl⟩; skip))
        go_wp2_with fail
        go_ret
        exact ⟨by simp, HW7.out.trans (Below.drew (Below.refl _ _))⟩
end Go.Proofs.YtkpecnkflibmjaaDoor.Wi
