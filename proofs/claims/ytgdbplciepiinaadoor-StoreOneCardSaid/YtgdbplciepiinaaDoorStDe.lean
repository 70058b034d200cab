/- slices.DeleteFunc over keys: the walk. -/
import Derived.Test.YtgdbplciepiinaaDoorStDg
import Derived.Deep.Cut
set_option linter.unusedVariables false
set_option linter.unusedSimpArgs false
namespace Go.Proofs.YtgdbplciepiinaaDoor.St
open Go.RowKit Go.Proofs.YtgdbplciepiinaaDoor.Ow Go.Proofs.YtgdbplciepiinaaDoor.Cv
theorem blk_kept {w w' : World} {b g T : Nat} {cs : Array Value} (h : Rg.Blk w b T cs) (hg : w.grownBy w' (some g)) (hn : b ≠ g) : Rg.Blk w' b T cs := by
  unfold Rg.Blk at *
  rw [hg.block b (Array.getElem?_eq_some_iff.1 h).1 (fun e => hn (Option.some.inj e))]
  exact h
theorem grown_then {a b c : World} {g : Nat} (h : a.grownBy b (some g)) (hb : Below b.heap.size b c) : a.grownBy c (some g) :=
  ⟨hb.os.trans h.os, hb.tape.trans h.tape, hb.output.trans h.output, Nat.le_trans h.size hb.size, fun k hk hne => (hb.block k (Nat.lt_of_lt_of_le hk h.size)).trans (h.block k hk hne)⟩
theorem grown_set2 {a b : World} {g : Nat} (h : a.grownBy b (some g)) (o : Nat) (vs : List Value) : a.grownBy (b.setCells g o vs) (some g) :=
  have k := grown_setCells g vs o b
  ⟨k.os.trans h.os, k.tape.trans h.tape, k.output.trans h.output, Nat.le_trans h.size k.size, fun i hi hne => (k.block i (Nat.lt_of_lt_of_le hi h.size) hne).trans (h.block i hi hne)⟩
set_option maxRecDepth 20000 in
set_option maxHeartbeats 8000000 in
theorem Delete_any (w : World) (g c n : Nat) (l : List (List UInt8)) (h : KR w g l) (hks : KS w (.slice (some ⟨g, 0, none⟩) n c) l) (hn : l.length = n) (hz : n ≤ 1000000) (hc : n ≤ c) (hcm : c ≤ maxLen) (hl : ∀ x ∈ l, x.length = 32) (hgl : g < w.heap.size) (k : List UInt8) (hk : k.length = 32) (hkm : k ∈ l) (kb : Nat) (hB : Rg.Blk w kb 34 (bytesV k)) (hne : kb ≠ g) :
    Calls Tryd.prog 24 #[.slice (some ⟨g, 0, none⟩) n c, .func (.func 26) #[] #[.pointer (some ⟨kb, 0, none⟩)]] w fun e w' => ∃ p, p = (kept l k).length ∧ e = .returned (.slice (some ⟨g, 0, none⟩) p c) ∧ w'.rangeAt g 0 (cells (kept l k)) ∧ w.grownBy w' (some g) := by
  obtain ⟨i0, hi0⟩ : ∃ i, idx l k = i := ⟨_, rfl⟩
  have hlt := idx_lt hkm
  rw [hi0, hn] at hlt
  have HIX := Lib.hid (show Calls Tryd.prog 32 #[.slice (some ⟨g, 0, none⟩) n c, .func (.func 26) #[] #[.pointer (some ⟨kb, 0, none⟩)]] w fun e w' => e = .returned (.int .i64 (i0 : Int)) ∧ Below w.heap.size w w' by
    have := Index_any w _ l hks (by omega) k hk kb hB
    have e : idxR l k l.length = (i0 : Int) := by unfold idxR; rw [hi0, if_pos (by omega)]
    rw [e] at this; exact this)
  have HD0 := Lib.hid (show DSt l k i0 (i0 + 1) l from ⟨by omega, by omega, rfl, hl, by have := idx_kept hkm; rw [hi0] at this; exact this.symm, rfl⟩)
  have HKR := Lib.hid h
  have HN := Lib.hid hn
  have HL := Lib.hid hl
  have HB := Lib.hid hB
  have HK := Lib.hid hk
  have HNE := Lib.hid hne
  have HGL := Lib.hid hgl
  have hm1 : ((i0 : Int) == -1) = false := by rw [beq_eq_false_iff_ne]; omega
  have hm2 : ¬ (i0 : Int) = -1 := by omega
  clear h hks hn hl hk hkm hB hne hi0 hgl
  go_enter Tryd.func24, Tryd.ntmps24
  go_wp2_with (go_at_call 32; refine HIX.out.mono ?_; rintro e w1 ⟨rfl, hb⟩; skip; have HB1 := Lib.hid hb; clear hb)
  go_loopw [5, 6] (fun i j wr => ∃ (p q : Nat) (M : List (List UInt8)), i = .int .i64 p ∧ j = .int .i64 q ∧ DSt l k p q M ∧ KR wr g M ∧ w.grownBy wr (some g)) (fun _ j _ => n - (intOf j).toNat)
  case atStart => exact ⟨i0, i0 + 1, l, rfl, by go_num, HD0.out, HKR.out.below HB1.out, ⟨HB1.out.os, HB1.out.tape, HB1.out.output, HB1.out.size, fun k hk _ => HB1.out.block k hk⟩⟩
  case round =>
    obtain ⟨p, q, M, rfl, rfl, hd, hkr, hgr⟩ := hrel
    have HD := Lib.hid hd
    have HR := Lib.hid hkr
    have HG := Lib.hid hgr
    have hpq := hd.pq
    have hqn := hd.qn
    rw [HN.out] at hqn
    clear hd hkr hgr
    by_cases hlt2 : q < n
    · have hdd : decide (q < n) = true := by simp; exact hlt2
      have hik : (q : Int) < n := by omega
      have hik0 : (0 : Int) ≤ q := by omega
      have hip : (p : Int) < n := by omega
      have hip0 : (0 : Int) ≤ p := by omega
      obtain ⟨x, hx⟩ : ∃ x, l[q]? = some x := ⟨_, List.getElem?_eq_getElem (by rw [HN.out]; exact hlt2)⟩
      have hxl := HL.out x (List.mem_of_getElem? hx)
      have HX := Lib.hid hx
      have HXL := Lib.hid hxl
      have HVX := Lib.hid (show (bytesV x).size = 32 by rw [bytesV_size, hxl])
      have HC := Lib.hid (show ∀ i v, (bytesV x)[i]? = some v → wr.cell? ⟨g, q * 32 + i, none⟩ = some v from fun i v hv => HR.out.at_ HD.out.all (HD.out.at_ hx) i v (by unfold bytesV at hv; rw [List.getElem?_toArray] at hv; exact hv))
      have HBW := Lib.hid (blk_kept HB.out HG.out HNE.out)
      clear hx hxl
      go_upto_region 8 with (first
        | (refine load_cells rfl 34 _ rfl g (q * 32) rfl (bytesV x) _ HC.out Tryd.underlying34 rfl (by rw [HVX.out]; kernel_rfl) ?_; skip)
        | (refine Rg.store_fresh rfl 34 _ _ rfl (bytesV x) _ 34 rfl rfl (by rw [HVX.out]; kernel_rfl) (by rw [HVX.out]; rfl) (bytesV_one _) ?_; intro X hX hbX; have HXX := Lib.hid hX; have HBX := Lib.hid hbX; clear hX hbX))
      have HBK := Lib.hid (HBW.out.below HBX.out HBW.out.lt)
      have HS := Lib.hid (Same_any X x k HXL.out HK.out kb HBK.out)
      have HGX := Lib.hid (grown_then HG.out HBX.out)
      by_cases he : x = k
      · have hxk : (x == k) = true := by rw [he]; exact beq_self_eq_true k
        rw [hxk] at HS
        have HD2 := Lib.hid (HD.out.skip HX.out he)
        clear he hxk
        go_wp2_with (first
          | (refine load_cells rfl 34 _ rfl wr.heap.size 0 rfl (bytesV x) _ (Bytes.of_blk HXX.out).cells Tryd.underlying34 rfl (by rw [HVX.out]; kernel_rfl) ?_; skip)
          | (go_at_call 26; refine HS.out.mono ?_; rintro e ws ⟨rfl, hs⟩; skip; have HS1 := Lib.hid hs; clear hs))
        have HKS := Lib.hid ((HR.out.below HBX.out).below HS1.out)
        have HGS := Lib.hid (grown_then HGX.out HS1.out)
        go_roundw
        case rel =>
          first
            | exact ⟨p, q + 1, M, rfl, by go_num, HD2.out, HKS.out, HGS.out⟩
            | ((repeat apply Exists.intro); refine ⟨?_, rfl⟩; exact ⟨p, q + 1, M, rfl, by go_num, HD2.out, HKS.out, HGS.out⟩)
        case measure => (first | (simp [intOf]; done) | (simp [intOf]; omega))
      · have hxk : (x == k) = false := by rw [beq_eq_false_iff_ne]; exact he
        rw [hxk] at HS
        have HD2 := Lib.hid (HD.out.move HX.out HXL.out he)
        clear he hxk
        have tok := True.intro
        go_wp2_with (first
          | (have _t := tok; refine load_cells rfl 34 _ rfl wr.heap.size 0 rfl (bytesV x) _ (Bytes.of_blk HXX.out).cells Tryd.underlying34 rfl (by rw [HVX.out]; kernel_rfl) ?_; clear _t tok)
          | (go_at_call 26; refine HS.out.mono ?_; rintro e ws ⟨rfl, hs⟩; skip; have HS1 := Lib.hid hs; have HXS := Lib.hid (HXX.out.below hs HXX.out.lt); have HKS := Lib.hid ((HR.out.below HBX.out).below hs); have HGS := Lib.hid (grown_then HGX.out hs); have tok2 := True.intro; clear hs)
          | (have _t := tok2; refine load_cells rfl 34 _ rfl wr.heap.size 0 rfl (bytesV x) _ (Bytes.of_blk HXS.out).cells Tryd.underlying34 rfl (by rw [HVX.out]; kernel_rfl) ?_; clear _t tok2)
          | (refine wpList_store_mid rfl 34 _ _ rfl g (p * 32) (bytesV x) rfl rfl (fun j hj => by have := HKS.out.2 (p * 32 + j) (by rw [HVX.out] at hj; have := HD.out.len; have := HN.out; omega); rw [Nat.zero_add] at this; exact this) (by rw [HVX.out]; kernel_rfl) (bytesV_one _) ?_; skip))
        have e1 : (bytesV x).toList = bv x := by unfold bytesV bv; rfl
        have HKF := Lib.hid (show KR (ws.setCells g (p * 32) (bytesV x).toList) g (M.set p x) by rw [e1]; exact HKS.out.set HD.out.all (by have := HD.out.len; have := HN.out; omega) HXL.out)
        have HGF := Lib.hid (grown_set2 HGS.out (p * 32) (bytesV x).toList)
        clear e1
        go_roundw
        case rel =>
          first
            | exact ⟨p + 1, q + 1, M.set p x, by go_num, by go_num, HD2.out, HKF.out, HGF.out⟩
            | ((repeat apply Exists.intro); refine ⟨?_, rfl⟩; exact ⟨p + 1, q + 1, M.set p x, by go_num, by go_num, HD2.out, HKF.out, HGF.out⟩)
        case measure => (first | (simp [intOf]; done) | (simp [intOf]; omega))
    · obtain rfl : q = n := by omega
      have hdd : decide (q < q) = false := by simp
      have hMl := HD.out.len
      obtain ⟨vs, hcl, hvl⟩ := run_clear32 wr 0 g (p * 32) (q - p) (c - p) (by omega) (fun j hj => by have := HR.out.2 (p * 32 + j) (by have := HN.out; omega); rw [Nat.zero_add] at this; exact this)
      have HVL := Lib.hid hvl
      have HML := Lib.hid hMl
      have hip : (p : Int) ≤ q := by omega
      have hip1 : (p : Int) ≤ c := by omega
      have hip0 : (0 : Int) ≤ p := by omega
      have hpc : ¬ p = c := by omega
      clear hvl hMl
      go_wp2
      go_ret
      have hfr := HD.out.front
      rw [show l.take q = l from List.take_of_length_le (by rw [HN.out]; exact Nat.le_refl _)] at hfr
      have hpl : p = (kept l k).length := by rw [← hfr, List.length_take]; have := HML.out; have := HN.out; omega
      refine ⟨p, hpl, rfl, ?_, grown_set2 HG.out _ _⟩
      have hR := HR.out.1
      rw [← List.take_append_drop p M, cells_append] at hR
      have h1 := (rangeAt_append.1 hR).1
      rw [hfr] at h1
      exact World.rangeAt_setCells_apart h1 _ _ _ (.inr (.inl (by rw [cells_length _ (fun y hy => HL.out y (List.mem_filter.1 hy).1), ← hpl]; omega)))
end Go.Proofs.YtgdbplciepiinaaDoor.St
