/- The field's least. -/
import Derived.Test.YtfaeigbfnjkojaaGreatDoorKxH
set_option linter.unusedVariables false
set_option linter.unusedSimpArgs false
namespace Go.Proofs.YtfaeigbfnjkojaaGreatDoor.Kx
open Go.RowKit Go.Proofs.YtfaeigbfnjkojaaGreatDoor.Cl
theorem it_cr_succ (k : Nat) (s : Nat × List Nat) : it cr (k + 1) s = cr k (it cr k s) := rfl
set_option maxRecDepth 20000 in
set_option maxHeartbeats 2000000 in
theorem least_any (w : World) (x : E) : Calls Tryz.prog 48 #[.agg (u64s x.l)] w fun e w' => e = .returned (.agg (u64s (least x).l)) ∧ Below w.heap.size w w' := by
  go_enter Tryz.func48, Tryz.ntmps48
  go_upto_region 1 with ((with_reducible refine gate_ ?_); refine Rg.box_fresh rfl 53 _ rfl (u64s x.l) rfl ?_; intro X hX hbX hnX; have HX := Lib.hid hX; have HBX := Lib.hid hbX; have HNX := Lib.hid hnX; clear hX hbX hnX)
  obtain ⟨xb, hxb⟩ : ∃ xb, w.heap.size = xb := ⟨_, rfl⟩
  obtain ⟨rb, hrb⟩ : ∃ rb, X.heap.size = rb := ⟨_, rfl⟩
  have HR := Lib.hid (show Row (X.alloc (.cells Z5 53)) xb 53 x.l from (hxb ▸ HX.out).alloc _)
  have HZ := Lib.hid (show Rg.Blk (X.alloc (.cells Z5 53)) rb 53 Z5 from Rg.Blk.newAt hrb.symm _ _)
  have HB := Lib.hid (show Below xb w (X.alloc (.cells Z5 53)) from hxb ▸ HBX.out.alloc HBX.out.size _)
  have HNE := Lib.hid (show xb ≠ rb ∧ xb ≤ rb from by have h1 := HX.out.lt; constructor <;> omega)
  have HXB := Lib.hid hxb
  rw [hxb, hrb, show (#[.int .u64 0, .int .u64 0, .int .u64 0, .int .u64 0, .int .u64 0] : Array Value) = Z5 from rfl]
  generalize X.alloc (.cells Z5 53) = Y at *
  clear HX HBX HNX hxb hrb
  have tok1 := True.intro
  go_upto_region 2 with (first
    | ((with_reducible refine gate_ ?_); refine Cv.load_cells rfl 53 _ rfl xb 0 rfl (u64s x.l) _ (fun j v hv => by rw [Nat.zero_add]; exact Rg.Blk.cell (row_blk HR.out) j hv) Tryz.underlying53 rfl (by rw [u64s_size]; kernel_rfl) ?_; skip)
    | (have _t := tok1; go_at_call 46; refine (carry_any _ x).mono ?_; rintro e w9 ⟨rfl, hb9⟩; skip; have HR9 := Lib.hid (HR.out.below hb9 HR.out.lt); have HZ9 := Lib.hid (HZ.out.below hb9 HZ.out.lt); have HB9 := Lib.hid (HB.out.trans (hb9.mono (HB.out.size_le HXB.out))); clear hb9; have tok2 := True.intro; clear _t tok1)
    | (have _t := tok2; go_at_call 46; refine (carry_any _ (carry x)).mono ?_; rintro e w8 ⟨rfl, hb9⟩; skip; have HR8 := Lib.hid (HR9.out.below hb9 HR9.out.lt); have HZ8 := Lib.hid (HZ9.out.below hb9 HZ9.out.lt); have HB8 := Lib.hid (HB9.out.trans (hb9.mono (HB9.out.size_le HXB.out))); clear hb9 _t tok2)
    | ((with_reducible refine gate_ ?_); refine Cv.store_blk rfl 53 _ _ rfl xb (u64s (carry (carry x)).l) (u64s x.l) 53 rfl rfl (row_blk HR8.out) (by rw [u64s_size]; kernel_rfl) (by rw [u64s_size]; first | rfl | rw [u64s_size]) (u64s_one _) ?_; intro V3 hV hgV; have HRn := Lib.hid (show Row V3 xb 53 (carry (carry x)).l from hV); have HZn := Lib.hid (blk_other HZ8.out hgV HNE.out.1); have HBn := Lib.hid (HB8.out.grown hgV (HB8.out.size_le HXB.out) (fun j e => by cases e; exact Nat.le_refl _)); clear hV hgV))
  clear HR HZ HB HR9 HZ9 HB9 HR8 HZ8 HB8
  obtain ⟨y, hy⟩ : ∃ y, carry (carry x) = y := ⟨_, rfl⟩
  have HYE := Lib.hid hy
  rw [hy] at HRn
  rw [hy]
  clear hy
  go_upto_region 4 with ((with_reducible refine gate_ ?_); refine Cv.load_cells rfl 51 _ rfl xb 0 rfl (u64s y.l) _ (fun j v hv => by rw [Nat.zero_add]; exact Rg.Blk.cell (row_blk HRn.out) j hv) Tryz.underlying51 rfl (by rw [u64s_size]; kernel_rfl) ?_; skip)
  go_loopw [3, 12] (fun c i wr => ∃ k : Nat, k ≤ 5 ∧ i = .int .i64 k ∧ c = .int .u64 (it (lc y.l) k 19 : Nat) ∧ Row wr xb 53 y.l ∧ Rg.Blk wr rb 53 Z5 ∧ Below xb w wr) (fun _ i _ => 5 - (intOf i).toNat)
  case atStart => exact ⟨0, Nat.zero_le _, rfl, rfl, HRn.out, HZn.out, HBn.out⟩
  case round =>
    obtain ⟨k, hk, rfl, rfl, hr, hz, hb⟩ := hrel
    clear HRn HZn HBn
    have HRn := Lib.hid hr
    have HZn := Lib.hid hz
    have HBn := Lib.hid hb
    clear hr hz hb
    by_cases hk5 : k < 5
    · have hd : decide (k < 5) = true := by simp; exact hk5
      have hki : (k : Int) < 5 := by omega
      have hk0 : (0 : Int) ≤ k := by omega
      have hst : it (lc y.l) (k + 1) 19 = (nth y.l k + it (lc y.l) k 19) % M / W := rfl
      obtain ⟨n1, hn1⟩ : ∃ n1, nth y.l k = n1 := ⟨_, rfl⟩
      obtain ⟨q1, hq1⟩ : ∃ q1, it (lc y.l) k 19 = q1 := ⟨_, rfl⟩
      have hx1 := index_words (P := Tryz.prog) 51 50 5 y.l k Tryz.underlying51 Tryz.underlying50 (by kernel_rfl) rfl hk5 wr
      rw [hn1] at hx1
      rw [hn1, hq1] at hst
      have e1 : IntKind.u64.wrap ((n1 : Int) + (q1 : Int)) = (((n1 + q1) % M : Nat) : Int) := wrap_add n1 q1
      obtain ⟨v1, hv1⟩ : ∃ v1, (n1 + q1) % M = v1 := ⟨_, rfl⟩
      rw [hv1] at e1 hst
      have HST := Lib.hid hst
      rw [hq1]
      clear hst hn1 hq1 hv1
      go_wp2
      go_roundw
      case rel =>
        have REL := Lib.hid (show ∃ k' : Nat, k' ≤ 5 ∧ Value.int .i64 ((k : Int) + 1) = .int .i64 k' ∧ Value.int .u64 ((v1 : Int) / 2251799813685248) = .int .u64 (it (lc y.l) k' 19 : Nat) ∧ Row wr xb 53 y.l ∧ Rg.Blk wr rb 53 Z5 ∧ Below xb w wr from ⟨k + 1, hk5, rfl, by rw [HST.out]; rfl, HRn.out, HZn.out, HBn.out⟩)
        first
          | exact REL.out
          | ((repeat apply Exists.intro); refine ⟨?_, rfl⟩; exact REL.out)
      case measure => (first | (simp [intOf]; done) | (simp [intOf]; omega))
    · obtain rfl : k = 5 := by omega
      have hd : decide ((5 : Nat) < 5) = false := by simp
      have hli := least_it y
      obtain ⟨q, hq⟩ : ∃ q, it (lc y.l) 5 19 = q := ⟨_, rfl⟩
      rw [hq] at hli ⊢
      have c0 := HRn.out.cell 0 (by rw [E.len]; decide)
      obtain ⟨n0, hn0⟩ : ∃ n0, nth y.l 0 = n0 := ⟨_, rfl⟩
      rw [hn0] at c0 hli
      have e1 : IntKind.u64.wrap ((q : Int) * 19) = ((q * 19 % M : Nat) : Int) := wrap_mul q 19
      obtain ⟨p, hp⟩ : ∃ p, q * 19 % M = p := ⟨_, rfl⟩
      rw [hp] at e1 hli
      have e2 : IntKind.u64.wrap ((n0 : Int) + (p : Int)) = (((n0 + p) % M : Nat) : Int) := wrap_add n0 p
      obtain ⟨v, hv⟩ : ∃ v, (n0 + p) % M = v := ⟨_, rfl⟩
      rw [hv] at e2 hli
      have HLI0 := Lib.hid hli
      clear hli hq hn0 hp hv
      go_upto_region 9 with ((with_reducible refine gate_ ?_); refine store_cell rfl 50 _ _ rfl (b := xb) (j := 0) (v := v) rfl rfl Tryz.underlying50 (by kernel_rfl) HRn.out (by rw [E.len]; decide) ?_; intro V hV hgV; have HR0 := Lib.hid hV; have HZ := Lib.hid (blk_other HZn.out hgV HNE.out.1); have HB := Lib.hid (HBn.out.grown hgV (HBn.out.size_le HXB.out) (fun j e => by cases e; exact Nat.le_refl _)); clear hV hgV)
      clear c0 HRn HZn HBn
      obtain ⟨l1, hl1⟩ : ∃ l1, y.l.set 0 v = l1 := ⟨_, rfl⟩
      have HL1 := Lib.hid (show l1.length = 5 by rw [← hl1, List.length_set]; rfl)
      rw [hl1] at HR0 HLI0
      have HR := HR0
      have HLI := HLI0
      clear hl1 HR0 HLI0
      go_upto_region 11 with fail
      go_loopw [3, 28] (fun c i wr => ∃ k : Nat, k ≤ 5 ∧ i = .int .i64 k ∧ c = .int .u64 ((it cr k (0, l1)).1 : Nat) ∧ Row wr xb 53 (it cr k (0, l1)).2 ∧ Rg.Blk wr rb 53 Z5 ∧ Below xb w wr) (fun _ i _ => 5 - (intOf i).toNat)
      case atStart => exact ⟨0, Nat.zero_le _, rfl, rfl, by rw [it_zero]; exact HR.out, HZ.out, HB.out⟩
      case round =>
        obtain ⟨k, hk, rfl, rfl, hr, hz, hb⟩ := hrel
        clear HR HZ HB
        have HR := Lib.hid hr
        have HZ := Lib.hid hz
        have HB := Lib.hid hb
        have HL := Lib.hid (show (it cr k (0, l1)).2.length = 5 by rw [it_cr_len]; exact HL1.out)
        by_cases hk5 : k < 5
        · have hd : decide (k < 5) = true := by simp; exact hk5
          have hki : (k : Int) < 5 := by omega
          have hk0 : (0 : Int) ≤ k := by omega
          have c1 := hr.cell k (by rw [HL.out]; exact hk5)
          have hst := it_cr_succ k (0, l1)
          rw [cr_eq] at hst
          clear hr hz hb
          obtain ⟨n1, hn1⟩ : ∃ n1, nth (it cr k (0, l1)).2 k = n1 := ⟨_, rfl⟩
          obtain ⟨q1, hq1⟩ : ∃ q1, (it cr k (0, l1)).1 = q1 := ⟨_, rfl⟩
          obtain ⟨v1, hv1⟩ : ∃ v1, (n1 + q1) % M = v1 := ⟨_, rfl⟩
          have e1 : IntKind.u64.wrap ((n1 : Int) + (q1 : Int)) = (v1 : Int) := by rw [wrap_add, hv1]
          have e2 : bits .and .u64 (v1 : Int) 2251799813685247 = ((v1 % W : Nat) : Int) := and_mask v1 (hv1 ▸ mod_lt_M _)
          have HN1 := Lib.hid hn1
          have HQ1 := Lib.hid hq1
          have HV1 := Lib.hid hv1
          rw [hn1] at c1
          rw [hn1, hq1, hv1] at hst
          have HST := Lib.hid hst
          rw [hq1]
          clear hn1 hq1 hv1 hst
          have HLK := Lib.hid (show k < (it cr k (0, l1)).2.length by rw [HL.out]; exact hk5)
          have HLK2 := Lib.hid (show k < ((it cr k (0, l1)).2.set k v1).length by rw [List.length_set, HL.out]; exact hk5)
          have tok1 := True.intro
          go_wp2_with (first
            | (have _t := tok1; (with_reducible refine gate_ ?_); refine store_cell rfl 50 _ _ rfl (b := xb) (j := k) (v := v1) rfl rfl Tryz.underlying50 (by kernel_rfl) HR.out HLK.out ?_; intro V hV hgV; have HRV := Lib.hid hV; have HZV := Lib.hid (blk_other HZ.out hgV HNE.out.1); have HBV := Lib.hid (HB.out.grown hgV (HB.out.size_le HXB.out) (fun j e => by cases e; exact Nat.le_refl _)); have c2 := row_set_cell hV HLK.out; clear hV hgV c1; have tok2 := True.intro; clear _t tok1)
            | (have _t := tok2; (with_reducible refine gate_ ?_); refine store_cell rfl 50 _ _ rfl (b := xb) (j := k) (v := v1 % W) rfl rfl Tryz.underlying50 (by kernel_rfl) HRV.out HLK2.out ?_; intro V2 hV hgV; rw [List.set_set] at hV; have HRW := Lib.hid hV; have HZW := Lib.hid (blk_other HZV.out hgV HNE.out.1); have HBW := Lib.hid (HBV.out.grown hgV (HBV.out.size_le HXB.out) (fun j e => by cases e; exact Nat.le_refl _)); clear hV hgV c2 _t tok2))
          go_roundw
          case rel =>
            have REL := Lib.hid (show ∃ k' : Nat, k' ≤ 5 ∧ Value.int .i64 ((k : Int) + 1) = .int .i64 k' ∧ Value.int .u64 ((v1 : Int) / 2251799813685248) = .int .u64 ((it cr k' (0, l1)).1 : Nat) ∧ Row V2 xb 53 (it cr k' (0, l1)).2 ∧ Rg.Blk V2 rb 53 Z5 ∧ Below xb w V2 from ⟨k + 1, hk5, rfl, by rw [HST.out]; rfl, by rw [HST.out]; exact HRW.out, HZW.out, HBW.out⟩)
            first
              | exact REL.out
              | ((repeat apply Exists.intro); refine ⟨?_, rfl⟩; exact REL.out)
          case measure => (first | (simp [intOf]; done) | (simp [intOf]; omega))
        · obtain rfl : k = 5 := by omega
          have hd : decide ((5 : Nat) < 5) = false := by simp
          have HRC := Lib.hid (show Row wr xb 53 (least1 y).l from by rw [← HLI.out]; exact HR.out)
          go_wp2_with (first
            | ((with_reducible refine gate_ ?_); refine Cv.load_cells rfl 53 _ rfl xb 0 rfl (u64s (least1 y).l) _ (fun j v hv => by rw [Nat.zero_add]; exact Rg.Blk.cell (row_blk HRC.out) j hv) Tryz.underlying53 rfl (by rw [u64s_size]; kernel_rfl) ?_; skip)
            | ((with_reducible refine gate_ ?_); refine Cv.store_blk rfl 53 _ _ rfl rb (u64s (least1 y).l) Z5 53 rfl rfl HZ.out (by rw [u64s_size]; kernel_rfl) (by rw [u64s_size]; first | rfl | rw [u64s_size]) (u64s_one _) ?_; intro V3 hV hgV; have HZZ := Lib.hid hV; have HBZ := Lib.hid (HB.out.grown hgV (HB.out.size_le HXB.out) (fun j e => by cases e; exact HNE.out.2)); clear hV hgV))
          refine bodyPost_ret (v := .agg (u64s (least1 y).l))
            (results_cell_row Tryz.results48 _ _ rb 53 _ (0, 0) _ rfl HZZ.out Tryz.underlying53 rfl (by rw [u64s_size]; kernel_rfl)) rfl ?_
          exact ⟨by unfold least; rw [HYE.out], HXB.out ▸ HBZ.out⟩
end Go.Proofs.YtfaeigbfnjkojaaGreatDoor.Kx
