/- The field's Sub. -/
import Derived.Test.YtfaeigbfnjkojaaGreatDoorKxC
set_option linter.unusedVariables false
set_option linter.unusedSimpArgs false
namespace Go.Proofs.YtfaeigbfnjkojaaGreatDoor.Kx
open Go.RowKit Go.Proofs.YtfaeigbfnjkojaaGreatDoor.Cl
theorem wrap_sub (x y : Nat) (h : y ≤ M) : IntKind.u64.wrap ((x : Int) - (y : Int)) = (((x + (M - y)) % M : Nat) : Int) := by rw [IntKind.wrap_u64]; unfold M at *; omega
theorem wrap_subF (x y : Nat) (h : y < M) : IntKind.u64.wrap ((x : Int) - (y : Int)) = ((subF x y : Nat) : Int) := by unfold subF; exact wrap_sub x y (Nat.le_of_lt h)
theorem carry_lt (y : E) (k : Nat) : nth (carry y).l k < M := carry_ok y k
theorem it_tw_succ (k : Nat) (l : List Nat) : it twR (k + 1) l = (it twR k l).set (k + 1) ((nth (it twR k l) (k + 1) + tw) % M) := rfl
theorem wrap_tw0 (n : Nat) : IntKind.u64.wrap ((n : Int) + 4503599627370458) = (((n + tw0) % M : Nat) : Int) := by rw [IntKind.wrap_u64]; unfold tw0 M; omega
theorem wrap_tw (n : Nat) : IntKind.u64.wrap ((n : Int) + 4503599627370494) = (((n + tw) % M : Nat) : Int) := by rw [IntKind.wrap_u64]; unfold tw M; omega
set_option maxRecDepth 20000 in
set_option maxHeartbeats 2000000 in
theorem Sub_any (w : World) (x y : E) : Calls Tryz.prog 41 #[.agg (u64s x.l), .agg (u64s y.l)] w fun e w' => e = .returned (.agg (u64s (sub x y).l)) ∧ Below w.heap.size w w' := by
  go_enter Tryz.func41, Tryz.ntmps41
  have tok1 := True.intro
  go_upto_region 1 with (first
    | (have _t := tok1; (with_reducible refine gate_ ?_); refine Rg.box_fresh rfl 53 _ rfl (u64s x.l) rfl ?_; intro X hX hbX hnX; have HX := Lib.hid hX; have HBX := Lib.hid hbX; have HNX := Lib.hid hnX; clear hX hbX hnX; have tok2 := True.intro; clear _t tok1)
    | (have _t := tok2; (with_reducible refine gate_ ?_); refine Rg.box_fresh rfl 53 _ rfl (u64s y.l) rfl ?_; intro X2 hX hbX hnX; have HY2 := Lib.hid hX; have HBY := Lib.hid hbX; have HNY := Lib.hid hnX; clear hX hbX hnX; clear _t tok2))
  obtain ⟨xb, hxb⟩ : ∃ xb, w.heap.size = xb := ⟨_, rfl⟩
  obtain ⟨yb, hyb⟩ : ∃ yb, X.heap.size = yb := ⟨_, rfl⟩
  obtain ⟨rb, hrb⟩ : ∃ rb, X2.heap.size = rb := ⟨_, rfl⟩
  have HR := Lib.hid (show Row (X2.alloc (.cells Z5 53)) xb 53 x.l from ((hxb ▸ HX.out).below HBY.out (hxb ▸ HX.out.lt)).alloc _)
  have HY := Lib.hid (show Row (X2.alloc (.cells Z5 53)) yb 53 y.l from (hyb ▸ HY2.out).alloc _)
  have HZ := Lib.hid (show Rg.Blk (X2.alloc (.cells Z5 53)) rb 53 Z5 from Rg.Blk.newAt hrb.symm _ _)
  have HB := Lib.hid (show Below xb w (X2.alloc (.cells Z5 53)) from hxb ▸ (HBX.out.trans (HBY.out.mono HBX.out.size)).alloc (Nat.le_trans HBX.out.size HBY.out.size) _)
  have HNE := Lib.hid (show xb ≠ yb ∧ xb ≠ rb ∧ xb ≤ rb from by have h1 := HNX.out; have h2 := HNY.out; refine ⟨?_, ?_, ?_⟩ <;> omega)
  have HN2 := Lib.hid (show yb ≠ rb ∧ xb ≤ yb from by have h1 := HNX.out; have h2 := HNY.out; refine ⟨?_, ?_⟩ <;> omega)
  have HXB := Lib.hid hxb
  rw [hxb, hyb, hrb, show (#[.int .u64 0, .int .u64 0, .int .u64 0, .int .u64 0, .int .u64 0] : Array Value) = Z5 from rfl]
  generalize X2.alloc (.cells Z5 53) = Z at *
  clear HX HBX HY2 HBY HNX HNY hxb hyb hrb
  go_upto_region 2 with (first
    | ((with_reducible refine gate_ ?_); refine Cv.load_cells rfl 53 _ rfl yb 0 rfl (u64s y.l) _ (fun j v hv => by rw [Nat.zero_add]; exact Rg.Blk.cell (row_blk HY.out) j hv) Tryz.underlying53 rfl (by rw [u64s_size]; kernel_rfl) ?_; skip)
    | (go_at_call 46; refine (carry_any _ y).mono ?_; rintro e w9 ⟨rfl, hb9⟩; skip; have HR9 := Lib.hid (HR.out.below hb9 HR.out.lt); have HY9 := Lib.hid (HY.out.below hb9 HY.out.lt); have HZ9 := Lib.hid (HZ.out.below hb9 HZ.out.lt); have HB9 := Lib.hid (HB.out.trans (hb9.mono (HB.out.size_le HXB.out))); clear hb9)
    | ((with_reducible refine gate_ ?_); refine Cv.store_blk rfl 53 _ _ rfl yb (u64s (carry y).l) (u64s y.l) 53 rfl rfl (row_blk HY9.out) (by rw [u64s_size]; kernel_rfl) (by rw [u64s_size, u64s_size]) (u64s_one _) ?_; intro V1 hV hgV; have HY1 := Lib.hid (show Row V1 yb 53 (carry y).l from hV); have HR1 := Lib.hid (row_other HR9.out hgV HNE.out.1.symm); have HZ1 := Lib.hid (blk_other HZ9.out hgV HN2.out.1); have HB1 := Lib.hid (HB9.out.grown hgV (HB9.out.size_le HXB.out) (fun j e => by cases e; exact HN2.out.2)); clear hV hgV))
  clear HR HY HZ HB HR9 HY9 HZ9 HB9
  have c0 := HR1.out.cell 0 (by rw [E.len]; decide)
  obtain ⟨n0, hn0⟩ : ∃ n0, nth x.l 0 = n0 := ⟨_, rfl⟩
  have e0 : IntKind.u64.wrap ((n0 : Int) + 4503599627370458) = (((n0 + tw0) % M : Nat) : Int) := wrap_tw0 n0
  rw [hn0] at c0
  obtain ⟨m0, hm0⟩ : ∃ m0, (n0 + tw0) % M = m0 := ⟨_, rfl⟩
  rw [hm0] at e0
  have HM0 := Lib.hid (show (nth x.l 0 + tw0) % M = m0 by rw [hn0]; exact hm0)
  clear hn0 hm0
  go_upto_region 3 with ((with_reducible refine gate_ ?_); refine store_cell rfl 50 _ _ rfl (b := xb) (j := 0) (v := m0) rfl rfl Tryz.underlying50 (by kernel_rfl) HR1.out (by rw [E.len]; decide) ?_; intro V2 hV hgV; rw [← HM0.out] at hV; have HR0 := Lib.hid hV; have HY := Lib.hid (row_other HY1.out hgV HNE.out.1); have HZ := Lib.hid (blk_other HZ1.out hgV HNE.out.2.1); have HB := Lib.hid (HB1.out.grown hgV (HB1.out.size_le HXB.out) (fun j e => by cases e; exact Nat.le_refl _)); clear hV hgV)
  clear c0 e0 HR1 HY1 HZ1 HB1 HM0
  obtain ⟨l1, hl1⟩ : ∃ l1, x.l.set 0 ((nth x.l 0 + tw0) % M) = l1 := ⟨_, rfl⟩
  have HR := Lib.hid (show Row V2 xb 53 l1 from by rw [← hl1]; exact HR0.out)
  have HL1 := Lib.hid (show l1.length = 5 by rw [← hl1, List.length_set]; rfl)
  have HSE0 := Lib.hid (show ∀ l2, it twR 4 l1 = l2 → it (zip2 subF (carry y).l) 5 l2 = (sub1 x (carry y)).l from fun l2 e => by rw [← e, ← hl1]; exact sub_it x (carry y))
  clear HR0 hl1
  go_upto_region 4 with fail
  go_loopw [5] (fun i wr => ∃ k : Nat, k ≤ 4 ∧ i = .int .i64 ((k : Int) + 1) ∧ Row wr xb 53 (it twR k l1) ∧ Row wr yb 53 (carry y).l ∧ Rg.Blk wr rb 53 Z5 ∧ Below xb w wr) (fun i _ => 5 - (intOf i).toNat)
  case atStart => exact ⟨0, Nat.zero_le _, rfl, by rw [it_zero]; exact HR.out, HY.out, HZ.out, HB.out⟩
  case round =>
    obtain ⟨k, hk, rfl, hr, hy, hz, hb⟩ := hrel
    clear HR HY HZ HB
    have HR := Lib.hid hr
    have HY := Lib.hid hy
    have HZ := Lib.hid hz
    have HB := Lib.hid hb
    have HL := Lib.hid (show (it twR k l1).length = 5 by rw [it_tw_len]; exact HL1.out)
    clear hr hy hz hb
    by_cases hk4 : k < 4
    · have hd : decide ((k : Int) + 1 < 5) = true := by simp; omega
      have hki : (k : Int) + 1 < 5 := by omega
      have hk0 : (0 : Int) ≤ (k : Int) + 1 := by omega
      have c1 := HR.out.cell (k + 1) (by rw [HL.out]; omega)
      have HLK := Lib.hid (show k + 1 < (it twR k l1).length by rw [HL.out]; omega)
      have hst := it_tw_succ k l1
      obtain ⟨n1, hn1⟩ : ∃ n1, nth (it twR k l1) (k + 1) = n1 := ⟨_, rfl⟩
      have e1 : IntKind.u64.wrap ((n1 : Int) + 4503599627370494) = (((n1 + tw) % M : Nat) : Int) := wrap_tw n1
      rw [hn1] at hst c1
      obtain ⟨v1, hv1⟩ : ∃ v1, (n1 + tw) % M = v1 := ⟨_, rfl⟩
      rw [hv1] at hst e1
      have HST := Lib.hid hst
      clear hst hn1 hv1
      have hnt : ((k : Int) + 1).toNat = k + 1 := by omega
      go_wp2_with ((with_reducible refine gate_ ?_); refine store_cell rfl 50 _ _ rfl (b := xb) (j := k + 1) (v := v1) rfl rfl Tryz.underlying50 (by kernel_rfl) HR.out HLK.out ?_; intro V hV hgV; have HRV := Lib.hid hV; have HYV := Lib.hid (row_other HY.out hgV HNE.out.1); have HZV := Lib.hid (blk_other HZ.out hgV HNE.out.2.1); have HBV := Lib.hid (HB.out.grown hgV (HB.out.size_le HXB.out) (fun j e => by cases e; exact Nat.le_refl _)); clear hV hgV)
      go_roundw
      case rel =>
        have REL := Lib.hid (show ∃ k' : Nat, k' ≤ 4 ∧ Value.int .i64 ((k : Int) + 1 + 1) = .int .i64 ((k' : Int) + 1) ∧ Row V xb 53 (it twR k' l1) ∧ Row V yb 53 (carry y).l ∧ Rg.Blk V rb 53 Z5 ∧ Below xb w V from ⟨k + 1, hk4, rfl, by rw [HST.out]; exact HRV.out, HYV.out, HZV.out, HBV.out⟩)
        first
          | exact REL.out
          | ((repeat apply Exists.intro); refine ⟨?_, rfl⟩; exact REL.out)
      case measure => (first | (simp [intOf]; done) | (simp [intOf]; omega))
    · obtain rfl : k = 4 := by omega
      have hd : decide (((4 : Nat) : Int) + 1 < 5) = false := by simp
      obtain ⟨l2, hl2⟩ : ∃ l2, it twR 4 l1 = l2 := ⟨_, rfl⟩
      rw [hl2] at HR HL
      have HSE := Lib.hid (HSE0.out l2 hl2)
      clear hl2 HSE0
      have HL2 := HL
      go_upto_region 8 with fail
      go_loopw [26] (fun i wr => ∃ k : Nat, k ≤ 5 ∧ i = .int .i64 k ∧ Row wr xb 53 (it (zip2 subF (carry y).l) k l2) ∧ Row wr yb 53 (carry y).l ∧ Rg.Blk wr rb 53 Z5 ∧ Below xb w wr) (fun i _ => 5 - (intOf i).toNat)
      case atStart => exact ⟨0, Nat.zero_le _, rfl, by rw [it_zero]; exact HR.out, HY.out, HZ.out, HB.out⟩
      case round =>
        obtain ⟨k, hk, rfl, hr, hy, hz, hb⟩ := hrel
        clear HR HY HZ HB
        have HR := Lib.hid hr
        have HY := Lib.hid hy
        have HZ := Lib.hid hz
        have HB := Lib.hid hb
        have HL := Lib.hid (show (it (zip2 subF (carry y).l) k l2).length = 5 by rw [it_zip_len]; exact HL2.out)
        clear hr hy hz hb
        by_cases hk5 : k < 5
        · have hd : decide (k < 5) = true := by simp; exact hk5
          have hki : (k : Int) < 5 := by omega
          have hk0 : (0 : Int) ≤ k := by omega
          have HLK := Lib.hid (show k < (it (zip2 subF (carry y).l) k l2).length by rw [HL.out]; exact hk5)
          have HLY := Lib.hid (show k < ((carry y).l).length from hk5)
          have hst := it_zip_succ subF (carry y).l k l2
          obtain ⟨n1, hn1⟩ : ∃ n1, nth (it (zip2 subF (carry y).l) k l2) k = n1 := ⟨_, rfl⟩
          obtain ⟨n2, hn2⟩ : ∃ n2, nth (carry y).l k = n2 := ⟨_, rfl⟩
          have HLE := Lib.hid (carry_lt y k)
          rw [hn2] at HLE
          have e3 : IntKind.u64.wrap ((n1 : Int) - (n2 : Int)) = ((subF n1 n2 : Nat) : Int) := wrap_subF n1 n2 HLE.out
          rw [hn1, hn2] at hst
          obtain ⟨v1, hv1⟩ : ∃ v1, subF n1 n2 = v1 := ⟨_, rfl⟩
          rw [hv1] at hst e3
          have HST := Lib.hid hst
          have HN1 := Lib.hid hn1
          have HN2 := Lib.hid hn2
          clear hst hn1 hn2 hv1
          go_upto_region 10 with fail
          refine RT.start (fun W => Below wr.heap.size wr W) 11 1 (by kernel_rfl) (by decide) rfl (by kernel_rfl) (by kernel_rfl) (Below.drew (Below.refl _ _)) ?_
          refine' RT.takeV (i := 0) (v := _) rfl (by kernel_rfl) (by kernel_rfl) (by kernel_rfl) (by decide) (fun _ _ _ h => h) (by rfl) ?hk1 ?_
          case hk1 => (intro W hSW; go_simp; try with_reducible rfl)
          (try simp only [Act.put, List.setIfInBounds_toArray, List.set_cons_zero, List.set_cons_succ])
          refine' RT.takeV (i := 1) (v := _) rfl (by kernel_rfl) (by kernel_rfl) (by kernel_rfl) (by decide) (fun _ _ _ h => h) (by rfl) ?hk2 ?_
          case hk2 => (intro W hSW; go_simp; try with_reducible rfl)
          (try simp only [Act.put, List.setIfInBounds_toArray, List.set_cons_zero, List.set_cons_succ])
          refine' RT.takeV (i := 2) (v := _) rfl (by kernel_rfl) (by kernel_rfl) (by kernel_rfl) (by decide) (fun _ _ _ h => h) (by rfl) ?hk3 ?_
          case hk3 => (intro W hSW; go_simp; try with_reducible rfl)
          (try simp only [Act.put, List.setIfInBounds_toArray, List.set_cons_zero, List.set_cons_succ])
          refine' RT.takeV (i := 3) (v := _) rfl (by kernel_rfl) (by kernel_rfl) (by kernel_rfl) (by decide) (fun _ _ _ h => h) (by rfl) ?hk4 ?_
          case hk4 => (intro W hSW; have k1 := (HR.out.below hSW HR.out.lt).cell k HLK.out; rw [HN1.out] at k1; go_simp; try with_reducible rfl)
          (try simp only [Act.put, List.setIfInBounds_toArray, List.set_cons_zero, List.set_cons_succ])
          refine' RT.takeV (i := 4) (v := _) rfl (by kernel_rfl) (by kernel_rfl) (by kernel_rfl) (by decide) (fun _ _ _ h => h) (by rfl) ?hk5 ?_
          case hk5 => (intro W hSW; go_simp; try with_reducible rfl)
          (try simp only [Act.put, List.setIfInBounds_toArray, List.set_cons_zero, List.set_cons_succ])
          refine' RT.takeV (i := 5) (v := _) rfl (by kernel_rfl) (by kernel_rfl) (by kernel_rfl) (by decide) (fun _ _ _ h => h) (by rfl) ?hk6 ?_
          case hk6 => (intro W hSW; go_simp; try with_reducible rfl)
          (try simp only [Act.put, List.setIfInBounds_toArray, List.set_cons_zero, List.set_cons_succ])
          refine' RT.takeV (i := 6) (v := _) rfl (by kernel_rfl) (by kernel_rfl) (by kernel_rfl) (by decide) (fun _ _ _ h => h) (by rfl) ?hk7 ?_
          case hk7 => (intro W hSW; go_simp; try with_reducible rfl)
          (try simp only [Act.put, List.setIfInBounds_toArray, List.set_cons_zero, List.set_cons_succ])
          refine' RT.takeV (i := 7) (v := _) rfl (by kernel_rfl) (by kernel_rfl) (by kernel_rfl) (by decide) (fun _ _ _ h => h) (by rfl) ?hk8 ?_
          case hk8 => (intro W hSW; have k2 := (HY.out.below hSW HY.out.lt).cell k HLY.out; rw [HN2.out] at k2; go_simp; try with_reducible rfl)
          (try simp only [Act.put, List.setIfInBounds_toArray, List.set_cons_zero, List.set_cons_succ])
          refine' RT.takeV (i := 8) (v := _) rfl (by kernel_rfl) (by kernel_rfl) (by kernel_rfl) (by decide) (fun _ _ _ h => h) (by rfl) ?hk9 ?_
          case hk9 => (intro W hSW; have e3x := e3; go_simp; try with_reducible rfl)
          (try simp only [Act.put, List.setIfInBounds_toArray, List.set_cons_zero, List.set_cons_succ])
          refine' RT.takeV (i := 9) (v := _) rfl (by kernel_rfl) (by kernel_rfl) (by kernel_rfl) (by decide) (fun _ _ _ h => h) (by rfl) ?hk10 ?_
          case hk10 => (intro W hSW; go_simp; try with_reducible rfl)
          (try simp only [Act.put, List.setIfInBounds_toArray, List.set_cons_zero, List.set_cons_succ])
          refine' RT.takeV (i := 10) (v := _) rfl (by kernel_rfl) (by kernel_rfl) (by kernel_rfl) (by decide) (fun _ _ _ h => h) (by rfl) ?hk11 ?_
          case hk11 => (intro W hSW; go_simp; try with_reducible rfl)
          (try simp only [Act.put, List.setIfInBounds_toArray, List.set_cons_zero, List.set_cons_succ])
          refine RT.tail (by kernel_rfl) rfl rfl ?_
          intro wd hlwd hswd
          have hlx : Below wr.heap.size wr wd := (Below.drew (Below.refl _ _)).trans hlwd
          have HRd := Lib.hid (HR.out.below hlx HR.out.lt)
          have HYd := Lib.hid (HY.out.below hlx HY.out.lt)
          have HZd := Lib.hid (HZ.out.below hlx HZ.out.lt)
          have HBd := Lib.hid (HB.out.trans (hlx.mono (HB.out.size_le HXB.out)))
          clear hlwd hswd hlx
          refine store_cell rfl 50 _ _ rfl (b := xb) (j := k) (v := v1) rfl rfl Tryz.underlying50 (by kernel_rfl) HRd.out HLK.out ?_
          intro V hV hgV
          have HRV := Lib.hid hV
          have HYV := Lib.hid (row_other HYd.out hgV HNE.out.1)
          have HZV := Lib.hid (blk_other HZd.out hgV HNE.out.2.1)
          have HBV := Lib.hid (HBd.out.grown hgV (HBd.out.size_le HXB.out) (fun j e => by cases e; exact Nat.le_refl _))
          clear hV hgV
          go_wp2_with fail
          go_roundw
          case rel =>
            have REL := Lib.hid (show ∃ k' : Nat, k' ≤ 5 ∧ Value.int .i64 ((k : Int) + 1) = .int .i64 k' ∧ Row V xb 53 (it (zip2 subF (carry y).l) k' l2) ∧ Row V yb 53 (carry y).l ∧ Rg.Blk V rb 53 Z5 ∧ Below xb w V from ⟨k + 1, hk5, rfl, by rw [HST.out]; exact HRV.out, HYV.out, HZV.out, HBV.out⟩)
            first
              | exact REL.out
              | ((repeat apply Exists.intro); refine ⟨?_, rfl⟩; exact REL.out)
          case measure => (first | (simp [intOf]; done) | (simp [intOf]; omega))
        · obtain rfl : k = 5 := by omega
          have hd : decide ((5 : Nat) < 5) = false := by simp
          have HRC := Lib.hid (show Row wr xb 53 (sub1 x (carry y)).l from by rw [← HSE.out]; exact HR.out)
          go_wp2_with (first
            | ((with_reducible refine gate_ ?_); refine Cv.load_cells rfl 53 _ rfl xb 0 rfl (u64s (sub1 x (carry y)).l) _ (fun j v hv => by rw [Nat.zero_add]; exact Rg.Blk.cell (row_blk HRC.out) j hv) Tryz.underlying53 rfl (by rw [u64s_size]; kernel_rfl) ?_; skip)
            | (go_at_call 46; refine (carry_any _ (sub1 x (carry y))).mono ?_; rintro e w9 ⟨rfl, hb9⟩; skip; have HZ9 := Lib.hid (HZ.out.below hb9 HZ.out.lt); have HB9 := Lib.hid (HB.out.trans (hb9.mono (HB.out.size_le HXB.out))); clear hb9)
            | ((with_reducible refine gate_ ?_); refine Cv.store_blk rfl 53 _ _ rfl rb (u64s (carry (sub1 x (carry y))).l) Z5 53 rfl rfl HZ9.out (by rw [u64s_size]; kernel_rfl) (by rw [u64s_size]; rfl) (u64s_one _) ?_; intro V3 hV hgV; have HZZ := Lib.hid hV; have HBZ := Lib.hid (HB9.out.grown hgV (HB9.out.size_le HXB.out) (fun j e => by cases e; exact HNE.out.2.2)); clear hV hgV))
          refine bodyPost_ret (v := .agg (u64s (carry (sub1 x (carry y))).l))
            (results_cell_row Tryz.results41 _ _ rb 53 _ (0, 0) _ rfl HZZ.out Tryz.underlying53 rfl (by rw [u64s_size]; kernel_rfl)) rfl ?_
          exact ⟨rfl, HXB.out ▸ HBZ.out⟩
end Go.Proofs.YtfaeigbfnjkojaaGreatDoor.Kx
