/- The field's Small, Choose, Square. -/
import Derived.Test.YtfaeigbfnjkojaaGreatDoorKxG
set_option linter.unusedVariables false
set_option linter.unusedSimpArgs false
namespace Go.Proofs.YtfaeigbfnjkojaaGreatDoor.Kx
open Go.RowKit Go.Proofs.YtfaeigbfnjkojaaGreatDoor.Cl
set_option maxRecDepth 20000 in
set_option maxHeartbeats 2000000 in
theorem Square_any (w : World) (x : E) (hx : x.ok) : Calls Tryz.prog 42 #[.agg (u64s x.l)] w fun e w' => e = .returned (.agg (u64s (sq x).l)) ∧ Below w.heap.size w w' := by
  have HOX := Lib.hid hx
  clear hx
  go_enter Tryz.func42, Tryz.ntmps42
  go_upto_region 1 with ((with_reducible refine gate_ ?_); refine Rg.box_fresh rfl 53 _ rfl (u64s x.l) rfl ?_; intro X hX hbX hnX; have HX := Lib.hid hX; have HBX := Lib.hid hbX; have HNX := Lib.hid hnX; clear hX hbX hnX)
  obtain ⟨xb, hxb⟩ : ∃ xb, w.heap.size = xb := ⟨_, rfl⟩
  obtain ⟨rb, hrb⟩ : ∃ rb, X.heap.size = rb := ⟨_, rfl⟩
  have HR := Lib.hid (show Row (X.alloc (.cells Z5 53)) xb 53 x.l from (hxb ▸ HX.out).alloc _)
  have HZ := Lib.hid (show Rg.Blk (X.alloc (.cells Z5 53)) rb 53 Z5 from Rg.Blk.newAt hrb.symm _ _)
  have HB := Lib.hid (show Below xb w (X.alloc (.cells Z5 53)) from hxb ▸ HBX.out.alloc HBX.out.size _)
  have HNE := Lib.hid (show xb ≠ rb ∧ xb ≤ rb from by have h1 := HX.out.lt; constructor <;> omega)
  have HXB := Lib.hid hxb
  rw [hxb, hrb, show (#[.int .u64 0, .int .u64 0, .int .u64 0, .int .u64 0, .int .u64 0] : Array Value) = Z5 from rfl]
  generalize X.alloc (.cells Z5 53) = Y at *
  clear HX HBX HNX hxb hrb
  go_wp2_with (first
    | ((with_reducible refine gate_ ?_); refine Cv.load_cells rfl 53 _ rfl xb 0 rfl (u64s x.l) _ (fun j v hv => by rw [Nat.zero_add]; exact Rg.Blk.cell (row_blk HR.out) j hv) Tryz.underlying53 rfl (by rw [u64s_size]; kernel_rfl) ?_; skip)
    | (go_at_call 24; refine (Mul_any _ x x HOX.out HOX.out).mono ?_; rintro e w9 ⟨rfl, hb9⟩; skip; have HZ9 := Lib.hid (HZ.out.below hb9 HZ.out.lt); have HB9 := Lib.hid (HB.out.trans (hb9.mono (HB.out.size_le HXB.out))); clear hb9)
    | ((with_reducible refine gate_ ?_); refine Cv.store_blk rfl 53 _ _ rfl rb (u64s (mul x x).l) Z5 53 rfl rfl HZ9.out (by rw [u64s_size]; kernel_rfl) (by rw [u64s_size]; first | rfl | rw [u64s_size]) (u64s_one _) ?_; intro V3 hV hgV; have HZZ := Lib.hid hV; have HBZ := Lib.hid (HB9.out.grown hgV (HB9.out.size_le HXB.out) (fun j e => by cases e; exact HNE.out.2)); clear hV hgV))
  refine bodyPost_ret (v := .agg (u64s (mul x x).l))
    (results_cell_row Tryz.results42 _ _ rb 53 _ (0, 0) _ rfl HZZ.out Tryz.underlying53 rfl (by rw [u64s_size]; kernel_rfl)) rfl ?_
  exact ⟨rfl, HXB.out ▸ HBZ.out⟩
set_option maxRecDepth 20000 in
set_option maxHeartbeats 2000000 in
theorem Small_any (w : World) (n : Nat) (hn : n < M) : Calls Tryz.prog 21 #[.int .u64 n] w fun e w' => e = .returned (.agg (u64s (small n).l)) ∧ Below w.heap.size w w' := by
  have e1 : bits .and .u64 (n : Int) 2251799813685247 = ((n % W : Nat) : Int) := and_mask n hn
  go_enter Tryz.func21, Tryz.ntmps21
  go_wp2_with (refine Rg.store_fresh rfl 53 _ _ rfl (u64s (small n).l) _ 53 rfl rfl (by rw [u64s_size]; kernel_rfl) rfl (u64s_one _) ?_; intro X hX hbX; have HZZ := Lib.hid hX; have HBZ := Lib.hid hbX; clear hX hbX)
  refine bodyPost_ret (v := .agg (u64s (small n).l))
    (results_cell_row Tryz.results21 _ _ w.heap.size 53 _ (0, 0) _ rfl HZZ.out Tryz.underlying53 rfl (by rw [u64s_size]; kernel_rfl)) rfl ?_
  exact ⟨rfl, HBZ.out⟩
set_option maxRecDepth 20000 in
set_option maxHeartbeats 2000000 in
theorem Choose_any (w : World) (f : Bool) (x y : E) : Calls Tryz.prog 39 #[.bool f, .agg (u64s x.l), .agg (u64s y.l)] w fun e w' => e = .returned (.agg (u64s (if f = true then x else y).l)) ∧ Below w.heap.size w w' := by
  cases f with
  | true =>
    go_enter Tryz.func39, Tryz.ntmps39
    have tok1 := True.intro
    go_upto_region 1 with (first
      | (have _t := tok1; (with_reducible refine gate_ ?_); refine Rg.box_fresh rfl 53 _ rfl (u64s x.l) rfl ?_; intro X hX hbX hnX; have HX := Lib.hid hX; have HBX := Lib.hid hbX; have HNX := Lib.hid hnX; clear hX hbX hnX; have tok2 := True.intro; clear _t tok1)
      | (have _t := tok2; (with_reducible refine gate_ ?_); refine Rg.box_fresh rfl 53 _ rfl (u64s y.l) rfl ?_; intro X2 hX hbX hnX; have HY2 := Lib.hid hX; have HBY := Lib.hid hbX; have HNY := Lib.hid hnX; clear hX hbX hnX; clear _t tok2))
    obtain ⟨xb, hxb⟩ : ∃ xb, w.heap.size = xb := ⟨_, rfl⟩
    obtain ⟨yb, hyb⟩ : ∃ yb, X.heap.size = yb := ⟨_, rfl⟩
    obtain ⟨rb, hrb⟩ : ∃ rb, X2.heap.size = rb := ⟨_, rfl⟩
    have HR := Lib.hid (show Row (X2.alloc (.cells Z5 53)) xb 53 x.l from ((hxb ▸ HX.out).below HBY.out (hxb ▸ HX.out.lt)).alloc _)
    have HY := Lib.hid (show Row (X2.alloc (.cells Z5 53)) yb 53 y.l from (hyb ▸ HY2.out).alloc _)
    have HZ := Lib.hid (show Rg.Blk (X2.alloc (.cells Z5 53)) rb 53 Z5 from Rg.Blk.newAt hrb.symm _ _)
    have HB := Lib.hid (show Below xb w (X2.alloc (.cells Z5 53)) from hxb ▸ (HBX.out.trans (HBY.out.mono HBX.out.size)).alloc (Nat.le_trans HBX.out.size HBY.out.size) _)
    have HNE := Lib.hid (show xb ≠ yb ∧ xb ≠ rb ∧ xb ≤ rb from by have h1 := HNX.out; have h2 := HNY.out; refine ⟨?_, ?_, ?_⟩ <;> omega)
    have HN2 := Lib.hid (show yb ≠ rb ∧ xb ≤ yb from by have h1 := HNX.out; have h2 := HNY.out; refine ⟨?_, ?_⟩ <;> omega)
    have HXB := Lib.hid hxb
    rw [hxb, hyb, hrb, show (#[.int .u64 0, .int .u64 0, .int .u64 0, .int .u64 0, .int .u64 0] : Array Value) = Z5 from rfl]
    generalize X2.alloc (.cells Z5 53) = Z at *
    clear HX HBX HY2 HBY HNX HNY hxb hyb hrb
    go_wp2_with (first
      | ((with_reducible refine gate_ ?_); refine Cv.load_cells rfl 53 _ rfl xb 0 rfl (u64s x.l) _ (fun j v hv => by rw [Nat.zero_add]; exact Rg.Blk.cell (row_blk HR.out) j hv) Tryz.underlying53 rfl (by rw [u64s_size]; kernel_rfl) ?_; skip)
      | ((with_reducible refine gate_ ?_); refine Cv.store_blk rfl 53 _ _ rfl rb (u64s x.l) Z5 53 rfl rfl HZ.out (by rw [u64s_size]; kernel_rfl) (by rw [u64s_size]; first | rfl | rw [u64s_size]) (u64s_one _) ?_; intro V3 hV hgV; have HZZ := Lib.hid hV; have HBZ := Lib.hid (HB.out.grown hgV (HB.out.size_le HXB.out) (fun j e => by cases e; exact HNE.out.2.2)); clear hV hgV))
    refine bodyPost_ret (v := .agg (u64s (x).l))
      (results_cell_row Tryz.results39 _ _ rb 53 _ (0, 0) _ rfl HZZ.out Tryz.underlying53 rfl (by rw [u64s_size]; kernel_rfl)) rfl ?_
    exact ⟨rfl, HXB.out ▸ HBZ.out⟩
  | false =>
    go_enter Tryz.func39, Tryz.ntmps39
    have tok1 := True.intro
    go_upto_region 1 with (first
      | (have _t := tok1; (with_reducible refine gate_ ?_); refine Rg.box_fresh rfl 53 _ rfl (u64s x.l) rfl ?_; intro X hX hbX hnX; have HX := Lib.hid hX; have HBX := Lib.hid hbX; have HNX := Lib.hid hnX; clear hX hbX hnX; have tok2 := True.intro; clear _t tok1)
      | (have _t := tok2; (with_reducible refine gate_ ?_); refine Rg.box_fresh rfl 53 _ rfl (u64s y.l) rfl ?_; intro X2 hX hbX hnX; have HY2 := Lib.hid hX; have HBY := Lib.hid hbX; have HNY := Lib.hid hnX; clear hX hbX hnX; clear _t tok2))
    obtain ⟨xb, hxb⟩ : ∃ xb, w.heap.size = xb := ⟨_, rfl⟩
    obtain ⟨yb, hyb⟩ : ∃ yb, X.heap.size = yb := ⟨_, rfl⟩
    obtain ⟨rb, hrb⟩ : ∃ rb, X2.heap.size = rb := ⟨_, rfl⟩
    have HR := Lib.hid (show Row (X2.alloc (.cells Z5 53)) xb 53 x.l from ((hxb ▸ HX.out).below HBY.out (hxb ▸ HX.out.lt)).alloc _)
    have HY := Lib.hid (show Row (X2.alloc (.cells Z5 53)) yb 53 y.l from (hyb ▸ HY2.out).alloc _)
    have HZ := Lib.hid (show Rg.Blk (X2.alloc (.cells Z5 53)) rb 53 Z5 from Rg.Blk.newAt hrb.symm _ _)
    have HB := Lib.hid (show Below xb w (X2.alloc (.cells Z5 53)) from hxb ▸ (HBX.out.trans (HBY.out.mono HBX.out.size)).alloc (Nat.le_trans HBX.out.size HBY.out.size) _)
    have HNE := Lib.hid (show xb ≠ yb ∧ xb ≠ rb ∧ xb ≤ rb from by have h1 := HNX.out; have h2 := HNY.out; refine ⟨?_, ?_, ?_⟩ <;> omega)
    have HN2 := Lib.hid (show yb ≠ rb ∧ xb ≤ yb from by have h1 := HNX.out; have h2 := HNY.out; refine ⟨?_, ?_⟩ <;> omega)
    have HXB := Lib.hid hxb
    rw [hxb, hyb, hrb, show (#[.int .u64 0, .int .u64 0, .int .u64 0, .int .u64 0, .int .u64 0] : Array Value) = Z5 from rfl]
    generalize X2.alloc (.cells Z5 53) = Z at *
    clear HX HBX HY2 HBY HNX HNY hxb hyb hrb
    go_wp2_with (first
      | ((with_reducible refine gate_ ?_); refine Cv.load_cells rfl 53 _ rfl yb 0 rfl (u64s y.l) _ (fun j v hv => by rw [Nat.zero_add]; exact Rg.Blk.cell (row_blk HY.out) j hv) Tryz.underlying53 rfl (by rw [u64s_size]; kernel_rfl) ?_; skip)
      | ((with_reducible refine gate_ ?_); refine Cv.store_blk rfl 53 _ _ rfl rb (u64s y.l) Z5 53 rfl rfl HZ.out (by rw [u64s_size]; kernel_rfl) (by rw [u64s_size]; first | rfl | rw [u64s_size]) (u64s_one _) ?_; intro V3 hV hgV; have HZZ := Lib.hid hV; have HBZ := Lib.hid (HB.out.grown hgV (HB.out.size_le HXB.out) (fun j e => by cases e; exact HNE.out.2.2)); clear hV hgV))
    refine bodyPost_ret (v := .agg (u64s (y).l))
      (results_cell_row Tryz.results39 _ _ rb 53 _ (0, 0) _ rfl HZZ.out Tryz.underlying53 rfl (by rw [u64s_size]; kernel_rfl)) rfl ?_
    exact ⟨rfl, HXB.out ▸ HBZ.out⟩
end Go.Proofs.YtfaeigbfnjkojaaGreatDoor.Kx
