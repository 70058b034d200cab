/- The field's Add. -/
import Derived.Test.YtfaeigbfnjkojaaGreatDoorKxB
set_option linter.unusedVariables false
set_option linter.unusedSimpArgs false
namespace Go.Proofs.YtfaeigbfnjkojaaGreatDoor.Kx
open Go.RowKit Go.Proofs.YtfaeigbfnjkojaaGreatDoor.Cl
theorem it_zero {S : Type} (f : Nat → S → S) (s : S) : it f 0 s = s := rfl
theorem it_zip_succ (f : Nat → Nat → Nat) (ys : List Nat) (k : Nat) (l : List Nat) : it (zip2 f ys) (k + 1) l = (it (zip2 f ys) k l).set k (f (nth (it (zip2 f ys) k l) k) (nth ys k)) := rfl
theorem row_other {w w' : World} {b g T : Nat} {xs : List Nat} (h : Row w b T xs) (hg : w.grownBy w' (some g)) (hn : g ≠ b) : Row w' b T xs := blk_other (row_blk h) hg hn
set_option maxRecDepth 20000 in
set_option maxHeartbeats 2000000 in
theorem Add_any (w : World) (x y : E) : Calls Tryz.prog 40 #[.agg (u64s x.l), .agg (u64s y.l)] w fun e w' => e = .returned (.agg (u64s (add x y).l)) ∧ Below w.heap.size w w' := by
  go_enter Tryz.func40, Tryz.ntmps40
  have tok1 := True.intro
  go_upto_region 1 with (first
    | (have _t := tok1; (with_reducible refine gate_ ?_); refine Rg.box_fresh rfl 53 _ rfl (u64s x.l) rfl ?_; intro X hX hbX hnX; have HX := Lib.hid hX; have HBX := Lib.hid hbX; have HNX := Lib.hid hnX; clear hX hbX hnX; have tok2 := True.intro; clear _t tok1)
    | (have _t := tok2; (with_reducible refine gate_ ?_); refine Rg.box_fresh rfl 53 _ rfl (u64s y.l) rfl ?_; intro X2 hX hbX hnX; have HY2 := Lib.hid hX; have HBY := Lib.hid hbX; have HNY := Lib.hid hnX; clear hX hbX hnX; clear _t tok2))
  obtain ⟨xb, hxb⟩ : ∃ xb, w.heap.size = xb := ⟨_, rfl⟩
  obtain ⟨yb, hyb⟩ : ∃ yb, X.heap.size = yb := ⟨_, rfl⟩
  obtain ⟨rb, hrb⟩ : ∃ rb, X2.heap.size = rb := ⟨_, rfl⟩
  have HR := Lib.hid (show Row (X2.alloc (.cells Z5 53)) xb 53 x.l from ((hxb ▸ HX.out).below HBY.out (hxb ▸ HX.out.lt)).alloc _)
  have HY := Lib.hid (show Row (X2.alloc (.cells Z5 53)) yb 53 y.l from (hyb ▸ HY2.out).alloc _)
  have HZ := Lib.hid (show Rg.Blk (X2.alloc (.cells Z5 53)) rb 53 Z5 from Rg.Blk.newAt hrb.symm _ _)
  have HB := Lib.hid (show Below xb w (X2.alloc (.cells Z5 53)) from hxb ▸ (HBX.out.trans (HBY.out.mono HBX.out.size)).alloc (Nat.le_trans HBX.out.size HBY.out.size) _)
  have HNE := Lib.hid (show xb ≠ yb ∧ xb ≠ rb ∧ xb ≤ rb from by have h1 := HNX.out; have h2 := HNY.out; refine ⟨?_, ?_, ?_⟩ <;> omega)
  have HN2 := Lib.hid (show yb ≠ rb ∧ xb ≤ yb from by have h1 := HNX.out; have h2 := HNY.out; refine ⟨?_, ?_⟩ <;> omega)
  have HXB := Lib.hid hxb
  rw [hxb, hyb, hrb, show (#[.int .u64 0, .int .u64 0, .int .u64 0, .int .u64 0, .int .u64 0] : Array Value) = Z5 from rfl]
  generalize X2.alloc (.cells Z5 53) = Z at *
  clear HX HBX HY2 HBY HNX HNY hxb hyb hrb
  go_upto_region 2 with fail
  go_loopw [6] (fun i wr => ∃ k : Nat, k ≤ 5 ∧ i = .int .i64 k ∧ Row wr xb 53 (it (zip2 addF y.l) k x.l) ∧ Row wr yb 53 y.l ∧ Rg.Blk wr rb 53 Z5 ∧ Below xb w wr) (fun i _ => 5 - (intOf i).toNat)
  case atStart => exact ⟨0, Nat.zero_le _, rfl, by rw [it_zero]; exact HR.out, HY.out, HZ.out, HB.out⟩
  case round =>
    obtain ⟨k, hk, rfl, hr, hy, hz, hb⟩ := hrel
    clear HR HY HZ HB
    have HR := Lib.hid hr
    have HY := Lib.hid hy
    have HZ := Lib.hid hz
    have HB := Lib.hid hb
    have HL := Lib.hid (show (it (zip2 addF y.l) k x.l).length = 5 by rw [it_zip_len]; rfl)
    clear hr hy hz hb
    by_cases hk5 : k < 5
    · have hd : decide (k < 5) = true := by simp; exact hk5
      have hki : (k : Int) < 5 := by omega
      have hk0 : (0 : Int) ≤ k := by omega
      have HLK := Lib.hid (show k < (it (zip2 addF y.l) k x.l).length by rw [HL.out]; exact hk5)
      have HLY := Lib.hid (show k < (y.l).length from hk5)
      have hst := it_zip_succ addF y.l k x.l
      obtain ⟨n1, hn1⟩ : ∃ n1, nth (it (zip2 addF y.l) k x.l) k = n1 := ⟨_, rfl⟩
      obtain ⟨n2, hn2⟩ : ∃ n2, nth y.l k = n2 := ⟨_, rfl⟩
      have e3 : IntKind.u64.wrap ((n1 : Int) + (n2 : Int)) = ((addF n1 n2 : Nat) : Int) := wrap_add n1 n2
      rw [hn1, hn2] at hst
      obtain ⟨v1, hv1⟩ : ∃ v1, addF n1 n2 = v1 := ⟨_, rfl⟩
      rw [hv1] at hst e3
      have HST := Lib.hid hst
      have HN1 := Lib.hid hn1
      have HN2 := Lib.hid hn2
      clear hst hn1 hn2 hv1
      go_upto_region 4 with fail
      refine RT.start (fun W => Below wr.heap.size wr W) 11 1 (by kernel_rfl) (by decide) rfl (by kernel_rfl) (by kernel_rfl) (Below.drew (Below.refl _ _)) ?_
      refine' RT.takeV (i := 0) (v := _) rfl (by kernel_rfl) (by kernel_rfl) (by kernel_rfl) (by decide) (fun _ _ _ h => h) (by rfl) ?hk1 ?_
      case hk1 => (intro W hSW; go_simp; try with_reducible rfl)
      (try simp only [Act.put, List.setIfInBounds_toArray, List.set_cons_zero, List.set_cons_succ])
      refine' RT.takeV (i := 1) (v := _) rfl (by kernel_rfl) (by kernel_rfl) (by kernel_rfl) (by decide) (fun _ _ _ h => h) (by rfl) ?hk2 ?_
      case hk2 => (intro W hSW; go_simp; try with_reducible rfl)
      (try simp only [Act.put, List.setIfInBounds_toArray, List.set_cons_zero, List.set_cons_succ])
      refine' RT.takeV (i := 2) (v := _) rfl (by kernel_rfl) (by kernel_rfl) (by kernel_rfl) (by decide) (fun _ _ _ h => h) (by rfl) ?hk3 ?_
      case hk3 => (intro W hSW; go_simp; try with_reducible rfl)
      (try simp only [Act.put, List.setIfInBounds_toArray, List.set_cons_zero, List.set_cons_succ])
      refine' RT.takeV (i := 3) (v := _) rfl (by kernel_rfl) (by kernel_rfl) (by kernel_rfl) (by decide) (fun _ _ _ h => h) (by rfl) ?hk4 ?_
      case hk4 => (intro W hSW; have k1 := (HR.out.below hSW HR.out.lt).cell k HLK.out; rw [HN1.out] at k1; go_simp; try with_reducible rfl)
      (try simp only [Act.put, List.setIfInBounds_toArray, List.set_cons_zero, List.set_cons_succ])
      refine' RT.takeV (i := 4) (v := _) rfl (by kernel_rfl) (by kernel_rfl) (by kernel_rfl) (by decide) (fun _ _ _ h => h) (by rfl) ?hk5 ?_
      case hk5 => (intro W hSW; go_simp; try with_reducible rfl)
      (try simp only [Act.put, List.setIfInBounds_toArray, List.set_cons_zero, List.set_cons_succ])
      refine' RT.takeV (i := 5) (v := _) rfl (by kernel_rfl) (by kernel_rfl) (by kernel_rfl) (by decide) (fun _ _ _ h => h) (by rfl) ?hk6 ?_
      case hk6 => (intro W hSW; go_simp; try with_reducible rfl)
      (try simp only [Act.put, List.setIfInBounds_toArray, List.set_cons_zero, List.set_cons_succ])
      refine' RT.takeV (i := 6) (v := _) rfl (by kernel_rfl) (by kernel_rfl) (by kernel_rfl) (by decide) (fun _ _ _ h => h) (by rfl) ?hk7 ?_
      case hk7 => (intro W hSW; go_simp; try with_reducible rfl)
      (try simp only [Act.put, List.setIfInBounds_toArray, List.set_cons_zero, List.set_cons_succ])
      refine' RT.takeV (i := 7) (v := _) rfl (by kernel_rfl) (by kernel_rfl) (by kernel_rfl) (by decide) (fun _ _ _ h => h) (by rfl) ?hk8 ?_
      case hk8 => (intro W hSW; have k2 := (HY.out.below hSW HY.out.lt).cell k HLY.out; rw [HN2.out] at k2; go_simp; try with_reducible rfl)
      (try simp only [Act.put, List.setIfInBounds_toArray, List.set_cons_zero, List.set_cons_succ])
      refine' RT.takeV (i := 8) (v := _) rfl (by kernel_rfl) (by kernel_rfl) (by kernel_rfl) (by decide) (fun _ _ _ h => h) (by rfl) ?hk9 ?_
      case hk9 => (intro W hSW; have e3x := e3; go_simp; try with_reducible rfl)
      (try simp only [Act.put, List.setIfInBounds_toArray, List.set_cons_zero, List.set_cons_succ])
      refine' RT.takeV (i := 9) (v := _) rfl (by kernel_rfl) (by kernel_rfl) (by kernel_rfl) (by decide) (fun _ _ _ h => h) (by rfl) ?hk10 ?_
      case hk10 => (intro W hSW; go_simp; try with_reducible rfl)
      (try simp only [Act.put, List.setIfInBounds_toArray, List.set_cons_zero, List.set_cons_succ])
      refine' RT.takeV (i := 10) (v := _) rfl (by kernel_rfl) (by kernel_rfl) (by kernel_rfl) (by decide) (fun _ _ _ h => h) (by rfl) ?hk11 ?_
      case hk11 => (intro W hSW; go_simp; try with_reducible rfl)
      (try simp only [Act.put, List.setIfInBounds_toArray, List.set_cons_zero, List.set_cons_succ])
      refine RT.tail (by kernel_rfl) rfl rfl ?_
      intro wd hlwd hswd
      have hlx : Below wr.heap.size wr wd := (Below.drew (Below.refl _ _)).trans hlwd
      have HRd := Lib.hid (HR.out.below hlx HR.out.lt)
      have HYd := Lib.hid (HY.out.below hlx HY.out.lt)
      have HZd := Lib.hid (HZ.out.below hlx HZ.out.lt)
      have HBd := Lib.hid (HB.out.trans (hlx.mono (HB.out.size_le HXB.out)))
      clear hlwd hswd hlx
      refine store_cell rfl 50 _ _ rfl (b := xb) (j := k) (v := v1) rfl rfl Tryz.underlying50 (by kernel_rfl) HRd.out HLK.out ?_
      intro V hV hgV
      have HRV := Lib.hid hV
      have HYV := Lib.hid (row_other HYd.out hgV HNE.out.1)
      have HZV := Lib.hid (blk_other HZd.out hgV HNE.out.2.1)
      have HBV := Lib.hid (HBd.out.grown hgV (HBd.out.size_le HXB.out) (fun j e => by cases e; exact Nat.le_refl _))
      clear hV hgV
      go_wp2_with fail
      go_roundw
      case rel =>
        have REL := Lib.hid (show ∃ k' : Nat, k' ≤ 5 ∧ Value.int .i64 ((k : Int) + 1) = .int .i64 k' ∧ Row V xb 53 (it (zip2 addF y.l) k' x.l) ∧ Row V yb 53 y.l ∧ Rg.Blk V rb 53 Z5 ∧ Below xb w V from ⟨k + 1, hk5, rfl, by rw [HST.out]; exact HRV.out, HYV.out, HZV.out, HBV.out⟩)
        first
          | exact REL.out
          | ((repeat apply Exists.intro); refine ⟨?_, rfl⟩; exact REL.out)
      case measure => (first | (simp [intOf]; done) | (simp [intOf]; omega))
    · obtain rfl : k = 5 := by omega
      have hd : decide ((5 : Nat) < 5) = false := by simp
      have HRC := Lib.hid (show Row wr xb 53 (add1 x y).l from by rw [← add_it x y]; exact HR.out)
      go_wp2_with (first
        | ((with_reducible refine gate_ ?_); refine Cv.load_cells rfl 53 _ rfl xb 0 rfl (u64s (add1 x y).l) _ (fun j v hv => by rw [Nat.zero_add]; exact Rg.Blk.cell (row_blk HRC.out) j hv) Tryz.underlying53 rfl (by rw [u64s_size]; kernel_rfl) ?_; skip)
        | (go_at_call 46; refine (carry_any _ (add1 x y)).mono ?_; rintro e w9 ⟨rfl, hb9⟩; skip; have HZ9 := Lib.hid (HZ.out.below hb9 HZ.out.lt); have HB9 := Lib.hid (HB.out.trans (hb9.mono (HB.out.size_le HXB.out))); clear hb9)
        | ((with_reducible refine gate_ ?_); refine Cv.store_blk rfl 53 _ _ rfl rb (u64s (carry (add1 x y)).l) Z5 53 rfl rfl HZ9.out (by rw [u64s_size]; kernel_rfl) (by rw [u64s_size]; rfl) (u64s_one _) ?_; intro V3 hV hgV; have HZZ := Lib.hid hV; have HBZ := Lib.hid (HB9.out.grown hgV (HB9.out.size_le HXB.out) (fun j e => by cases e; exact HNE.out.2.2)); clear hV hgV))
      refine bodyPost_ret (v := .agg (u64s (carry (add1 x y)).l))
        (results_cell_row Tryz.results40 _ _ rb 53 _ (0, 0) _ rfl HZZ.out Tryz.underlying53 rfl (by rw [u64s_size]; kernel_rfl)) rfl ?_
      exact ⟨rfl, HXB.out ▸ HBZ.out⟩
end Go.Proofs.YtfaeigbfnjkojaaGreatDoor.Kx
