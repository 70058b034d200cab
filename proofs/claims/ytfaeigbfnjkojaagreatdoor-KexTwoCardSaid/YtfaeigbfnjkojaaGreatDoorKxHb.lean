/- Few. -/
import Derived.Test.YtfaeigbfnjkojaaGreatDoorKxHa
set_option linter.unusedVariables false
set_option linter.unusedSimpArgs false
namespace Go.Proofs.YtfaeigbfnjkojaaGreatDoor.Kx
open Go.RowKit Go.Proofs.YtfaeigbfnjkojaaGreatDoor.Cl
/-- behind k rounds -/
def fw (x : Xc) : Nat → Xc
  | 0 => x
  | 1 => { x with a := x.a.extract 0 60, c := x.c.extract 0 100 }
  | _ => { x with a := x.a.extract 0 60, c := x.c.extract 0 100, b := x.b.extract 0 60, d := x.d.extract 0 100 }
set_option maxRecDepth 20000 in
set_option maxHeartbeats 8000000 in
theorem Few_any (w : World) (x : Xc) (p : List UInt8) (hp : p.length = 96) :
    Calls Tryz.prog 14 #[.agg (exV x p)] w fun e w' => e = .returned (.agg (exV x.few p)) ∧ Below w.heap.size w w' := by
  obtain ⟨sa, hsa⟩ : ∃ s, x.a.extract 0 60 = s := ⟨_, rfl⟩
  obtain ⟨sb, hsb⟩ : ∃ s, x.b.extract 0 60 = s := ⟨_, rfl⟩
  obtain ⟨sc, hsc⟩ : ∃ s, x.c.extract 0 100 = s := ⟨_, rfl⟩
  obtain ⟨sd, hsd⟩ : ∃ s, x.d.extract 0 100 = s := ⟨_, rfl⟩
  obtain ⟨sh, hsh⟩ : ∃ s, x.h.extract 0 60 = s := ⟨_, rfl⟩
  have Csa := Lib.hid (fun W => show Calls Tryz.prog 35 #[.string x.a, .int .i64 60] W fun e w' => e = .returned (.string sa) ∧ W = w' from hsa ▸ Wi.Cut_any W x.a 60 (by decide))
  have Csb := Lib.hid (fun W => show Calls Tryz.prog 35 #[.string x.b, .int .i64 60] W fun e w' => e = .returned (.string sb) ∧ W = w' from hsb ▸ Wi.Cut_any W x.b 60 (by decide))
  have Csc := Lib.hid (fun W => show Calls Tryz.prog 35 #[.string x.c, .int .i64 100] W fun e w' => e = .returned (.string sc) ∧ W = w' from hsc ▸ Wi.Cut_any W x.c 100 (by decide))
  have Csd := Lib.hid (fun W => show Calls Tryz.prog 35 #[.string x.d, .int .i64 100] W fun e w' => e = .returned (.string sd) ∧ W = w' from hsd ▸ Wi.Cut_any W x.d 100 (by decide))
  have Csh := Lib.hid (fun W => show Calls Tryz.prog 35 #[.string x.h, .int .i64 60] W fun e w' => e = .returned (.string sh) ∧ W = w' from hsh ▸ Wi.Cut_any W x.h 60 (by decide))
  have HF1 := Lib.hid (show fw x 1 = { { x with a := sa } with c := sc } from by rw [← hsa, ← hsc]; rfl)
  have HF2 := Lib.hid (show fw x 2 = { { fw x 1 with b := sb } with d := sd } from by rw [← hsb, ← hsd]; rfl)
  have HF3 := Lib.hid (show x.few = { fw x 2 with h := sh } from by rw [← hsh]; rfl)
  have HES := Lib.hid (show ∀ y, (exV y p).size = 101 from fun y => by rw [exV_size, hp])
  have HZS := Lib.hid (show (Tryz.zeroCells40).size = 101 from by kernel_rfl)
  clear hsa hsb hsc hsd hsh hp
  go_enter Tryz.func14, Tryz.ntmps14
  go_upto_region 1 with ((with_reducible refine gate_ ?_); refine Rg.box_fresh rfl 40 _ rfl (exV x p) rfl ?_; intro X hX hbX hnX; have HX := Lib.hid hX; have HBX := Lib.hid hbX; have HNX := Lib.hid hnX; clear hX hbX hnX)
  obtain ⟨xb, hxb⟩ : ∃ n, w.heap.size = n := ⟨_, rfl⟩
  obtain ⟨rb, hrb⟩ : ∃ n, X.heap.size = n := ⟨_, rfl⟩
  have HO := Lib.hid (show Rg.Blk (X.alloc (.cells Tryz.zeroCells40 40)) xb 40 (exV (fw x 0) p) from (hxb ▸ HX.out).alloc _)
  have HZ := Lib.hid (show Rg.Blk (X.alloc (.cells Tryz.zeroCells40 40)) rb 40 Tryz.zeroCells40 from Rg.Blk.newAt hrb.symm _ _)
  have HB := Lib.hid (show Below xb w (X.alloc (.cells Tryz.zeroCells40 40)) from hxb ▸ HBX.out.alloc HBX.out.size _)
  have HN := Lib.hid (show xb ≠ rb ∧ xb ≤ rb from by have h1 := HNX.out; constructor <;> omega)
  have HKB := Lib.hid hxb
  try rw [hxb]
  try rw [hrb]
  generalize X.alloc (.cells Tryz.zeroCells40 40) = Y at *
  clear HX HBX HNX hxb hrb
  go_upto_region 2 with fail
  go_loopw [4] (fun ii wr => ∃ k : Nat, k ≤ 2 ∧ ii = .int .i64 k ∧ Rg.Blk wr xb 40 (exV (fw x k) p) ∧ Rg.Blk wr rb 40 Tryz.zeroCells40 ∧ Below xb w wr) (fun ii _ => 2 - (intOf ii).toNat)
  case atStart => exact ⟨0, Nat.zero_le _, rfl, HO.out, HZ.out, HB.out⟩
  case round =>
    obtain ⟨k, hk, rfl, ho, h1, h2⟩ := hrel
    clear HO HZ HB
    have HZ := Lib.hid h1
    have HB := Lib.hid h2
    clear h1 h2
    have hk3 : k = 0 ∨ k = 1 ∨ k = 2 := by omega
    clear hk
    rcases hk3 with rfl | rfl | rfl
    · skip
      have HX := Lib.hid (show Rg.Blk wr xb 40 (exV x p) from ho)
      clear ho
      go_upto_region 4 with fail
      refine RL.start (fun W => Sp.Upd wr W [xb]) (by kernel_rfl) (Sp.Upd.trans (Sp.Upd.refl _ _) (Sp.Upd.of_below (Below.drew (Below.refl _ _))) (by simp)) ?_
      refine' RL.takeV (i := 0) (v := _) rfl (by kernel_rfl) (by kernel_rfl) (by kernel_rfl) (fun _ _ _ h => h) (by rfl) ?hk21 ?_
      case hk21 => (intro W hSW; go_simp; try with_reducible rfl)
      (try simp only [Act.put, List.setIfInBounds_toArray, List.set_cons_zero, List.set_cons_succ])
      refine' RL.takeV (i := 1) (v := _) rfl (by kernel_rfl) (by kernel_rfl) (by kernel_rfl) (fun _ _ _ h => h) (by rfl) ?hk22 ?_
      case hk22 => (intro W hSW; go_simp; try with_reducible rfl)
      (try simp only [Act.put, List.setIfInBounds_toArray, List.set_cons_zero, List.set_cons_succ])
      refine' RL.takeV (i := 2) (v := _) rfl (by kernel_rfl) (by kernel_rfl) (by kernel_rfl) (fun _ _ _ h => h) (by rfl) ?hk23 ?_
      case hk23 => (intro W hSW; go_simp; try with_reducible rfl)
      (try simp only [Act.put, List.setIfInBounds_toArray, List.set_cons_zero, List.set_cons_succ])
      refine' RL.takeV (i := 3) (v := _) rfl (by kernel_rfl) (by kernel_rfl) (by kernel_rfl) (fun _ _ _ h => h) (by rfl) ?hk24 ?_
      case hk24 => (intro W hSW; go_simp; try with_reducible rfl)
      (try simp only [Act.put, List.setIfInBounds_toArray, List.set_cons_zero, List.set_cons_succ])
      refine' RL.takeV (i := 4) (v := _) rfl (by kernel_rfl) (by kernel_rfl) (by kernel_rfl) (fun _ _ _ h => h) (by rfl) ?hk25 ?_
      case hk25 => (intro W hSW; go_simp; try with_reducible rfl)
      (try simp only [Act.put, List.setIfInBounds_toArray, List.set_cons_zero, List.set_cons_succ])
      refine' RL.takeV (i := 7) (v := _) rfl (by kernel_rfl) (by kernel_rfl) (by kernel_rfl) (fun _ _ _ h => h) (by rfl) ?hk26 ?_
      case hk26 => (intro W hSW; go_simp; try with_reducible rfl)
      (try simp only [Act.put, List.setIfInBounds_toArray, List.set_cons_zero, List.set_cons_succ])
      refine' RL.takeV (i := 8) (v := _) rfl (by kernel_rfl) (by kernel_rfl) (by kernel_rfl) (fun _ _ _ h => h) (by rfl) ?hk27 ?_
      case hk27 => (intro W hSW; go_simp; try with_reducible rfl)
      (try simp only [Act.put, List.setIfInBounds_toArray, List.set_cons_zero, List.set_cons_succ])
      refine' RL.takeV (i := 9) (v := _) rfl (by kernel_rfl) (by kernel_rfl) (by kernel_rfl) (fun _ _ _ h => h) (by rfl) ?hk28 ?_
      case hk28 => (intro W hSW; go_simp; try with_reducible rfl)
      (try simp only [Act.put, List.setIfInBounds_toArray, List.set_cons_zero, List.set_cons_succ])
      refine' RL.takeV (i := 12) (v := _) rfl (by kernel_rfl) (by kernel_rfl) (by kernel_rfl) (fun _ _ _ h => h) (by rfl) ?hk29 ?_
      case hk29 => (intro W hSW; go_simp; try with_reducible rfl)
      (try simp only [Act.put, List.setIfInBounds_toArray, List.set_cons_zero, List.set_cons_succ])
      refine' RL.takeV (i := 15) (v := _) rfl (by kernel_rfl) (by kernel_rfl) (by kernel_rfl) (fun _ _ _ h => h) (by rfl) ?hk30 ?_
      case hk30 => (intro W hSW; go_simp; try with_reducible rfl)
      (try simp only [Act.put, List.setIfInBounds_toArray, List.set_cons_zero, List.set_cons_succ])
      refine RL.step2 (i := 5) (j := 10) rfl rfl (by kernel_rfl) (by rfl) (by rfl) (fun wa hlwa hswa K hK => ?_) (fun wa hlwa hswa K hK => ?_)
      · skip
        have hx0 := (HX.out.below (Below.drew (Below.refl _ _)) HX.out.lt)
        have hx1 := hx0.below hlwa (by have := hx0.lt; simpa using this)
        have c1 := hx1.cell 0 (v := .string x.a) (exV_0 _ _)
        go_simp
        refine hK.out _ _ hswa ?_
        clear hK c1
        (try simp only [Act.put, List.setIfInBounds_toArray, List.set_cons_zero, List.set_cons_succ])
        refine' RL.takeC (i := 6) (v := .string sa) 35 #[.string x.a, .int .i64 60] rfl (by kernel_rfl) (by kernel_rfl) (by kernel_rfl) (fun _ _ _ h => h) (by rfl) ?hk31 ?hc31 ?_
        case hk31 => (intro W; go_simp; try with_reducible rfl)
        case hc31 => (intro W hSW; exact (Csa.out W).mono (fun e w9 h9 => ⟨h9.1, h9.2 ▸ RL.Lat.refl W, h9.2 ▸ hSW⟩))
        (try simp only [Act.put, List.setIfInBounds_toArray, List.set_cons_zero, List.set_cons_succ])
        refine RL.stepK (i := 10) rfl (by kernel_rfl) (by rfl) (fun wb hlwb hswb K hK => ?_)
        have hx2 := hx1.below hlwb (by have := hx1.lt; simpa using this)
        have c1 := hx2.cell 2 (v := .string x.c) (exV_2 _ _)
        go_simp
        refine hK.out _ _ hswb ?_
        clear hK c1
        (try simp only [Act.put, List.setIfInBounds_toArray, List.set_cons_zero, List.set_cons_succ])
        refine' RL.takeC (i := 11) (v := .string sc) 35 #[.string x.c, .int .i64 100] rfl (by kernel_rfl) (by kernel_rfl) (by kernel_rfl) (fun _ _ _ h => h) (by rfl) ?hk32 ?hc32 ?_
        case hk32 => (intro W; go_simp; try with_reducible rfl)
        case hc32 => (intro W hSW; exact (Csc.out W).mono (fun e w9 h9 => ⟨h9.1, h9.2 ▸ RL.Lat.refl W, h9.2 ▸ hSW⟩))
        (try simp only [Act.put, List.setIfInBounds_toArray, List.set_cons_zero, List.set_cons_succ])
        refine' RL.takeV (i := 13) (v := _) rfl (by kernel_rfl) (by kernel_rfl) (by kernel_rfl) (fun _ _ _ h => h) (by rfl) ?hk33 ?_
        case hk33 => (intro W hSW; go_simp; try with_reducible rfl)
        (try simp only [Act.put, List.setIfInBounds_toArray, List.set_cons_zero, List.set_cons_succ])
        refine RL.stepK (i := 14) rfl (by kernel_rfl) (by rfl) (fun wc hlwc hswc K hK => ?_)
        have hx3 := hx2.below hlwc hx2.lt
        refine store_str_op 9 _ _ rfl xb 0 sa _ 40 rfl rfl Tryz.underlying9 (by kernel_rfl) hx3 (exV_0 _ _) ?_
        intro Y hY hgY
        rw [exV_s0] at hY
        have hsY : Sp.Upd wr Y [xb] := Sp.Upd.trans hswc (Sp.Upd.of_grown1 hgY) (fun k hk => .inl hk)
        refine hK.out _ _ hsY ?_
        clear hK
        (try simp only [Act.put, List.setIfInBounds_toArray, List.set_cons_zero, List.set_cons_succ])
        refine' RL.takeV (i := 16) (v := _) rfl (by kernel_rfl) (by kernel_rfl) (by kernel_rfl) (fun _ _ _ h => h) (by rfl) ?hk34 ?_
        case hk34 => (intro W hSW; go_simp; try with_reducible rfl)
        (try simp only [Act.put, List.setIfInBounds_toArray, List.set_cons_zero, List.set_cons_succ])
        refine RL.stepK (i := 17) rfl (by kernel_rfl) (by rfl) (fun wd hlwd hswd K hK => ?_)
        have hx4 := hY.below hlwd hY.lt
        refine store_str_op 9 _ _ rfl xb 2 sc _ 40 rfl rfl Tryz.underlying9 (by kernel_rfl) hx4 (exV_2 _ _) ?_
        intro Y2 hY2 hgY2
        rw [exV_s2] at hY2
        have hsY2 : Sp.Upd wr Y2 [xb] := Sp.Upd.trans hswd (Sp.Upd.of_grown1 hgY2) (fun k hk => .inl hk)
        refine hK.out _ _ hsY2 ?_
        clear hK
        (try simp only [Act.put, List.setIfInBounds_toArray, List.set_cons_zero, List.set_cons_succ])
        refine RL.done (by kernel_rfl) (fun V hlV hsV => ?_)
        have HXV := Lib.hid (Rg.Blk.below hY2 hlV hY2.lt)
        have HU := Lib.hid (show Sp.Upd wr V [xb] from hsV)
        clear hY2 hlV hsV hsY2 hgY2 hx4 hY hsY hgY hx3 hlwc hswc hlwd hswd
        have HB2 := Lib.hid (below_upd HB.out HU.out (by intro z hz; have := HN.out; simp at hz; omega) (HB.out.size_le HKB.out))
        have HZ2 := Lib.hid (upd_blk HU.out HZ.out (by have := HN.out; simp; omega))
        go_wp2_with fail
        go_roundw
        case rel =>
          have REL := Lib.hid (show ∃ k' : Nat, k' ≤ 2 ∧ Value.int .i64 1 = .int .i64 k' ∧ Rg.Blk V xb 40 (exV (fw x k') p) ∧ Rg.Blk V rb 40 Tryz.zeroCells40 ∧ Below xb w V from ⟨1, by decide, rfl, by rw [show fw x 1 = { { x with a := sa } with c := sc } from HF1.out]; exact HXV.out, HZ2.out, HB2.out⟩)
          first
            | exact REL.out
            | ((repeat apply Exists.intro); refine ⟨?_, rfl⟩; exact REL.out)
        case measure => (first | (simp [intOf]; done) | (simp [intOf]; omega))
      · skip
        have hx0 := (HX.out.below (Below.drew (Below.refl _ _)) HX.out.lt)
        have hx1 := hx0.below hlwa (by have := hx0.lt; simpa using this)
        have c1 := hx1.cell 2 (v := .string x.c) (exV_2 _ _)
        go_simp
        refine hK.out _ _ hswa ?_
        clear hK c1
        (try simp only [Act.put, List.setIfInBounds_toArray, List.set_cons_zero, List.set_cons_succ])
        refine RL.stepK (i := 5) rfl (by kernel_rfl) (by rfl) (fun wb hlwb hswb K hK => ?_)
        have hx2 := hx1.below hlwb (by have := hx1.lt; simpa using this)
        have c1 := hx2.cell 0 (v := .string x.a) (exV_0 _ _)
        go_simp
        refine hK.out _ _ hswb ?_
        clear hK c1
        (try simp only [Act.put, List.setIfInBounds_toArray, List.set_cons_zero, List.set_cons_succ])
        refine' RL.takeC (i := 6) (v := .string sa) 35 #[.string x.a, .int .i64 60] rfl (by kernel_rfl) (by kernel_rfl) (by kernel_rfl) (fun _ _ _ h => h) (by rfl) ?hk35 ?hc35 ?_
        case hk35 => (intro W; go_simp; try with_reducible rfl)
        case hc35 => (intro W hSW; exact (Csa.out W).mono (fun e w9 h9 => ⟨h9.1, h9.2 ▸ RL.Lat.refl W, h9.2 ▸ hSW⟩))
        (try simp only [Act.put, List.setIfInBounds_toArray, List.set_cons_zero, List.set_cons_succ])
        refine' RL.takeC (i := 11) (v := .string sc) 35 #[.string x.c, .int .i64 100] rfl (by kernel_rfl) (by kernel_rfl) (by kernel_rfl) (fun _ _ _ h => h) (by rfl) ?hk36 ?hc36 ?_
        case hk36 => (intro W; go_simp; try with_reducible rfl)
        case hc36 => (intro W hSW; exact (Csc.out W).mono (fun e w9 h9 => ⟨h9.1, h9.2 ▸ RL.Lat.refl W, h9.2 ▸ hSW⟩))
        (try simp only [Act.put, List.setIfInBounds_toArray, List.set_cons_zero, List.set_cons_succ])
        refine' RL.takeV (i := 13) (v := _) rfl (by kernel_rfl) (by kernel_rfl) (by kernel_rfl) (fun _ _ _ h => h) (by rfl) ?hk37 ?_
        case hk37 => (intro W hSW; go_simp; try with_reducible rfl)
        (try simp only [Act.put, List.setIfInBounds_toArray, List.set_cons_zero, List.set_cons_succ])
        refine RL.stepK (i := 14) rfl (by kernel_rfl) (by rfl) (fun wc hlwc hswc K hK => ?_)
        have hx3 := hx2.below hlwc hx2.lt
        refine store_str_op 9 _ _ rfl xb 0 sa _ 40 rfl rfl Tryz.underlying9 (by kernel_rfl) hx3 (exV_0 _ _) ?_
        intro Y hY hgY
        rw [exV_s0] at hY
        have hsY : Sp.Upd wr Y [xb] := Sp.Upd.trans hswc (Sp.Upd.of_grown1 hgY) (fun k hk => .inl hk)
        refine hK.out _ _ hsY ?_
        clear hK
        (try simp only [Act.put, List.setIfInBounds_toArray, List.set_cons_zero, List.set_cons_succ])
        refine' RL.takeV (i := 16) (v := _) rfl (by kernel_rfl) (by kernel_rfl) (by kernel_rfl) (fun _ _ _ h => h) (by rfl) ?hk38 ?_
        case hk38 => (intro W hSW; go_simp; try with_reducible rfl)
        (try simp only [Act.put, List.setIfInBounds_toArray, List.set_cons_zero, List.set_cons_succ])
        refine RL.stepK (i := 17) rfl (by kernel_rfl) (by rfl) (fun wd hlwd hswd K hK => ?_)
        have hx4 := hY.below hlwd hY.lt
        refine store_str_op 9 _ _ rfl xb 2 sc _ 40 rfl rfl Tryz.underlying9 (by kernel_rfl) hx4 (exV_2 _ _) ?_
        intro Y2 hY2 hgY2
        rw [exV_s2] at hY2
        have hsY2 : Sp.Upd wr Y2 [xb] := Sp.Upd.trans hswd (Sp.Upd.of_grown1 hgY2) (fun k hk => .inl hk)
        refine hK.out _ _ hsY2 ?_
        clear hK
        (try simp only [Act.put, List.setIfInBounds_toArray, List.set_cons_zero, List.set_cons_succ])
        refine RL.done (by kernel_rfl) (fun V hlV hsV => ?_)
        have HXV := Lib.hid (Rg.Blk.below hY2 hlV hY2.lt)
        have HU := Lib.hid (show Sp.Upd wr V [xb] from hsV)
        clear hY2 hlV hsV hsY2 hgY2 hx4 hY hsY hgY hx3 hlwc hswc hlwd hswd
        have HB2 := Lib.hid (below_upd HB.out HU.out (by intro z hz; have := HN.out; simp at hz; omega) (HB.out.size_le HKB.out))
        have HZ2 := Lib.hid (upd_blk HU.out HZ.out (by have := HN.out; simp; omega))
        go_wp2_with fail
        go_roundw
        case rel =>
          have REL := Lib.hid (show ∃ k' : Nat, k' ≤ 2 ∧ Value.int .i64 1 = .int .i64 k' ∧ Rg.Blk V xb 40 (exV (fw x k') p) ∧ Rg.Blk V rb 40 Tryz.zeroCells40 ∧ Below xb w V from ⟨1, by decide, rfl, by rw [show fw x 1 = { { x with a := sa } with c := sc } from HF1.out]; exact HXV.out, HZ2.out, HB2.out⟩)
          first
            | exact REL.out
            | ((repeat apply Exists.intro); refine ⟨?_, rfl⟩; exact REL.out)
        case measure => (first | (simp [intOf]; done) | (simp [intOf]; omega))
    · skip
      have HX := Lib.hid (show Rg.Blk wr xb 40 (exV (fw x 1) p) from ho)
      have e1 : (fw x 1).b = x.b := rfl
      have e2 : (fw x 1).d = x.d := rfl
      clear ho
      go_upto_region 4 with fail
      refine RL.start (fun W => Sp.Upd wr W [xb]) (by kernel_rfl) (Sp.Upd.trans (Sp.Upd.refl _ _) (Sp.Upd.of_below (Below.drew (Below.refl _ _))) (by simp)) ?_
      refine' RL.takeV (i := 0) (v := _) rfl (by kernel_rfl) (by kernel_rfl) (by kernel_rfl) (fun _ _ _ h => h) (by rfl) ?hk39 ?_
      case hk39 => (intro W hSW; go_simp; try with_reducible rfl)
      (try simp only [Act.put, List.setIfInBounds_toArray, List.set_cons_zero, List.set_cons_succ])
      refine' RL.takeV (i := 1) (v := _) rfl (by kernel_rfl) (by kernel_rfl) (by kernel_rfl) (fun _ _ _ h => h) (by rfl) ?hk40 ?_
      case hk40 => (intro W hSW; go_simp; try with_reducible rfl)
      (try simp only [Act.put, List.setIfInBounds_toArray, List.set_cons_zero, List.set_cons_succ])
      refine' RL.takeV (i := 2) (v := _) rfl (by kernel_rfl) (by kernel_rfl) (by kernel_rfl) (fun _ _ _ h => h) (by rfl) ?hk41 ?_
      case hk41 => (intro W hSW; go_simp; try with_reducible rfl)
      (try simp only [Act.put, List.setIfInBounds_toArray, List.set_cons_zero, List.set_cons_succ])
      refine' RL.takeV (i := 3) (v := _) rfl (by kernel_rfl) (by kernel_rfl) (by kernel_rfl) (fun _ _ _ h => h) (by rfl) ?hk42 ?_
      case hk42 => (intro W hSW; go_simp; try with_reducible rfl)
      (try simp only [Act.put, List.setIfInBounds_toArray, List.set_cons_zero, List.set_cons_succ])
      refine' RL.takeV (i := 4) (v := _) rfl (by kernel_rfl) (by kernel_rfl) (by kernel_rfl) (fun _ _ _ h => h) (by rfl) ?hk43 ?_
      case hk43 => (intro W hSW; go_simp; try with_reducible rfl)
      (try simp only [Act.put, List.setIfInBounds_toArray, List.set_cons_zero, List.set_cons_succ])
      refine' RL.takeV (i := 7) (v := _) rfl (by kernel_rfl) (by kernel_rfl) (by kernel_rfl) (fun _ _ _ h => h) (by rfl) ?hk44 ?_
      case hk44 => (intro W hSW; go_simp; try with_reducible rfl)
      (try simp only [Act.put, List.setIfInBounds_toArray, List.set_cons_zero, List.set_cons_succ])
      refine' RL.takeV (i := 8) (v := _) rfl (by kernel_rfl) (by kernel_rfl) (by kernel_rfl) (fun _ _ _ h => h) (by rfl) ?hk45 ?_
      case hk45 => (intro W hSW; go_simp; try with_reducible rfl)
      (try simp only [Act.put, List.setIfInBounds_toArray, List.set_cons_zero, List.set_cons_succ])
      refine' RL.takeV (i := 9) (v := _) rfl (by kernel_rfl) (by kernel_rfl) (by kernel_rfl) (fun _ _ _ h => h) (by rfl) ?hk46 ?_
      case hk46 => (intro W hSW; go_simp; try with_reducible rfl)
      (try simp only [Act.put, List.setIfInBounds_toArray, List.set_cons_zero, List.set_cons_succ])
      refine' RL.takeV (i := 12) (v := _) rfl (by kernel_rfl) (by kernel_rfl) (by kernel_rfl) (fun _ _ _ h => h) (by rfl) ?hk47 ?_
      case hk47 => (intro W hSW; go_simp; try with_reducible rfl)
      (try simp only [Act.put, List.setIfInBounds_toArray, List.set_cons_zero, List.set_cons_succ])
      refine' RL.takeV (i := 15) (v := _) rfl (by kernel_rfl) (by kernel_rfl) (by kernel_rfl) (fun _ _ _ h => h) (by rfl) ?hk48 ?_
      case hk48 => (intro W hSW; go_simp; try with_reducible rfl)
      (try simp only [Act.put, List.setIfInBounds_toArray, List.set_cons_zero, List.set_cons_succ])
      refine RL.step2 (i := 5) (j := 10) rfl rfl (by kernel_rfl) (by rfl) (by rfl) (fun wa hlwa hswa K hK => ?_) (fun wa hlwa hswa K hK => ?_)
      · skip
        have hx0 := (HX.out.below (Below.drew (Below.refl _ _)) HX.out.lt)
        have hx1 := hx0.below hlwa (by have := hx0.lt; simpa using this)
        have c1 := hx1.cell 1 (v := .string x.b) (exV_1 _ _)
        go_simp
        refine hK.out _ _ hswa ?_
        clear hK c1
        (try simp only [Act.put, List.setIfInBounds_toArray, List.set_cons_zero, List.set_cons_succ])
        refine' RL.takeC (i := 6) (v := .string sb) 35 #[.string x.b, .int .i64 60] rfl (by kernel_rfl) (by kernel_rfl) (by kernel_rfl) (fun _ _ _ h => h) (by rfl) ?hk49 ?hc49 ?_
        case hk49 => (intro W; go_simp; try with_reducible rfl)
        case hc49 => (intro W hSW; exact (Csb.out W).mono (fun e w9 h9 => ⟨h9.1, h9.2 ▸ RL.Lat.refl W, h9.2 ▸ hSW⟩))
        (try simp only [Act.put, List.setIfInBounds_toArray, List.set_cons_zero, List.set_cons_succ])
        refine RL.stepK (i := 10) rfl (by kernel_rfl) (by rfl) (fun wb hlwb hswb K hK => ?_)
        have hx2 := hx1.below hlwb (by have := hx1.lt; simpa using this)
        have c1 := hx2.cell 3 (v := .string x.d) (exV_3 _ _)
        go_simp
        refine hK.out _ _ hswb ?_
        clear hK c1
        (try simp only [Act.put, List.setIfInBounds_toArray, List.set_cons_zero, List.set_cons_succ])
        refine' RL.takeC (i := 11) (v := .string sd) 35 #[.string x.d, .int .i64 100] rfl (by kernel_rfl) (by kernel_rfl) (by kernel_rfl) (fun _ _ _ h => h) (by rfl) ?hk50 ?hc50 ?_
        case hk50 => (intro W; go_simp; try with_reducible rfl)
        case hc50 => (intro W hSW; exact (Csd.out W).mono (fun e w9 h9 => ⟨h9.1, h9.2 ▸ RL.Lat.refl W, h9.2 ▸ hSW⟩))
        (try simp only [Act.put, List.setIfInBounds_toArray, List.set_cons_zero, List.set_cons_succ])
        refine' RL.takeV (i := 13) (v := _) rfl (by kernel_rfl) (by kernel_rfl) (by kernel_rfl) (fun _ _ _ h => h) (by rfl) ?hk51 ?_
        case hk51 => (intro W hSW; go_simp; try with_reducible rfl)
        (try simp only [Act.put, List.setIfInBounds_toArray, List.set_cons_zero, List.set_cons_succ])
        refine RL.stepK (i := 14) rfl (by kernel_rfl) (by rfl) (fun wc hlwc hswc K hK => ?_)
        have hx3 := hx2.below hlwc hx2.lt
        refine store_str_op 9 _ _ rfl xb 1 sb _ 40 rfl rfl Tryz.underlying9 (by kernel_rfl) hx3 (exV_1 _ _) ?_
        intro Y hY hgY
        rw [exV_s1] at hY
        have hsY : Sp.Upd wr Y [xb] := Sp.Upd.trans hswc (Sp.Upd.of_grown1 hgY) (fun k hk => .inl hk)
        refine hK.out _ _ hsY ?_
        clear hK
        (try simp only [Act.put, List.setIfInBounds_toArray, List.set_cons_zero, List.set_cons_succ])
        refine' RL.takeV (i := 16) (v := _) rfl (by kernel_rfl) (by kernel_rfl) (by kernel_rfl) (fun _ _ _ h => h) (by rfl) ?hk52 ?_
        case hk52 => (intro W hSW; go_simp; try with_reducible rfl)
        (try simp only [Act.put, List.setIfInBounds_toArray, List.set_cons_zero, List.set_cons_succ])
        refine RL.stepK (i := 17) rfl (by kernel_rfl) (by rfl) (fun wd hlwd hswd K hK => ?_)
        have hx4 := hY.below hlwd hY.lt
        refine store_str_op 9 _ _ rfl xb 3 sd _ 40 rfl rfl Tryz.underlying9 (by kernel_rfl) hx4 (exV_3 _ _) ?_
        intro Y2 hY2 hgY2
        rw [exV_s3] at hY2
        have hsY2 : Sp.Upd wr Y2 [xb] := Sp.Upd.trans hswd (Sp.Upd.of_grown1 hgY2) (fun k hk => .inl hk)
        refine hK.out _ _ hsY2 ?_
        clear hK
        (try simp only [Act.put, List.setIfInBounds_toArray, List.set_cons_zero, List.set_cons_succ])
        refine RL.done (by kernel_rfl) (fun V hlV hsV => ?_)
        have HXV := Lib.hid (Rg.Blk.below hY2 hlV hY2.lt)
        have HU := Lib.hid (show Sp.Upd wr V [xb] from hsV)
        clear hY2 hlV hsV hsY2 hgY2 hx4 hY hsY hgY hx3 hlwc hswc hlwd hswd
        have HB2 := Lib.hid (below_upd HB.out HU.out (by intro z hz; have := HN.out; simp at hz; omega) (HB.out.size_le HKB.out))
        have HZ2 := Lib.hid (upd_blk HU.out HZ.out (by have := HN.out; simp; omega))
        go_wp2_with fail
        go_roundw
        case rel =>
          have REL := Lib.hid (show ∃ k' : Nat, k' ≤ 2 ∧ Value.int .i64 2 = .int .i64 k' ∧ Rg.Blk V xb 40 (exV (fw x k') p) ∧ Rg.Blk V rb 40 Tryz.zeroCells40 ∧ Below xb w V from ⟨2, by decide, rfl, by rw [show fw x 2 = { { fw x 1 with b := sb } with d := sd } from HF2.out]; exact HXV.out, HZ2.out, HB2.out⟩)
          first
            | exact REL.out
            | ((repeat apply Exists.intro); refine ⟨?_, rfl⟩; exact REL.out)
        case measure => (first | (simp [intOf]; done) | (simp [intOf]; omega))
      · skip
        have hx0 := (HX.out.below (Below.drew (Below.refl _ _)) HX.out.lt)
        have hx1 := hx0.below hlwa (by have := hx0.lt; simpa using this)
        have c1 := hx1.cell 3 (v := .string x.d) (exV_3 _ _)
        go_simp
        refine hK.out _ _ hswa ?_
        clear hK c1
        (try simp only [Act.put, List.setIfInBounds_toArray, List.set_cons_zero, List.set_cons_succ])
        refine RL.stepK (i := 5) rfl (by kernel_rfl) (by rfl) (fun wb hlwb hswb K hK => ?_)
        have hx2 := hx1.below hlwb (by have := hx1.lt; simpa using this)
        have c1 := hx2.cell 1 (v := .string x.b) (exV_1 _ _)
        go_simp
        refine hK.out _ _ hswb ?_
        clear hK c1
        (try simp only [Act.put, List.setIfInBounds_toArray, List.set_cons_zero, List.set_cons_succ])
        refine' RL.takeC (i := 6) (v := .string sb) 35 #[.string x.b, .int .i64 60] rfl (by kernel_rfl) (by kernel_rfl) (by kernel_rfl) (fun _ _ _ h => h) (by rfl) ?hk53 ?hc53 ?_
        case hk53 => (intro W; go_simp; try with_reducible rfl)
        case hc53 => (intro W hSW; exact (Csb.out W).mono (fun e w9 h9 => ⟨h9.1, h9.2 ▸ RL.Lat.refl W, h9.2 ▸ hSW⟩))
        (try simp only [Act.put, List.setIfInBounds_toArray, List.set_cons_zero, List.set_cons_succ])
        refine' RL.takeC (i := 11) (v := .string sd) 35 #[.string x.d, .int .i64 100] rfl (by kernel_rfl) (by kernel_rfl) (by kernel_rfl) (fun _ _ _ h => h) (by rfl) ?hk54 ?hc54 ?_
        case hk54 => (intro W; go_simp; try with_reducible rfl)
        case hc54 => (intro W hSW; exact (Csd.out W).mono (fun e w9 h9 => ⟨h9.1, h9.2 ▸ RL.Lat.refl W, h9.2 ▸ hSW⟩))
        (try simp only [Act.put, List.setIfInBounds_toArray, List.set_cons_zero, List.set_cons_succ])
        refine' RL.takeV (i := 13) (v := _) rfl (by kernel_rfl) (by kernel_rfl) (by kernel_rfl) (fun _ _ _ h => h) (by rfl) ?hk55 ?_
        case hk55 => (intro W hSW; go_simp; try with_reducible rfl)
        (try simp only [Act.put, List.setIfInBounds_toArray, List.set_cons_zero, List.set_cons_succ])
        refine RL.stepK (i := 14) rfl (by kernel_rfl) (by rfl) (fun wc hlwc hswc K hK => ?_)
        have hx3 := hx2.below hlwc hx2.lt
        refine store_str_op 9 _ _ rfl xb 1 sb _ 40 rfl rfl Tryz.underlying9 (by kernel_rfl) hx3 (exV_1 _ _) ?_
        intro Y hY hgY
        rw [exV_s1] at hY
        have hsY : Sp.Upd wr Y [xb] := Sp.Upd.trans hswc (Sp.Upd.of_grown1 hgY) (fun k hk => .inl hk)
        refine hK.out _ _ hsY ?_
        clear hK
        (try simp only [Act.put, List.setIfInBounds_toArray, List.set_cons_zero, List.set_cons_succ])
        refine' RL.takeV (i := 16) (v := _) rfl (by kernel_rfl) (by kernel_rfl) (by kernel_rfl) (fun _ _ _ h => h) (by rfl) ?hk56 ?_
        case hk56 => (intro W hSW; go_simp; try with_reducible rfl)
        (try simp only [Act.put, List.setIfInBounds_toArray, List.set_cons_zero, List.set_cons_succ])
        refine RL.stepK (i := 17) rfl (by kernel_rfl) (by rfl) (fun wd hlwd hswd K hK => ?_)
        have hx4 := hY.below hlwd hY.lt
        refine store_str_op 9 _ _ rfl xb 3 sd _ 40 rfl rfl Tryz.underlying9 (by kernel_rfl) hx4 (exV_3 _ _) ?_
        intro Y2 hY2 hgY2
        rw [exV_s3] at hY2
        have hsY2 : Sp.Upd wr Y2 [xb] := Sp.Upd.trans hswd (Sp.Upd.of_grown1 hgY2) (fun k hk => .inl hk)
        refine hK.out _ _ hsY2 ?_
        clear hK
        (try simp only [Act.put, List.setIfInBounds_toArray, List.set_cons_zero, List.set_cons_succ])
        refine RL.done (by kernel_rfl) (fun V hlV hsV => ?_)
        have HXV := Lib.hid (Rg.Blk.below hY2 hlV hY2.lt)
        have HU := Lib.hid (show Sp.Upd wr V [xb] from hsV)
        clear hY2 hlV hsV hsY2 hgY2 hx4 hY hsY hgY hx3 hlwc hswc hlwd hswd
        have HB2 := Lib.hid (below_upd HB.out HU.out (by intro z hz; have := HN.out; simp at hz; omega) (HB.out.size_le HKB.out))
        have HZ2 := Lib.hid (upd_blk HU.out HZ.out (by have := HN.out; simp; omega))
        go_wp2_with fail
        go_roundw
        case rel =>
          have REL := Lib.hid (show ∃ k' : Nat, k' ≤ 2 ∧ Value.int .i64 2 = .int .i64 k' ∧ Rg.Blk V xb 40 (exV (fw x k') p) ∧ Rg.Blk V rb 40 Tryz.zeroCells40 ∧ Below xb w V from ⟨2, by decide, rfl, by rw [show fw x 2 = { { fw x 1 with b := sb } with d := sd } from HF2.out]; exact HXV.out, HZ2.out, HB2.out⟩)
          first
            | exact REL.out
            | ((repeat apply Exists.intro); refine ⟨?_, rfl⟩; exact REL.out)
        case measure => (first | (simp [intOf]; done) | (simp [intOf]; omega))
    · have HX := Lib.hid (show Rg.Blk wr xb 40 (exV (fw x 2) p) from ho)
      clear ho
      have c4 := HX.out.cell 4 (v := .string x.h) (exV_4 _ _)
      go_upto_region 7 with (first
        | (go_at_call 35; refine (Csh.out _).mono ?_; rintro e w1 ⟨rfl, rfl⟩; skip)
        | ((with_reducible refine gate_ ?_); refine Wi.store_string rfl 9 _ _ rfl (b := xb) (j := 4) (s := sh) rfl rfl Tryz.underlying9 (by kernel_rfl) HX.out (exV_4 _ _) ?_; intro V hV hgV; rw [exV_s4] at hV; have HXV := Lib.hid (show Rg.Blk V xb 40 (exV x.few p) from by rw [HF3.out]; exact hV); have HGV := Lib.hid hgV; clear hV hgV))
      have HB2 := Lib.hid (HB.out.grown HGV.out (HB.out.size_le HKB.out) (fun j e => by cases e; exact Nat.le_refl _))
      have HZ2 := Lib.hid (blk_other HZ.out HGV.out HN.out.1)
      clear c4
      go_wp2_with (first
        | ((with_reducible refine gate_ ?_); refine Cv.load_cells rfl 40 _ rfl xb 0 rfl (exV x.few p) _ (fun j v hv => by rw [Nat.zero_add]; exact HXV.out.cell j hv) Tryz.underlying40 rfl (by rw [HES.out]; kernel_rfl) ?_; skip)
        | ((with_reducible refine gate_ ?_); refine Cv.store_blk rfl 40 _ _ rfl rb (exV x.few p) Tryz.zeroCells40 40 rfl rfl HZ2.out (by rw [HES.out]; kernel_rfl) (by rw [HES.out, HZS.out]) (exV_one _ _) ?_; intro V3 hV hgV; have HZZ := Lib.hid hV; have HBZ := Lib.hid (HB2.out.grown hgV (HB2.out.size_le HKB.out) (fun j e => by cases e; exact HN.out.2)); clear hV hgV))
      refine bodyPost_ret (v := .agg (exV x.few p))
        (results_cell_row Tryz.results14 _ _ rb 40 _ (0, 0) _ rfl HZZ.out Tryz.underlying40 rfl (by rw [HES.out]; kernel_rfl)) rfl ?_
      exact ⟨rfl, HKB.out ▸ HBZ.out⟩
end Go.Proofs.YtfaeigbfnjkojaaGreatDoor.Kx
