/- KexTwo. -/
import Derived.Test.YtfaeigbfnjkojaaGreatDoorKxTv
import Derived.Test.YtfaeigbfnjkojaaGreatDoorKxKey
set_option linter.unusedVariables false
set_option linter.unusedSimpArgs false
namespace Go.Proofs.YtfaeigbfnjkojaaGreatDoor.Kx
open Go.RowKit Go.Proofs.YtfaeigbfnjkojaaGreatDoor.Cl
attribute [local irreducible] mulK bytesE zero b9 derL hsL
theorem put_head (p q s a b : List UInt8) (hp : p.length = 32) (hq : q.length = 32) (ha : a.length = 32) (hb : b.length = 32) : putL (p ++ (q ++ s)) 0 (a ++ b) = a ++ (b ++ s) := by
  rw [putL_eq _ _ _ (by simp [hp, hq, ha, hb]; omega)]
  simp [ha, hb]
  rw [List.drop_append, List.drop_eq_nil_of_le (by omega), hp, List.nil_append, List.drop_append, List.drop_eq_nil_of_le (by omega), hq]
  simp
theorem put_tail (p q s z : List UInt8) (hp : p.length = 32) (hq : q.length = 32) (hs : s.length = 32) (hz : z.length = 32) : putL (p ++ (q ++ s)) 64 z = p ++ (q ++ z) := by
  rw [putL_eq _ _ _ (by simp [hp, hq, hs, hz])]
  rw [List.drop_eq_nil_of_le (by simp [hp, hq, hs, hz]), List.append_nil, List.take_append, hp, List.take_of_length_le (by omega), List.take_append, hq, List.take_of_length_le (by omega)]
  simp
theorem upd_weak {a b : World} (s : List Nat) (h : Below a.heap.size a b) : Sp.Upd a b s := ⟨h.os, h.tape, h.output, h.size, fun k hk _ => h.block k hk⟩
theorem few_sz (s : ByteArray) (n : Nat) (hn : n ≤ 100) : (s.extract 0 n).size ≤ 1000 := by
  rw [ByteArray.size_extract]; omega
set_option maxRecDepth 20000 in
set_option maxHeartbeats 8000000 in
theorem law_KexTwo (w : World) (a : Nat → Addr) (hE : Ei.ErrsAll w a) (hY : Ei.ErrTy w) (hT : Sha.Tables w) (k1 k2 : List UInt8) (hk1 : k1.length = 32) (hk2 : k2.length = 32) (x0 : Xc) (p q s : List UInt8) (hp : p.length = 32) (hq : q.length = 32) (hs : s.length = 32) :
    Calls Tryz.prog 6 #[.agg (Cv.bytesV k1), .agg (Cv.bytesV k2), .agg (exV x0 (p ++ (q ++ s)))] w fun e w' => e = .returned (.bool true) ∧ Below w.heap.size w w' := by
  obtain ⟨x, hx⟩ : ∃ y, x0.few = y := ⟨_, rfl⟩
  have hsz : x.a.size ≤ 1000 ∧ x.b.size ≤ 1000 ∧ x.c.size ≤ 1000 ∧ x.d.size ≤ 1000 ∧ x.h.size ≤ 1000 := by
    rw [← hx]; exact ⟨few_sz _ 60 (by decide), few_sz _ 60 (by decide), few_sz _ 100 (by decide), few_sz _ 100 (by decide), few_sz _ 60 (by decide)⟩
  obtain ⟨pa, hpa⟩ : ∃ l, bytesE (mulK k1 (kB 9)) = l := ⟨_, rfl⟩
  obtain ⟨pb, hpb⟩ : ∃ l, bytesE (mulK k2 (kB 9)) = l := ⟨_, rfl⟩
  have lpa : pa.length = 32 := by rw [← hpa, bytesE_len]
  have lpb : pb.length = 32 := by rw [← hpb, bytesE_len]
  obtain ⟨z, hz⟩ : ∃ l, bytesE (mulK k1 pb) = l := ⟨_, rfl⟩
  have lz : z.length = 32 := by rw [← hz, bytesE_len]
  have hz2 : bytesE (mulK k2 pa) = z := by rw [← hz, ← hpa, ← hpb]; exact (two_same hk1 hk2).symm
  have hn1 : zero (mulK k1 pb) = false := by rw [← hpb]; exact two_some hk1 hk2
  have hn2 : zero (mulK k2 pa) = false := by rw [← hpa]; exact two_some hk2 hk1
  obtain ⟨hh, hhh⟩ : ∃ l, Sha.sha 32 (hsL x pa pb z) = l := ⟨_, rfl⟩
  have lhh : hh.length = 32 := hhh ▸ Sha.sha_length 32 (by decide) _
  obtain ⟨d1, hd1⟩ : ∃ l, derL z hh hh 67 32 = l := ⟨_, rfl⟩
  obtain ⟨d2, hd2⟩ : ∃ l, derL z hh hh 68 32 = l := ⟨_, rfl⟩
  have ld1 : d1.length = 32 := by rw [← hd1, derL_len]
  have ld2 : d2.length = 32 := by rw [← hd2, derL_len]
  have HFW := Lib.hid (fun W => show Calls Tryz.prog 14 #[.agg (exV x0 (p ++ (q ++ s)))] W fun e w' => e = .returned (.agg (exV x (p ++ (q ++ s)))) ∧ Below W.heap.size W w' from hx ▸ Few_any W x0 (p ++ (q ++ s)) (by rw [List.length_append, List.length_append, hp, hq, hs]))
  have HB1 := Lib.hid (fun W => show Calls Tryz.prog 17 #[.agg (Cv.bytesV k1)] W fun e w' => e = .returned (.agg (Cv.bytesV pa)) ∧ Below W.heap.size W w' from hpa ▸ Base_any W k1 hk1)
  have HB2 := Lib.hid (fun W => show Calls Tryz.prog 17 #[.agg (Cv.bytesV k2)] W fun e w' => e = .returned (.agg (Cv.bytesV pb)) ∧ Below W.heap.size W w' from hpb ▸ Base_any W k2 hk2)
  have HS1 := Lib.hid (fun W => show Calls Tryz.prog 8 #[.agg (Cv.bytesV k1), .agg (Cv.bytesV pb)] W fun e w' => e = .returned (.tuple #[.agg (Cv.bytesV z), .nilIface]) ∧ Below W.heap.size W w' from hz ▸ Share_ok W k1 pb hk1 lpb hn1)
  have HS2 := Lib.hid (fun W => show Calls Tryz.prog 8 #[.agg (Cv.bytesV k2), .agg (Cv.bytesV pa)] W fun e w' => e = .returned (.tuple #[.agg (Cv.bytesV z), .nilIface]) ∧ Below W.heap.size W w' from hz2 ▸ Share_ok W k2 pa hk2 lpa hn2)
  have HHS := Lib.hid (fun W (hW : Sha.Tables W) => show Calls Tryz.prog 15 #[.agg (exV x (pa ++ (pb ++ z)))] W fun e w' => e = .returned (.agg (Cv.bytesV hh)) ∧ Below W.heap.size W w' from hhh ▸ Hash_any W x pa pb z lpa lpb lz hsz hW)
  have HKK := Lib.hid (fun W (hW : Sha.Tables W) => show Calls Tryz.prog 12 #[.agg (Cv.bytesV z), .agg (Cv.bytesV hh), .agg (Cv.bytesV hh)] W fun e w' => e = .returned (.agg (Cv.bytesV (d1 ++ d2))) ∧ Below W.heap.size W w' from by
    have h := Keys_any W z hh hh lz lhh lhh hW
    unfold keysL at h
    rwa [hd1, hd2] at h)
  have HQZ := Lib.hid (fun W : World => Cv.run_equalIn_self (P := Tryz.prog) W 22 5 32 Tryz.underlying22 Tryz.underlying5 Wi.infoU8 z lz)
  have HQH := Lib.hid (fun W : World => Cv.run_equalIn_self (P := Tryz.prog) W 22 5 32 Tryz.underlying22 Tryz.underlying5 Wi.infoU8 hh lhh)
  have HQK := Lib.hid (fun W : World => run_equalIn_two Tryz.prog W 33 22 5 Tryz.underlying33 Tryz.underlying22 Tryz.underlying5 Wi.infoU8 (by kernel_rfl) d1 d2 ld1 ld2)
  have HES := Lib.hid (show ∀ (y : Xc) (l : List UInt8), l.length = 96 → (exV y l).size = 101 from fun y l hl => by rw [exV_size, hl])
  have HPUT1 := Lib.hid (put_head p q s pa pb hp hq lpa lpb)
  have HPUT2 := Lib.hid (put_tail pa pb s z lpa lpb hs lz)
  have HPL := Lib.hid hp
  have HQL := Lib.hid hq
  have HSL := Lib.hid hs
  have HPAL := Lib.hid lpa
  have HPBL := Lib.hid lpb
  have HZL := Lib.hid lz
  have HHL := Lib.hid lhh
  have HK1Z := Lib.hid (show (Cv.bytesV k1).size = 32 from by rw [Cv.bytesV_size, hk1])
  have HK2Z := Lib.hid (show (Cv.bytesV k2).size = 32 from by rw [Cv.bytesV_size, hk2])
  have HZZ := Lib.hid (show (Cv.bytesV z).size = 32 from by rw [Cv.bytesV_size, lz])
  have HE := Lib.hid hE
  have HY := Lib.hid hY
  have HT := Lib.hid hT
  clear hE hY hT hp hq hs hx hsz hk1 hk2 hpa hpb lpa lpb hz lz hz2 hn1 hn2 hhh lhh hd1 hd2 ld1 ld2
  go_enter Tryz.func6, Tryz.ntmps6
  have tok1 := True.intro
  go_upto_region 1 with (first
    | (have _t := tok1; (with_reducible refine gate_ ?_); refine Rg.box_fresh rfl 22 _ rfl (Cv.bytesV k1) rfl ?_; intro X1 hX hbX hnX; have HX1 := Lib.hid hX; have HBX1 := Lib.hid hbX; have HNX1 := Lib.hid hnX; clear hX hbX hnX; have tok2 := True.intro; clear _t tok1)
    | (have _t := tok2; (with_reducible refine gate_ ?_); refine Rg.box_fresh rfl 22 _ rfl (Cv.bytesV k2) rfl ?_; intro X2 hX hbX hnX; have HX2 := Lib.hid hX; have HBX2 := Lib.hid hbX; have HNX2 := Lib.hid hnX; clear hX hbX hnX; have tok3 := True.intro; clear _t tok2)
    | (have _t := tok3; (with_reducible refine gate_ ?_); refine Rg.box_fresh rfl 40 _ rfl (exV x0 (p ++ (q ++ s))) rfl ?_; intro X3 hX hbX hnX; have HX3 := Lib.hid hX; have HBX3 := Lib.hid hbX; have HNX3 := Lib.hid hnX; clear hX hbX hnX; clear _t tok3))
  obtain ⟨ab, hab⟩ : ∃ n, w.heap.size = n := ⟨_, rfl⟩
  obtain ⟨bb, hbb⟩ : ∃ n, X1.heap.size = n := ⟨_, rfl⟩
  obtain ⟨xb, hxb⟩ : ∃ n, X2.heap.size = n := ⟨_, rfl⟩
  have HA := Lib.hid (show Rg.Blk X3 ab 22 (Cv.bytesV k1) from (((hab ▸ HX1.out).below HBX2.out (by rw [← hab]; exact HX1.out.lt)).below HBX3.out (by have := HNX2.out; have := HNX1.out; omega)))
  have HBB := Lib.hid (show Rg.Blk X3 bb 22 (Cv.bytesV k2) from ((hbb ▸ HX2.out).below HBX3.out (by rw [← hbb]; exact HX2.out.lt)))
  have HX := Lib.hid (show Rg.Blk X3 xb 40 (exV x0 (p ++ (q ++ s))) from hxb ▸ HX3.out)
  have HB := Lib.hid (show Below w.heap.size w X3 from ((HBX1.out.trans (HBX2.out.mono HBX1.out.size)).trans (HBX3.out.mono (by have := HNX1.out; have := HNX2.out; omega))))
  have HN := Lib.hid (show w.heap.size ≤ ab ∧ ab < bb ∧ bb < xb from by have h1 := HNX1.out; have h2 := HNX2.out; have h3 := HNX3.out; omega)
  try rw [hab]
  try rw [hbb]
  try rw [hxb]
  clear HX1 HBX1 HNX1 HX2 HBX2 HNX2 HX3 HBX3 HNX3 hab hbb hxb
  go_upto_region 3 with (go_at_call 7; refine (awake14 _ a (HE.out.below HB.out) (HY.out.below HB.out) (tables_later HT.out HB.out)).mono ?_; rintro e w1 ⟨rfl, hb1⟩; skip; have HA1 := Lib.hid (HA.out.below hb1 HA.out.lt); have HBB1 := Lib.hid (HBB.out.below hb1 HBB.out.lt); have HX1 := Lib.hid (HX.out.below hb1 HX.out.lt); have HBW1 := Lib.hid (HB.out.trans (hb1.mono HB.out.size)); clear hb1)
  clear HA HBB HX HB
  go_upto_region 4 with (first
    | ((with_reducible refine gate_ ?_); refine Cv.load_cells rfl 40 _ rfl xb 0 rfl (exV x0 (p ++ (q ++ s))) _ (fun j v hv => by rw [Nat.zero_add]; exact HX1.out.cell j hv) Tryz.underlying40 rfl (by rw [HES.out _ _ (by simp [HPAL.out, HPBL.out, HPL.out, HQL.out, HSL.out, HZL.out])]; kernel_rfl) ?_; skip)
    | (go_at_call 14; refine (HFW.out _).mono ?_; rintro e w2 ⟨rfl, hb1⟩; skip; have HA2 := Lib.hid (HA1.out.below hb1 HA1.out.lt); have HBB2 := Lib.hid (HBB1.out.below hb1 HBB1.out.lt); have HX2 := Lib.hid (HX1.out.below hb1 HX1.out.lt); have HBW2 := Lib.hid (HBW1.out.trans (hb1.mono HBW1.out.size)); clear hb1)
    | ((with_reducible refine gate_ ?_); refine Cv.store_blk rfl 40 _ _ rfl xb (exV x (p ++ (q ++ s))) (exV x0 (p ++ (q ++ s))) 40 rfl rfl HX2.out (by rw [HES.out _ _ (by simp [HPAL.out, HPBL.out, HPL.out, HQL.out, HSL.out, HZL.out])]; kernel_rfl) (by rw [HES.out _ _ (by simp [HPAL.out, HPBL.out, HPL.out, HQL.out, HSL.out, HZL.out]), HES.out _ _ (by simp [HPAL.out, HPBL.out, HPL.out, HQL.out, HSL.out, HZL.out])]) (exV_one _ _) ?_; intro V3 hV hgV; have HX := Lib.hid hV; have HG3 := Lib.hid hgV; clear hV hgV))
  have HA := Lib.hid (blk_other HA2.out HG3.out (by have := HN.out; omega))
  have HBB := Lib.hid (blk_other HBB2.out HG3.out (by have := HN.out; omega))
  have HB := Lib.hid (show Below w.heap.size w V3 from HBW2.out.grown HG3.out HBW2.out.size (fun j e => by cases e; have := HN.out; omega))
  clear HA1 HBB1 HX1 HBW1 HA2 HBB2 HX2 HBW2 HG3
  refine RL.start (fun W => Sp.Upd V3 W [xb]) (by kernel_rfl) (upd_weak [xb] (RL.Aft.drew (RL.Aft.refl V3))) ?_
  refine RL.takeV (i := 0) (v := .agg (Cv.bytesV k1)) rfl (by kernel_rfl) (by kernel_rfl) (by kernel_rfl) (fun _ _ _ h => h) (by rfl) (fun W hSW => RT.run_row 22 _ rfl _ rfl _ _ (upd_blk hSW HA.out (by have := HN.out; simp; omega)) Tryz.underlying22 rfl (by rw [HK1Z.out]; kernel_rfl)) ?_
  (try simp only [Act.put, List.setIfInBounds_toArray, List.set_cons_zero, List.set_cons_succ])
  refine' RL.takeC (i := 1) (v := (.agg (Cv.bytesV pa))) 17 #[.agg (Cv.bytesV k1)] rfl (by kernel_rfl) (by kernel_rfl) (by kernel_rfl) (fun _ _ _ h => h) (by rfl) ?hk33 ?hc33 ?_
  case hk33 => (intro W; go_simp; try with_reducible rfl)
  case hc33 => (intro W hSW; exact (HB1.out W).mono (fun e w9 h9 => ⟨h9.1, h9.2, Sp.Upd.trans hSW (Sp.Upd.of_below h9.2) (by simp)⟩))
  (try simp only [Act.put, List.setIfInBounds_toArray, List.set_cons_zero, List.set_cons_succ])
  refine RL.takeV (i := 2) (v := .agg (Cv.bytesV k2)) rfl (by kernel_rfl) (by kernel_rfl) (by kernel_rfl) (fun _ _ _ h => h) (by rfl) (fun W hSW => RT.run_row 22 _ rfl _ rfl _ _ (upd_blk hSW HBB.out (by have := HN.out; simp; omega)) Tryz.underlying22 rfl (by rw [HK2Z.out]; kernel_rfl)) ?_
  (try simp only [Act.put, List.setIfInBounds_toArray, List.set_cons_zero, List.set_cons_succ])
  refine' RL.takeC (i := 3) (v := (.agg (Cv.bytesV pb))) 17 #[.agg (Cv.bytesV k2)] rfl (by kernel_rfl) (by kernel_rfl) (by kernel_rfl) (fun _ _ _ h => h) (by rfl) ?hk34 ?hc34 ?_
  case hk34 => (intro W; go_simp; try with_reducible rfl)
  case hc34 => (intro W hSW; exact (HB2.out W).mono (fun e w9 h9 => ⟨h9.1, h9.2, Sp.Upd.trans hSW (Sp.Upd.of_below h9.2) (by simp)⟩))
  (try simp only [Act.put, List.setIfInBounds_toArray, List.set_cons_zero, List.set_cons_succ])
  refine RL.takeV (i := 4) (v := .agg (Cv.bytesV (pa ++ pb))) rfl (by kernel_rfl) (by kernel_rfl) (by kernel_rfl) (fun _ _ _ h => h) (by rfl) (fun W hSW => run_build_op 33 _ rfl #[(0, .agg (Cv.bytesV pa)), (1, .agg (Cv.bytesV pb))] (by go_simp) (Cv.bytesV (pa ++ pb)) (built_two pa pb HPAL.out HPBL.out)) ?_
  (try simp only [Act.put, List.setIfInBounds_toArray, List.set_cons_zero, List.set_cons_succ])
  refine' RL.takeV (i := 5) (v := _) rfl (by kernel_rfl) (by kernel_rfl) (by kernel_rfl) (fun _ _ _ h => h) (by rfl) ?hk35 ?_
  case hk35 => (intro W hSW; go_simp; try with_reducible rfl)
  (try simp only [Act.put, List.setIfInBounds_toArray, List.set_cons_zero, List.set_cons_succ])
  refine RL.stepK (i := 6) rfl (by kernel_rfl) (by rfl) (fun wv hlwv hswv K hK => ?_)
  refine store_ex_op 33 _ _ rfl xb 0 40 x (p ++ (q ++ s)) (pa ++ pb) rfl rfl (HX.out.below (Below.trans (RL.Aft.drew (RL.Aft.refl V3)) (hlwv.mono (by simp))) HX.out.lt) (by simp [HPAL.out, HPBL.out, HPL.out, HQL.out, HSL.out]) (by rw [List.length_append, HPAL.out, HPBL.out]; kernel_rfl) ?_
  intro X hX hgX
  rw [HPUT1.out] at hX
  have hu : Sp.Upd V3 X [xb] := Sp.Upd.trans hswv (Sp.Upd.of_grown1 hgX) (fun k hk => .inl hk)
  refine hK.out _ _ hu ?_
  clear hK
  (try simp only [Act.put, List.setIfInBounds_toArray, List.set_cons_zero, List.set_cons_succ])
  have HX4 := Lib.hid hX
  clear hX hgX
  refine RL.done (by kernel_rfl) (fun Y4 hlY4 hsY4 => ?_)
  have HU4 := Lib.hid (Sp.Upd.trans hu (upd_weak [xb] hlY4) (fun k hk => .inl hk))
  have HX := Lib.hid (HX4.out.below hlY4 HX4.out.lt)
  have HA := Lib.hid (upd_blk HU4.out HA.out (by have := HN.out; simp; omega))
  have HBB := Lib.hid (upd_blk HU4.out HBB.out (by have := HN.out; simp; omega))
  have HB := Lib.hid (below_upd HB.out HU4.out (by intro k hk; have := HN.out; simp at hk; omega) HB.out.size)
  clear hu hlY4 hsY4 HX4 HU4 hlwv hswv
  have HXL := Lib.hid HX.out.lt
  go_upto_region 6 with (first
    | ((with_reducible refine gate_ ?_); refine Cv.load_cells rfl 40 _ rfl xb 0 rfl (exV x (pa ++ (pb ++ s))) _ (fun j v hv => by rw [Nat.zero_add]; exact HX.out.cell j hv) Tryz.underlying40 rfl (by rw [HES.out _ _ (by simp [HPAL.out, HPBL.out, HPL.out, HQL.out, HSL.out, HZL.out])]; kernel_rfl) ?_; skip)
    | (refine Rg.store_fresh rfl 40 _ _ rfl (exV x (pa ++ (pb ++ s))) _ 40 rfl rfl (by rw [HES.out _ _ (by simp [HPAL.out, HPBL.out, HPL.out, HQL.out, HSL.out, HZL.out])]; kernel_rfl) (by rw [HES.out _ _ (by simp [HPAL.out, HPBL.out, HPL.out, HQL.out, HSL.out, HZL.out])]; rfl) (exV_one _ _) ?_; intro V5 hX hbX; have HYY := Lib.hid hX; have HB5 := Lib.hid hbX; clear hX hbX))
  obtain ⟨yb, hyb⟩ : ∃ n, Y4.heap.size = n := ⟨_, rfl⟩
  have HYY := Lib.hid (hyb ▸ HYY.out)
  have HX := Lib.hid (HX.out.below HB5.out HX.out.lt)
  have HA := Lib.hid (HA.out.below HB5.out HA.out.lt)
  have HBB := Lib.hid (HBB.out.below HB5.out HBB.out.lt)
  have HN := Lib.hid (show (w.heap.size ≤ ab ∧ ab < bb ∧ bb < xb) ∧ xb < yb from ⟨HN.out, by rw [← hyb]; exact HXL.out⟩)
  have HB := Lib.hid (HB.out.trans (HB5.out.mono HB.out.size))
  try rw [hyb]
  clear HB5 hyb HXL
  go_upto_region 7 with (first
    | ((with_reducible refine gate_ ?_); refine Cv.load_cells rfl 22 _ rfl ab 0 rfl (Cv.bytesV k1) _ (fun j v hv => by rw [Nat.zero_add]; exact HA.out.cell j hv) Tryz.underlying22 rfl (by rw [HK1Z.out]; kernel_rfl) ?_; skip)
    | ((with_reducible refine gate_ ?_); refine Cv.load_cells rfl 22 _ rfl xb 37 rfl (Cv.bytesV pb) _ (bytes_take (bytes_drop (p := pa) (exV_bytes HX.out) (show 5 + pa.length = 37 by rw [HPAL.out]))).cells Tryz.underlying22 rfl (by rw [Cv.bytesV_size, HPBL.out]; kernel_rfl) ?_; skip)
    | (go_at_call 8; refine (HS1.out _).mono ?_; rintro e w6 ⟨rfl, hb1⟩; skip; have HB6 := Lib.hid hb1; clear hb1)
    | (refine Rg.store_fresh rfl 22 _ _ rfl (Cv.bytesV z) _ 22 rfl rfl (by rw [HZZ.out]; kernel_rfl) (by rw [HZZ.out]; rfl) (Cv.bytesV_one _) ?_; intro V6 hX hbX; have HSB := Lib.hid hX; have HBV := Lib.hid hbX; clear hX hbX))
  obtain ⟨sb, hsb⟩ : ∃ n, w6.heap.size = n := ⟨_, rfl⟩
  have HSB := Lib.hid (hsb ▸ HSB.out)
  have HN := Lib.hid (show ((w.heap.size ≤ ab ∧ ab < bb ∧ bb < xb) ∧ xb < yb) ∧ yb < sb from ⟨HN.out, by rw [← hsb]; exact Nat.lt_of_lt_of_le HYY.out.lt HB6.out.size⟩)
  try rw [hsb]
  have HBX := Lib.hid (HB6.out.trans (HBV.out.mono HB6.out.size))
  have HX := Lib.hid (HX.out.below HBX.out HX.out.lt)
  have HYY := Lib.hid (HYY.out.below HBX.out HYY.out.lt)
  have HBB := Lib.hid (HBB.out.below HBX.out HBB.out.lt)
  have HB := Lib.hid (HB.out.trans (HBX.out.mono HB.out.size))
  clear HB6 HBV HBX hsb HA
  go_upto_region 8 with (first
    | ((with_reducible refine gate_ ?_); refine Cv.load_cells rfl 22 _ rfl bb 0 rfl (Cv.bytesV k2) _ (fun j v hv => by rw [Nat.zero_add]; exact HBB.out.cell j hv) Tryz.underlying22 rfl (by rw [HK2Z.out]; kernel_rfl) ?_; skip)
    | ((with_reducible refine gate_ ?_); refine Cv.load_cells rfl 22 _ rfl xb 5 rfl (Cv.bytesV pa) _ (bytes_take (exV_bytes HX.out)).cells Tryz.underlying22 rfl (by rw [Cv.bytesV_size, HPAL.out]; kernel_rfl) ?_; skip)
    | (go_at_call 8; refine (HS2.out _).mono ?_; rintro e w7 ⟨rfl, hb1⟩; skip; have HB6 := Lib.hid hb1; clear hb1)
    | (refine Rg.store_fresh rfl 22 _ _ rfl (Cv.bytesV z) _ 22 rfl rfl (by rw [HZZ.out]; kernel_rfl) (by rw [HZZ.out]; rfl) (Cv.bytesV_one _) ?_; intro V7 hX hbX; have HTB := Lib.hid hX; have HBV := Lib.hid hbX; clear hX hbX))
  obtain ⟨tb, htb⟩ : ∃ n, w7.heap.size = n := ⟨_, rfl⟩
  have HTB := Lib.hid (htb ▸ HTB.out)
  have HN := Lib.hid (show (((w.heap.size ≤ ab ∧ ab < bb ∧ bb < xb) ∧ xb < yb) ∧ yb < sb) ∧ sb < tb from ⟨HN.out, by rw [← htb]; exact Nat.lt_of_lt_of_le HSB.out.lt HB6.out.size⟩)
  try rw [htb]
  have HBX := Lib.hid (HB6.out.trans (HBV.out.mono HB6.out.size))
  have HX := Lib.hid (HX.out.below HBX.out HX.out.lt)
  have HYY := Lib.hid (HYY.out.below HBX.out HYY.out.lt)
  have HSB := Lib.hid (HSB.out.below HBX.out HSB.out.lt)
  have HB := Lib.hid (HB.out.trans (HBX.out.mono HB.out.size))
  clear HB6 HBV HBX htb HBB
  refine RL.start (fun W => Sp.Upd V7 W [xb, yb]) (by kernel_rfl) (upd_weak [xb, yb] (RL.Aft.drew (RL.Aft.refl V7))) ?_
  refine RL.takeV (i := 0) (v := .agg (Cv.bytesV z)) rfl (by kernel_rfl) (by kernel_rfl) (by kernel_rfl) (fun _ _ _ h => h) (by rfl) (fun W hSW => RT.run_row 22 _ rfl _ rfl _ _ (upd_blk hSW HSB.out (by have := HN.out; simp; omega)) Tryz.underlying22 rfl (by rw [HZZ.out]; kernel_rfl)) ?_
  (try simp only [Act.put, List.setIfInBounds_toArray, List.set_cons_zero, List.set_cons_succ])
  refine RL.takeV (i := 1) (v := .agg (Cv.bytesV z)) rfl (by kernel_rfl) (by kernel_rfl) (by kernel_rfl) (fun _ _ _ h => h) (by rfl) (fun W hSW => RT.run_row 22 _ rfl _ rfl _ _ (upd_blk hSW HTB.out (by have := HN.out; simp; omega)) Tryz.underlying22 rfl (by rw [HZZ.out]; kernel_rfl)) ?_
  (try simp only [Act.put, List.setIfInBounds_toArray, List.set_cons_zero, List.set_cons_succ])
  refine' RL.takeV (i := 2) (v := _) rfl (by kernel_rfl) (by kernel_rfl) (by kernel_rfl) (fun _ _ _ h => h) (by rfl) ?hk36 ?_
  case hk36 => (intro W hSW; go_simp; try with_reducible rfl)
  (try simp only [Act.put, List.setIfInBounds_toArray, List.set_cons_zero, List.set_cons_succ])
  refine RL.stepK (i := 3) rfl (by kernel_rfl) (by rfl) (fun wv hlwv hswv K hK => ?_)
  refine store_ex_op 22 _ _ rfl xb 64 40 x (pa ++ (pb ++ s)) z rfl rfl (HX.out.below (Below.trans (RL.Aft.drew (RL.Aft.refl V7)) (hlwv.mono (by simp))) HX.out.lt) (by simp [HPAL.out, HPBL.out, HSL.out, HZL.out]) (by rw [HZL.out]; kernel_rfl) ?_
  intro X hX hgX
  rw [HPUT2.out] at hX
  have hy := blk_other (HYY.out.below (Below.trans (RL.Aft.drew (RL.Aft.refl V7)) (hlwv.mono (by simp))) HYY.out.lt) hgX (by have := HN.out; omega)
  have hu : Sp.Upd V7 X [xb, yb] := Sp.Upd.trans hswv (Sp.Upd.of_grown1 hgX) (fun k hk => .inl (by simp at hk; simp [hk]))
  refine hK.out _ _ hu ?_
  clear hK
  (try simp only [Act.put, List.setIfInBounds_toArray, List.set_cons_zero, List.set_cons_succ])
  have HX8 := Lib.hid hX
  have HY8 := Lib.hid hy
  have HU8 := Lib.hid hu
  clear hX hgX hy hu hlwv hswv
  refine' RL.takeV (i := 4) (v := _) rfl (by kernel_rfl) (by kernel_rfl) (by kernel_rfl) (fun _ _ _ h => h) (by rfl) ?hk37 ?_
  case hk37 => (intro W hSW; go_simp; try with_reducible rfl)
  (try simp only [Act.put, List.setIfInBounds_toArray, List.set_cons_zero, List.set_cons_succ])
  refine RL.stepK (i := 5) rfl (by kernel_rfl) (by rfl) (fun wu hlwu hswu K hK => ?_)
  refine store_ex_op 22 _ _ rfl yb 64 40 x (pa ++ (pb ++ s)) z rfl rfl (HY8.out.below hlwu HY8.out.lt) (by simp [HPAL.out, HPBL.out, HSL.out, HZL.out]) (by rw [HZL.out]; kernel_rfl) ?_
  intro X9 hX hgX
  rw [HPUT2.out] at hX
  have hy := blk_other (HX8.out.below hlwu HX8.out.lt) hgX (by have := HN.out; omega)
  have hu : Sp.Upd V7 X9 [xb, yb] := Sp.Upd.trans hswu (Sp.Upd.of_grown1 hgX) (fun k hk => .inl (by simp at hk; simp [hk]))
  refine hK.out _ _ hu ?_
  clear hK
  (try simp only [Act.put, List.setIfInBounds_toArray, List.set_cons_zero, List.set_cons_succ])
  have HY9 := Lib.hid hX
  have HX9 := Lib.hid hy
  have HU9 := Lib.hid hu
  clear hX hgX hy hu hlwu hswu
  refine RL.done (by kernel_rfl) (fun Y9 hlY9 hsY9 => ?_)
  have HX := Lib.hid (HX9.out.below hlY9 HX9.out.lt)
  have HYY := Lib.hid (HY9.out.below hlY9 HY9.out.lt)
  have HUU := Lib.hid (Sp.Upd.trans HU9.out (upd_weak [xb, yb] hlY9) (fun k hk => .inl hk))
  have HSB := Lib.hid (upd_blk HUU.out HSB.out (by have := HN.out; simp; omega))
  have HTB := Lib.hid (upd_blk HUU.out HTB.out (by have := HN.out; simp; omega))
  have HB := Lib.hid (below_upd HB.out HUU.out (by intro k hk; have := HN.out; simp at hk; omega) HB.out.size)
  clear HX8 HY8 HU8 HX9 HY9 HU9 HUU hlY9 hsY9
  go_upto_region 9 with fail
  have HT9 := Lib.hid (tables_later HT.out HB.out)
  refine RL.start (RL.Aft Y9) (by kernel_rfl) (RL.Aft.drew (RL.Aft.refl Y9)) ?_
  refine' RL.takeV (i := 0) (v := _) rfl (by kernel_rfl) (by kernel_rfl) (by kernel_rfl) (fun _ _ _ h => h) (by rfl) ?hk38 ?_
  case hk38 => (intro W hSW; go_simp; try with_reducible rfl)
  (try simp only [Act.put, List.setIfInBounds_toArray, List.set_cons_zero, List.set_cons_succ])
  refine' RL.takeV (i := 1) (v := _) rfl (by kernel_rfl) (by kernel_rfl) (by kernel_rfl) (fun _ _ _ h => h) (by rfl) ?hk39 ?_
  case hk39 => (intro W hSW; go_simp; try with_reducible rfl)
  (try simp only [Act.put, List.setIfInBounds_toArray, List.set_cons_zero, List.set_cons_succ])
  refine' RL.takeV (i := 2) (v := _) rfl (by kernel_rfl) (by kernel_rfl) (by kernel_rfl) (fun _ _ _ h => h) (by rfl) ?hk40 ?_
  case hk40 => (intro W hSW; go_simp; try with_reducible rfl)
  (try simp only [Act.put, List.setIfInBounds_toArray, List.set_cons_zero, List.set_cons_succ])
  refine' RL.takeV (i := 3) (v := _) rfl (by kernel_rfl) (by kernel_rfl) (by kernel_rfl) (fun _ _ _ h => h) (by rfl) ?hk41 ?_
  case hk41 => (intro W hSW; go_simp; try with_reducible rfl)
  (try simp only [Act.put, List.setIfInBounds_toArray, List.set_cons_zero, List.set_cons_succ])
  refine' RL.takeV (i := 4) (v := _) rfl (by kernel_rfl) (by kernel_rfl) (by kernel_rfl) (fun _ _ _ h => h) (by rfl) ?hk42 ?_
  case hk42 => (intro W hSW; go_simp; try with_reducible rfl)
  (try simp only [Act.put, List.setIfInBounds_toArray, List.set_cons_zero, List.set_cons_succ])
  refine' RL.takeV (i := 5) (v := _) rfl (by kernel_rfl) (by kernel_rfl) (by kernel_rfl) (fun _ _ _ h => h) (by rfl) ?hk43 ?_
  case hk43 => (intro W hSW; go_simp; try with_reducible rfl)
  (try simp only [Act.put, List.setIfInBounds_toArray, List.set_cons_zero, List.set_cons_succ])
  refine' RL.takeV (i := 6) (v := _) rfl (by kernel_rfl) (by kernel_rfl) (by kernel_rfl) (fun _ _ _ h => h) (by rfl) ?hk44 ?_
  case hk44 => (intro W hSW; go_simp; try with_reducible rfl)
  (try simp only [Act.put, List.setIfInBounds_toArray, List.set_cons_zero, List.set_cons_succ])
  refine RL.takeV (i := 7) (v := .agg (Cv.bytesV z)) rfl (by kernel_rfl) (by kernel_rfl) (by kernel_rfl) (fun _ _ _ h => h) (by rfl) (fun W hSW => RT.run_row 22 _ rfl _ rfl _ _ (aft_blk hSW HSB.out) Tryz.underlying22 rfl (by rw [HZZ.out]; kernel_rfl)) ?_
  (try simp only [Act.put, List.setIfInBounds_toArray, List.set_cons_zero, List.set_cons_succ])
  refine RL.takeV (i := 8) (v := .agg (Cv.bytesV z)) rfl (by kernel_rfl) (by kernel_rfl) (by kernel_rfl) (fun _ _ _ h => h) (by rfl) (fun W hSW => RT.run_row 22 _ rfl _ rfl _ _ (aft_blk hSW HTB.out) Tryz.underlying22 rfl (by rw [HZZ.out]; kernel_rfl)) ?_
  (try simp only [Act.put, List.setIfInBounds_toArray, List.set_cons_zero, List.set_cons_succ])
  refine' RL.takeV (i := 9) (v := _) rfl (by kernel_rfl) (by kernel_rfl) (by kernel_rfl) (fun _ _ _ h => h) (by rfl) ?hk45 ?_
  case hk45 => (intro W hSW; have x1 := HQZ.out W; go_simp; try with_reducible rfl)
  (try simp only [Act.put, List.setIfInBounds_toArray, List.set_cons_zero, List.set_cons_succ])
  refine' RL.takeV (i := 10) (v := _) rfl (by kernel_rfl) (by kernel_rfl) (by kernel_rfl) (fun _ _ _ h => h) (by rfl) ?hk46 ?_
  case hk46 => (intro W hSW; go_simp; try with_reducible rfl)
  (try simp only [Act.put, List.setIfInBounds_toArray, List.set_cons_zero, List.set_cons_succ])
  refine' RL.takeV (i := 11) (v := _) rfl (by kernel_rfl) (by kernel_rfl) (by kernel_rfl) (fun _ _ _ h => h) (by rfl) ?hk47 ?_
  case hk47 => (intro W hSW; go_simp; try with_reducible rfl)
  (try simp only [Act.put, List.setIfInBounds_toArray, List.set_cons_zero, List.set_cons_succ])
  refine RL.takeV (i := 12) (v := .agg (exV x (pa ++ (pb ++ z)))) rfl (by kernel_rfl) (by kernel_rfl) (by kernel_rfl) (fun _ _ _ h => h) (by rfl) (fun W hSW => RT.run_row 40 _ rfl _ rfl _ _ (aft_blk hSW HX.out) Tryz.underlying40 rfl (by rw [HES.out _ _ (by simp [HPAL.out, HPBL.out, HPL.out, HQL.out, HSL.out, HZL.out])]; kernel_rfl)) ?_
  (try simp only [Act.put, List.setIfInBounds_toArray, List.set_cons_zero, List.set_cons_succ])
  refine' RL.takeC (i := 13) (v := (.agg (Cv.bytesV hh))) 15 #[.agg (exV x (pa ++ (pb ++ z)))] rfl (by kernel_rfl) (by kernel_rfl) (by kernel_rfl) (fun _ _ _ h => h) (by rfl) ?hk48 ?hc48 ?_
  case hk48 => (intro W; go_simp; try with_reducible rfl)
  case hc48 => (intro W hSW; exact (HHS.out W (tables_later HT9.out hSW)).mono (fun e w9 h9 => ⟨h9.1, h9.2, RL.Aft.lat hSW h9.2⟩))
  (try simp only [Act.put, List.setIfInBounds_toArray, List.set_cons_zero, List.set_cons_succ])
  refine RL.takeV (i := 14) (v := .agg (exV x (pa ++ (pb ++ z)))) rfl (by kernel_rfl) (by kernel_rfl) (by kernel_rfl) (fun _ _ _ h => h) (by rfl) (fun W hSW => RT.run_row 40 _ rfl _ rfl _ _ (aft_blk hSW HYY.out) Tryz.underlying40 rfl (by rw [HES.out _ _ (by simp [HPAL.out, HPBL.out, HPL.out, HQL.out, HSL.out, HZL.out])]; kernel_rfl)) ?_
  (try simp only [Act.put, List.setIfInBounds_toArray, List.set_cons_zero, List.set_cons_succ])
  refine' RL.takeC (i := 15) (v := (.agg (Cv.bytesV hh))) 15 #[.agg (exV x (pa ++ (pb ++ z)))] rfl (by kernel_rfl) (by kernel_rfl) (by kernel_rfl) (fun _ _ _ h => h) (by rfl) ?hk49 ?hc49 ?_
  case hk49 => (intro W; go_simp; try with_reducible rfl)
  case hc49 => (intro W hSW; exact (HHS.out W (tables_later HT9.out hSW)).mono (fun e w9 h9 => ⟨h9.1, h9.2, RL.Aft.lat hSW h9.2⟩))
  (try simp only [Act.put, List.setIfInBounds_toArray, List.set_cons_zero, List.set_cons_succ])
  refine' RL.takeV (i := 16) (v := _) rfl (by kernel_rfl) (by kernel_rfl) (by kernel_rfl) (fun _ _ _ h => h) (by rfl) ?hk50 ?_
  case hk50 => (intro W hSW; have x1 := HQH.out W; go_simp; try with_reducible rfl)
  (try simp only [Act.put, List.setIfInBounds_toArray, List.set_cons_zero, List.set_cons_succ])
  refine' RL.takeV (i := 17) (v := _) rfl (by kernel_rfl) (by kernel_rfl) (by kernel_rfl) (fun _ _ _ h => h) (by rfl) ?hk51 ?_
  case hk51 => (intro W hSW; go_simp; try with_reducible rfl)
  (try simp only [Act.put, List.setIfInBounds_toArray, List.set_cons_zero, List.set_cons_succ])
  refine' RL.takeV (i := 18) (v := _) rfl (by kernel_rfl) (by kernel_rfl) (by kernel_rfl) (fun _ _ _ h => h) (by rfl) ?hk52 ?_
  case hk52 => (intro W hSW; go_simp; try with_reducible rfl)
  (try simp only [Act.put, List.setIfInBounds_toArray, List.set_cons_zero, List.set_cons_succ])
  refine RL.takeV (i := 19) (v := .agg (Cv.bytesV z)) rfl (by kernel_rfl) (by kernel_rfl) (by kernel_rfl) (fun _ _ _ h => h) (by rfl) (fun W hSW => RT.run_row 22 _ rfl _ rfl _ _ (aft_blk hSW HSB.out) Tryz.underlying22 rfl (by rw [HZZ.out]; kernel_rfl)) ?_
  (try simp only [Act.put, List.setIfInBounds_toArray, List.set_cons_zero, List.set_cons_succ])
  refine RL.takeV (i := 20) (v := .agg (exV x (pa ++ (pb ++ z)))) rfl (by kernel_rfl) (by kernel_rfl) (by kernel_rfl) (fun _ _ _ h => h) (by rfl) (fun W hSW => RT.run_row 40 _ rfl _ rfl _ _ (aft_blk hSW HX.out) Tryz.underlying40 rfl (by rw [HES.out _ _ (by simp [HPAL.out, HPBL.out, HPL.out, HQL.out, HSL.out, HZL.out])]; kernel_rfl)) ?_
  (try simp only [Act.put, List.setIfInBounds_toArray, List.set_cons_zero, List.set_cons_succ])
  refine' RL.takeC (i := 21) (v := (.agg (Cv.bytesV hh))) 15 #[.agg (exV x (pa ++ (pb ++ z)))] rfl (by kernel_rfl) (by kernel_rfl) (by kernel_rfl) (fun _ _ _ h => h) (by rfl) ?hk53 ?hc53 ?_
  case hk53 => (intro W; go_simp; try with_reducible rfl)
  case hc53 => (intro W hSW; exact (HHS.out W (tables_later HT9.out hSW)).mono (fun e w9 h9 => ⟨h9.1, h9.2, RL.Aft.lat hSW h9.2⟩))
  (try simp only [Act.put, List.setIfInBounds_toArray, List.set_cons_zero, List.set_cons_succ])
  refine RL.takeV (i := 22) (v := .agg (exV x (pa ++ (pb ++ z)))) rfl (by kernel_rfl) (by kernel_rfl) (by kernel_rfl) (fun _ _ _ h => h) (by rfl) (fun W hSW => RT.run_row 40 _ rfl _ rfl _ _ (aft_blk hSW HX.out) Tryz.underlying40 rfl (by rw [HES.out _ _ (by simp [HPAL.out, HPBL.out, HPL.out, HQL.out, HSL.out, HZL.out])]; kernel_rfl)) ?_
  (try simp only [Act.put, List.setIfInBounds_toArray, List.set_cons_zero, List.set_cons_succ])
  refine' RL.takeC (i := 23) (v := (.agg (Cv.bytesV hh))) 15 #[.agg (exV x (pa ++ (pb ++ z)))] rfl (by kernel_rfl) (by kernel_rfl) (by kernel_rfl) (fun _ _ _ h => h) (by rfl) ?hk54 ?hc54 ?_
  case hk54 => (intro W; go_simp; try with_reducible rfl)
  case hc54 => (intro W hSW; exact (HHS.out W (tables_later HT9.out hSW)).mono (fun e w9 h9 => ⟨h9.1, h9.2, RL.Aft.lat hSW h9.2⟩))
  (try simp only [Act.put, List.setIfInBounds_toArray, List.set_cons_zero, List.set_cons_succ])
  refine' RL.takeC (i := 24) (v := (.agg (Cv.bytesV (d1 ++ d2)))) 12 #[.agg (Cv.bytesV z), .agg (Cv.bytesV hh), .agg (Cv.bytesV hh)] rfl (by kernel_rfl) (by kernel_rfl) (by kernel_rfl) (fun _ _ _ h => h) (by rfl) ?hk55 ?hc55 ?_
  case hk55 => (intro W; go_simp; try with_reducible rfl)
  case hc55 => (intro W hSW; exact (HKK.out W (tables_later HT9.out hSW)).mono (fun e w9 h9 => ⟨h9.1, h9.2, RL.Aft.lat hSW h9.2⟩))
  (try simp only [Act.put, List.setIfInBounds_toArray, List.set_cons_zero, List.set_cons_succ])
  refine RL.takeV (i := 25) (v := .agg (Cv.bytesV z)) rfl (by kernel_rfl) (by kernel_rfl) (by kernel_rfl) (fun _ _ _ h => h) (by rfl) (fun W hSW => RT.run_row 22 _ rfl _ rfl _ _ (aft_blk hSW HTB.out) Tryz.underlying22 rfl (by rw [HZZ.out]; kernel_rfl)) ?_
  (try simp only [Act.put, List.setIfInBounds_toArray, List.set_cons_zero, List.set_cons_succ])
  refine RL.takeV (i := 26) (v := .agg (exV x (pa ++ (pb ++ z)))) rfl (by kernel_rfl) (by kernel_rfl) (by kernel_rfl) (fun _ _ _ h => h) (by rfl) (fun W hSW => RT.run_row 40 _ rfl _ rfl _ _ (aft_blk hSW HYY.out) Tryz.underlying40 rfl (by rw [HES.out _ _ (by simp [HPAL.out, HPBL.out, HPL.out, HQL.out, HSL.out, HZL.out])]; kernel_rfl)) ?_
  (try simp only [Act.put, List.setIfInBounds_toArray, List.set_cons_zero, List.set_cons_succ])
  refine' RL.takeC (i := 27) (v := (.agg (Cv.bytesV hh))) 15 #[.agg (exV x (pa ++ (pb ++ z)))] rfl (by kernel_rfl) (by kernel_rfl) (by kernel_rfl) (fun _ _ _ h => h) (by rfl) ?hk56 ?hc56 ?_
  case hk56 => (intro W; go_simp; try with_reducible rfl)
  case hc56 => (intro W hSW; exact (HHS.out W (tables_later HT9.out hSW)).mono (fun e w9 h9 => ⟨h9.1, h9.2, RL.Aft.lat hSW h9.2⟩))
  (try simp only [Act.put, List.setIfInBounds_toArray, List.set_cons_zero, List.set_cons_succ])
  refine RL.takeV (i := 28) (v := .agg (exV x (pa ++ (pb ++ z)))) rfl (by kernel_rfl) (by kernel_rfl) (by kernel_rfl) (fun _ _ _ h => h) (by rfl) (fun W hSW => RT.run_row 40 _ rfl _ rfl _ _ (aft_blk hSW HYY.out) Tryz.underlying40 rfl (by rw [HES.out _ _ (by simp [HPAL.out, HPBL.out, HPL.out, HQL.out, HSL.out, HZL.out])]; kernel_rfl)) ?_
  (try simp only [Act.put, List.setIfInBounds_toArray, List.set_cons_zero, List.set_cons_succ])
  refine' RL.takeC (i := 29) (v := (.agg (Cv.bytesV hh))) 15 #[.agg (exV x (pa ++ (pb ++ z)))] rfl (by kernel_rfl) (by kernel_rfl) (by kernel_rfl) (fun _ _ _ h => h) (by rfl) ?hk57 ?hc57 ?_
  case hk57 => (intro W; go_simp; try with_reducible rfl)
  case hc57 => (intro W hSW; exact (HHS.out W (tables_later HT9.out hSW)).mono (fun e w9 h9 => ⟨h9.1, h9.2, RL.Aft.lat hSW h9.2⟩))
  (try simp only [Act.put, List.setIfInBounds_toArray, List.set_cons_zero, List.set_cons_succ])
  refine' RL.takeC (i := 30) (v := (.agg (Cv.bytesV (d1 ++ d2)))) 12 #[.agg (Cv.bytesV z), .agg (Cv.bytesV hh), .agg (Cv.bytesV hh)] rfl (by kernel_rfl) (by kernel_rfl) (by kernel_rfl) (fun _ _ _ h => h) (by rfl) ?hk58 ?hc58 ?_
  case hk58 => (intro W; go_simp; try with_reducible rfl)
  case hc58 => (intro W hSW; exact (HKK.out W (tables_later HT9.out hSW)).mono (fun e w9 h9 => ⟨h9.1, h9.2, RL.Aft.lat hSW h9.2⟩))
  (try simp only [Act.put, List.setIfInBounds_toArray, List.set_cons_zero, List.set_cons_succ])
  refine' RL.takeV (i := 31) (v := _) rfl (by kernel_rfl) (by kernel_rfl) (by kernel_rfl) (fun _ _ _ h => h) (by rfl) ?hk59 ?_
  case hk59 => (intro W hSW; have x1 := HQK.out W; go_simp; try with_reducible rfl)
  (try simp only [Act.put, List.setIfInBounds_toArray, List.set_cons_zero, List.set_cons_succ])
  refine' RL.takeV (i := 32) (v := _) rfl (by kernel_rfl) (by kernel_rfl) (by kernel_rfl) (fun _ _ _ h => h) (by rfl) ?hk60 ?_
  case hk60 => (intro W hSW; go_simp; try with_reducible rfl)
  (try simp only [Act.put, List.setIfInBounds_toArray, List.set_cons_zero, List.set_cons_succ])
  refine' RL.takeV (i := 33) (v := _) rfl (by kernel_rfl) (by kernel_rfl) (by kernel_rfl) (fun _ _ _ h => h) (by rfl) ?hk61 ?_
  case hk61 => (intro W hSW; go_simp; try with_reducible rfl)
  (try simp only [Act.put, List.setIfInBounds_toArray, List.set_cons_zero, List.set_cons_succ])
  refine RL.done (by kernel_rfl) (fun Y10 hlY10 hsY10 => ?_)
  have HA := Lib.hid (show RL.Aft Y9 Y10 from hsY10)
  go_wp2_with fail
  go_ret
  exact ⟨rfl, HB.out.trans (Below.mono HA.out HB.out.size)⟩
theorem law_KexTwoB (w : World) (a : Nat → Addr) (hE : Ei.ErrsAll w a) (hY : Ei.ErrTy w) (hT : Sha.Tables w) (k1 : List UInt8) (hk1 : k1.length = 32) (k2 : List UInt8) (hk2 : k2.length = 32) (x0 : Xc) (p q s : List UInt8) (hp : p.length = 32) (hq : q.length = 32) (hs : s.length = 32) :
    Calls Tryz.prog 6 #[.agg (Ow.bv k1).toArray, .agg (Ow.bv k2).toArray, .agg (x0.t ++ Ow.bv (p ++ (q ++ s))).toArray] w fun e w' => e = .returned (.bool true) ∧ Below w.heap.size w w' := by
  have h := law_KexTwo w a hE hY hT k1 k2 hk1 hk2 x0 p q s hp hq hs
  rw [exV_eq] at h
  unfold Cv.bytesV at h
  exact h
end Go.Proofs.YtfaeigbfnjkojaaGreatDoor.Kx
