/- KexShares. -/
import Derived.Test.YtfaeigbfnjkojaaGreatDoorKxY
set_option linter.unusedVariables false
set_option linter.unusedSimpArgs false
namespace Go.Proofs.YtfaeigbfnjkojaaGreatDoor.Kx
open Go.RowKit Go.Proofs.YtfaeigbfnjkojaaGreatDoor.Cl
attribute [local irreducible] mulK bytesE zero b9
theorem wpList_unwanted {P : Program} {ops : Array Oper} {rest : List Oper} {o : Oper} {a : Act} {w : World} {Q : Exit → Act → World → Prop} (hw : Region.wanted o (yielded ops a.tmps) = false)
    (h : wpList P ops Q rest (a.put o.dst undef) w) : wpList P ops Q (o :: rest) a w :=
  wpList_step fun K hK => by rw [if_neg (by rw [hw]; decide)]; exact hK _ _ h
set_option maxRecDepth 20000 in
set_option maxHeartbeats 2000000 in
theorem shares_ok (w : World) (a : Nat → Addr) (hE : Ei.ErrsAll w a) (hY : Ei.ErrTy w) (hT : Sha.Tables w) (k p : List UInt8) (hk : k.length = 32) (hp : p.length = 32) (hz : zero (mulK k p) = false) :
    Calls Tryz.prog 3 #[.agg (Cv.bytesV k), .agg (Cv.bytesV p)] w fun e w' => e = .returned (.bool true) ∧ Below w.heap.size w w' := by
  obtain ⟨o, ho⟩ : ∃ o, bytesE (mulK k p) = o := ⟨_, rfl⟩
  have HMU := Lib.hid (fun W => show Calls Tryz.prog 9 #[.agg (Cv.bytesV k), .agg (Cv.bytesV p)] W fun e w' => e = .returned (.tuple #[.agg (Cv.bytesV o), .bool true]) ∧ Below W.heap.size W w' from by
    have := Mult_any W k p hk hp
    rwa [ho, hz] at this)
  have HOL := Lib.hid (show o.length = 32 from by rw [← ho, bytesE_len])
  have HOS := Lib.hid (show (Cv.bytesV o).size = 32 from by rw [Cv.bytesV_size, HOL.out])
  have HZS := Lib.hid (show (Cv.bytesV (kB 0)).size = 32 from by rw [Cv.bytesV_size]; rfl)
  have HE := Lib.hid hE
  have HY := Lib.hid hY
  have HT := Lib.hid hT
  have HLkb := Lib.hid hk
  have HLpb := Lib.hid hp
  have HSO := Lib.hid (fun W => show Calls Tryz.prog 8 #[.agg (Cv.bytesV k), .agg (Cv.bytesV p)] W fun e w' => e = .returned (.tuple #[.agg (Cv.bytesV o), .nilIface]) ∧ Below W.heap.size W w' from by
    have := Share_ok W k p hk hp hz
    rwa [ho] at this)
  have HQ := Lib.hid (fun W : World => Cv.run_equalIn_self (P := Tryz.prog) W 22 5 32 Tryz.underlying22 Tryz.underlying5 Wi.infoU8 o HOL.out)
  clear hE hY hT hk hp hz ho
  go_enter Tryz.func3, Tryz.ntmps3
  have tok1 := True.intro
  go_upto_region 1 with (first
    | (have _t := tok1; (with_reducible refine gate_ ?_); refine Rg.box_fresh rfl 22 _ rfl (Cv.bytesV k) rfl ?_; intro X hX hbX hnX; have HX := Lib.hid hX; have HBX := Lib.hid hbX; have HNX := Lib.hid hnX; clear hX hbX hnX; have tok2 := True.intro; clear _t tok1)
    | (have _t := tok2; (with_reducible refine gate_ ?_); refine Rg.box_fresh rfl 22 _ rfl (Cv.bytesV p) rfl ?_; intro X2 hX hbX hnX; have HX2 := Lib.hid hX; have HBX2 := Lib.hid hbX; have HNX2 := Lib.hid hnX; clear hX hbX hnX; clear _t tok2))
  obtain ⟨kb, hkb⟩ : ∃ n, w.heap.size = n := ⟨_, rfl⟩
  obtain ⟨pb, hpb⟩ : ∃ n, X.heap.size = n := ⟨_, rfl⟩
  have HK := Lib.hid (show Rg.Blk X2 kb 22 (Cv.bytesV k) from ((hkb ▸ HX.out).below HBX2.out (by rw [← hkb]; exact HX.out.lt)))
  have HP := Lib.hid (show Rg.Blk X2 pb 22 (Cv.bytesV p) from (hpb ▸ HX2.out))
  have HB := Lib.hid (show Below w.heap.size w X2 from (HBX.out.trans (HBX2.out.mono HBX.out.size)))
  try rw [hkb]
  try rw [hpb]
  clear HX HBX HNX HX2 HBX2 HNX2 hkb hpb
  go_upto_region 3 with (go_at_call 7; refine (awake14 _ a (HE.out.below HB.out) (HY.out.below HB.out) (tables_later HT.out HB.out)).mono ?_; rintro e w1 ⟨rfl, hb1⟩; skip; have HK1 := Lib.hid (HK.out.below hb1 HK.out.lt); have HP1 := Lib.hid (HP.out.below hb1 HP.out.lt); have HB1 := Lib.hid (HB.out.trans (hb1.mono HB.out.size)); clear hb1)
  clear HK HP HB
  go_upto_region 4 with (first
    | ((with_reducible refine gate_ ?_); refine Cv.load_cells rfl 22 _ rfl kb 0 rfl (Cv.bytesV (k)) _ (fun j v hv => by rw [Nat.zero_add]; exact HK1.out.cell j hv) Tryz.underlying22 rfl (by rw [Cv.bytesV_size, HLkb.out]; kernel_rfl) ?_; skip)
    | ((with_reducible refine gate_ ?_); refine Cv.load_cells rfl 22 _ rfl pb 0 rfl (Cv.bytesV (p)) _ (fun j v hv => by rw [Nat.zero_add]; exact HP1.out.cell j hv) Tryz.underlying22 rfl (by rw [Cv.bytesV_size, HLpb.out]; kernel_rfl) ?_; skip)
    | (go_at_call 8; refine (HSO.out _).mono ?_; rintro e w2 ⟨rfl, hb1⟩; skip; have HB2 := Lib.hid hb1; clear hb1)
    | (refine Rg.store_fresh rfl 22 _ _ rfl (Cv.bytesV o) _ 22 rfl rfl (by rw [HOS.out]; kernel_rfl) (by rw [HOS.out]; rfl) (Cv.bytesV_one _) ?_; intro V2 hX hbX; have HV2 := Lib.hid hX; have HBV2 := Lib.hid hbX; clear hX hbX))
  obtain ⟨s5, hs5⟩ : ∃ n, w2.heap.size = n := ⟨_, rfl⟩
  have HV2 := Lib.hid (hs5 ▸ HV2.out)
  try rw [hs5]
  have HBV := Lib.hid (HB2.out.trans (HBV2.out.mono HB2.out.size))
  have HK := Lib.hid (HK1.out.below HBV.out HK1.out.lt)
  have HP := Lib.hid (HP1.out.below HBV.out HP1.out.lt)
  have HB := Lib.hid (HB1.out.trans (HBV.out.mono HB1.out.size))
  clear HK1 HP1 HB1 HB2 HBV2 hs5 HBV
  go_upto_region 5 with (first
    | ((with_reducible refine gate_ ?_); refine Cv.load_cells rfl 22 _ rfl kb 0 rfl (Cv.bytesV (k)) _ (fun j v hv => by rw [Nat.zero_add]; exact HK.out.cell j hv) Tryz.underlying22 rfl (by rw [Cv.bytesV_size, HLkb.out]; kernel_rfl) ?_; skip)
    | ((with_reducible refine gate_ ?_); refine Cv.load_cells rfl 22 _ rfl pb 0 rfl (Cv.bytesV (p)) _ (fun j v hv => by rw [Nat.zero_add]; exact HP.out.cell j hv) Tryz.underlying22 rfl (by rw [Cv.bytesV_size, HLpb.out]; kernel_rfl) ?_; skip)
    | (go_at_call 9; refine (HMU.out _).mono ?_; rintro e w3 ⟨rfl, hb1⟩; skip; have HB3 := Lib.hid hb1; clear hb1)
    | (refine Rg.store_fresh rfl 22 _ _ rfl (Cv.bytesV o) _ 22 rfl rfl (by rw [HOS.out]; kernel_rfl) (by rw [HOS.out]; rfl) (Cv.bytesV_one _) ?_; intro V3 hX hbX; have HV3 := Lib.hid hX; have HBV3 := Lib.hid hbX; clear hX hbX))
  obtain ⟨s7, hs7⟩ : ∃ n, w3.heap.size = n := ⟨_, rfl⟩
  have HV3 := Lib.hid (hs7 ▸ HV3.out)
  try rw [hs7]
  have HBV := Lib.hid (HB3.out.trans (HBV3.out.mono HB3.out.size))
  have HV2 := Lib.hid (HV2.out.below HBV.out HV2.out.lt)
  have HB := Lib.hid (HB.out.trans (HBV.out.mono HB.out.size))
  clear HB3 HBV3 HBV HK HP hs7
  have hq := fun W => HQ.out W
  have tok1 := True.intro
  go_wp2_with (first
    | (refine wpList_unwanted (by rfl) ?_; skip)
    | (have _t := tok1; (with_reducible refine gate_ ?_); refine load_blk_g (by rfl) 22 _ rfl s5 (Cv.bytesV o) 22 rfl HV2.out Tryz.underlying22 rfl (by rw [HOS.out]; kernel_rfl) ?_; clear _t tok1; have tok2 := True.intro)
    | (have _t := tok2; (with_reducible refine gate_ ?_); refine load_blk_g (by rfl) 22 _ rfl s7 (Cv.bytesV o) 22 rfl HV3.out Tryz.underlying22 rfl (by rw [HOS.out]; kernel_rfl) ?_; clear _t tok2))
  go_ret
  exact ⟨rfl, HB.out⟩
set_option maxRecDepth 20000 in
set_option maxHeartbeats 2000000 in
theorem shares_no (w : World) (a : Nat → Addr) (hE : Ei.ErrsAll w a) (hY : Ei.ErrTy w) (hT : Sha.Tables w) (k p : List UInt8) (hk : k.length = 32) (hp : p.length = 32) (hz : zero (mulK k p) = true) :
    Calls Tryz.prog 3 #[.agg (Cv.bytesV k), .agg (Cv.bytesV p)] w fun e w' => e = .returned (.bool true) ∧ Below w.heap.size w w' := by
  obtain ⟨o, ho⟩ : ∃ o, bytesE (mulK k p) = o := ⟨_, rfl⟩
  have HMU := Lib.hid (fun W => show Calls Tryz.prog 9 #[.agg (Cv.bytesV k), .agg (Cv.bytesV p)] W fun e w' => e = .returned (.tuple #[.agg (Cv.bytesV o), .bool false]) ∧ Below W.heap.size W w' from by
    have := Mult_any W k p hk hp
    rwa [ho, hz] at this)
  have HOL := Lib.hid (show o.length = 32 from by rw [← ho, bytesE_len])
  have HOS := Lib.hid (show (Cv.bytesV o).size = 32 from by rw [Cv.bytesV_size, HOL.out])
  have HZS := Lib.hid (show (Cv.bytesV (kB 0)).size = 32 from by rw [Cv.bytesV_size]; rfl)
  have HE := Lib.hid hE
  have HY := Lib.hid hY
  have HT := Lib.hid hT
  have HLkb := Lib.hid hk
  have HLpb := Lib.hid hp
  have HSN := Lib.hid (fun W (h : Ei.ErrsAll W a) => Share_no W k p hk hp a h hz)
  have HQ := Lib.hid (fun W : World => show (Op.equalIn 10000 22 (.agg (Cv.bytesV (kB 0))) (.agg (#[.int .u8 0, .int .u8 0, .int .u8 0, .int .u8 0, .int .u8 0, .int .u8 0, .int .u8 0, .int .u8 0, .int .u8 0, .int .u8 0, .int .u8 0, .int .u8 0, .int .u8 0, .int .u8 0, .int .u8 0, .int .u8 0, .int .u8 0, .int .u8 0, .int .u8 0, .int .u8 0, .int .u8 0, .int .u8 0, .int .u8 0, .int .u8 0, .int .u8 0, .int .u8 0, .int .u8 0, .int .u8 0, .int .u8 0, .int .u8 0, .int .u8 0, .int .u8 0] : Array Value))).run Tryz.prog W = .ok true W from by
    have := Cv.run_equalIn_self (P := Tryz.prog) W 22 5 32 Tryz.underlying22 Tryz.underlying5 Wi.infoU8 (kB 0) rfl
    rwa [show Cv.bytesV (kB 0) = (#[.int .u8 0, .int .u8 0, .int .u8 0, .int .u8 0, .int .u8 0, .int .u8 0, .int .u8 0, .int .u8 0, .int .u8 0, .int .u8 0, .int .u8 0, .int .u8 0, .int .u8 0, .int .u8 0, .int .u8 0, .int .u8 0, .int .u8 0, .int .u8 0, .int .u8 0, .int .u8 0, .int .u8 0, .int .u8 0, .int .u8 0, .int .u8 0, .int .u8 0, .int .u8 0, .int .u8 0, .int .u8 0, .int .u8 0, .int .u8 0, .int .u8 0, .int .u8 0] : Array Value) from kb_eq0] at this ⊢)
  clear hE hY hT hk hp hz ho
  go_enter Tryz.func3, Tryz.ntmps3
  have tok1 := True.intro
  go_upto_region 1 with (first
    | (have _t := tok1; (with_reducible refine gate_ ?_); refine Rg.box_fresh rfl 22 _ rfl (Cv.bytesV k) rfl ?_; intro X hX hbX hnX; have HX := Lib.hid hX; have HBX := Lib.hid hbX; have HNX := Lib.hid hnX; clear hX hbX hnX; have tok2 := True.intro; clear _t tok1)
    | (have _t := tok2; (with_reducible refine gate_ ?_); refine Rg.box_fresh rfl 22 _ rfl (Cv.bytesV p) rfl ?_; intro X2 hX hbX hnX; have HX2 := Lib.hid hX; have HBX2 := Lib.hid hbX; have HNX2 := Lib.hid hnX; clear hX hbX hnX; clear _t tok2))
  obtain ⟨kb, hkb⟩ : ∃ n, w.heap.size = n := ⟨_, rfl⟩
  obtain ⟨pb, hpb⟩ : ∃ n, X.heap.size = n := ⟨_, rfl⟩
  have HK := Lib.hid (show Rg.Blk X2 kb 22 (Cv.bytesV k) from ((hkb ▸ HX.out).below HBX2.out (by rw [← hkb]; exact HX.out.lt)))
  have HP := Lib.hid (show Rg.Blk X2 pb 22 (Cv.bytesV p) from (hpb ▸ HX2.out))
  have HB := Lib.hid (show Below w.heap.size w X2 from (HBX.out.trans (HBX2.out.mono HBX.out.size)))
  try rw [hkb]
  try rw [hpb]
  clear HX HBX HNX HX2 HBX2 HNX2 hkb hpb
  go_upto_region 3 with (go_at_call 7; refine (awake14 _ a (HE.out.below HB.out) (HY.out.below HB.out) (tables_later HT.out HB.out)).mono ?_; rintro e w1 ⟨rfl, hb1⟩; skip; have HK1 := Lib.hid (HK.out.below hb1 HK.out.lt); have HP1 := Lib.hid (HP.out.below hb1 HP.out.lt); have HB1 := Lib.hid (HB.out.trans (hb1.mono HB.out.size)); clear hb1)
  clear HK HP HB
  go_upto_region 4 with (first
    | ((with_reducible refine gate_ ?_); refine Cv.load_cells rfl 22 _ rfl kb 0 rfl (Cv.bytesV (k)) _ (fun j v hv => by rw [Nat.zero_add]; exact HK1.out.cell j hv) Tryz.underlying22 rfl (by rw [Cv.bytesV_size, HLkb.out]; kernel_rfl) ?_; skip)
    | ((with_reducible refine gate_ ?_); refine Cv.load_cells rfl 22 _ rfl pb 0 rfl (Cv.bytesV (p)) _ (fun j v hv => by rw [Nat.zero_add]; exact HP1.out.cell j hv) Tryz.underlying22 rfl (by rw [Cv.bytesV_size, HLpb.out]; kernel_rfl) ?_; skip)
    | (go_at_call 8; refine (HSN.out _ (HE.out.below HB1.out)).mono ?_; rintro e w2 ⟨fb, rfl, hf, hb1⟩; skip; have HF2 := Lib.hid hf; have HB2 := Lib.hid hb1; clear hf hb1)
    | (refine Rg.store_fresh rfl 22 _ _ rfl (Cv.bytesV (kB 0)) _ 22 rfl rfl (by rw [HZS.out]; kernel_rfl) (by rw [HZS.out]; rfl) (Cv.bytesV_one _) ?_; intro V2 hX hbX; have HV2 := Lib.hid hX; have HBV2 := Lib.hid hbX; clear hX hbX))
  obtain ⟨s5, hs5⟩ : ∃ n, w2.heap.size = n := ⟨_, rfl⟩
  have HV2 := Lib.hid (hs5 ▸ HV2.out)
  try rw [hs5]
  have HBV := Lib.hid (HB2.out.trans (HBV2.out.mono HB2.out.size))
  have HK := Lib.hid (HK1.out.below HBV.out HK1.out.lt)
  have HP := Lib.hid (HP1.out.below HBV.out HP1.out.lt)
  have HB := Lib.hid (HB1.out.trans (HBV.out.mono HB1.out.size))
  have HF := Lib.hid (HF2.out.below HBV2.out HF2.out.lt)
  clear HK1 HP1 HB1 HB2 HBV2 hs5 HBV
  go_upto_region 5 with (first
    | ((with_reducible refine gate_ ?_); refine Cv.load_cells rfl 22 _ rfl kb 0 rfl (Cv.bytesV (k)) _ (fun j v hv => by rw [Nat.zero_add]; exact HK.out.cell j hv) Tryz.underlying22 rfl (by rw [Cv.bytesV_size, HLkb.out]; kernel_rfl) ?_; skip)
    | ((with_reducible refine gate_ ?_); refine Cv.load_cells rfl 22 _ rfl pb 0 rfl (Cv.bytesV (p)) _ (fun j v hv => by rw [Nat.zero_add]; exact HP.out.cell j hv) Tryz.underlying22 rfl (by rw [Cv.bytesV_size, HLpb.out]; kernel_rfl) ?_; skip)
    | (go_at_call 9; refine (HMU.out _).mono ?_; rintro e w3 ⟨rfl, hb1⟩; skip; have HB3 := Lib.hid hb1; clear hb1)
    | (refine Rg.store_fresh rfl 22 _ _ rfl (Cv.bytesV o) _ 22 rfl rfl (by rw [HOS.out]; kernel_rfl) (by rw [HOS.out]; rfl) (Cv.bytesV_one _) ?_; intro V3 hX hbX; have HV3 := Lib.hid hX; have HBV3 := Lib.hid hbX; clear hX hbX))
  obtain ⟨s7, hs7⟩ : ∃ n, w3.heap.size = n := ⟨_, rfl⟩
  have HV3 := Lib.hid (hs7 ▸ HV3.out)
  try rw [hs7]
  have HBV := Lib.hid (HB3.out.trans (HBV3.out.mono HB3.out.size))
  have HV2 := Lib.hid (HV2.out.below HBV.out HV2.out.lt)
  have HB := Lib.hid (HB.out.trans (HBV.out.mono HB.out.size))
  have HF := Lib.hid (HF.out.below HBV.out HF.out.lt)
  have HE := Lib.hid (HE.out.below HB.out)
  clear HB3 HBV3 HBV HK HP hs7
  have hq := fun W => HQ.out W
  go_wp2_with (first
    | (refine wpList_unwanted (by rfl) ?_; skip)
    | ((with_reducible refine gate_ ?_); refine load_blk_g (by rfl) 22 _ rfl s5 (Cv.bytesV (kB 0)) 22 rfl HV2.out Tryz.underlying22 rfl (by rw [HZS.out]; kernel_rfl) ?_; skip)
    | (go_at_call 10; refine (Ei.Code_fault _ a HE.out 10 (by decide) (by decide) fb ⟨#[107, 101, 120]⟩ HF.out).mono ?_; rintro e w5 ⟨rfl, rfl⟩; skip))
  go_ret
  exact ⟨rfl, HB.out⟩
theorem law_KexShares (w : World) (a : Nat → Addr) (hE : Ei.ErrsAll w a) (hY : Ei.ErrTy w) (hT : Sha.Tables w) (k p : List UInt8) (hk : k.length = 32) (hp : p.length = 32) :
    Calls Tryz.prog 3 #[.agg (Cv.bytesV k), .agg (Cv.bytesV p)] w fun e w' => e = .returned (.bool true) ∧ Below w.heap.size w w' := by
  cases hz : zero (mulK k p)
  · exact shares_ok w a hE hY hT k p hk hp hz
  · exact shares_no w a hE hY hT k p hk hp hz
theorem law_KexSharesB (w : World) (a : Nat → Addr) (hE : Ei.ErrsAll w a) (hY : Ei.ErrTy w) (hT : Sha.Tables w) (k : List UInt8) (hk : k.length = 32) (p : List UInt8) (hp : p.length = 32) :
    Calls Tryz.prog 3 #[.agg (Ow.bv k).toArray, .agg (Ow.bv p).toArray] w fun e w' => e = .returned (.bool true) ∧ Below w.heap.size w w' := by
  have h := law_KexShares w a hE hY hT k p hk hp
  unfold Cv.bytesV at h
  exact h
end Go.Proofs.YtfaeigbfnjkojaaGreatDoor.Kx
