/- KexDerives. -/
import Derived.Test.YtfaeigbfnjkojaaGreatDoorKxZ
import Derived.Test.YtfaeigbfnjkojaaGreatDoorKxKey
import Derived.Test.YtfaeigbfnjkojaaGreatDoorKxRd
set_option linter.unusedVariables false
set_option linter.unusedSimpArgs false
namespace Go.Proofs.YtfaeigbfnjkojaaGreatDoor.Kx
open Go.RowKit Go.Proofs.YtfaeigbfnjkojaaGreatDoor.Cl
attribute [local irreducible] mulK bytesE zero b9 derL
theorem xor_u8 (x y : UInt8) : bits .xor .u8 (x.toNat : Int) (y.toNat : Int) = (((x ^^^ y).toNat : Nat) : Int) := by
  rw [u8_xor_nat _ _ x.toNat_lt y.toNat_lt, UInt8.toNat_xor]
theorem wpList_val {P : Program} {ops : Array Oper} {rest : List Oper} {o : Oper} {a : Act} {w : World} {Q : Exit → Act → World → Prop} (hgd : o.guard = none) (v : Value) (hv : (execOp a.eval o).run P w = .ok (.value v) w) (h : wpList P ops Q rest (a.put o.dst v) w) : wpList P ops Q (o :: rest) a w :=
  wpList_plain hgd fun _ hK => by
    unfold Oper.wp
    rw [hv]
    exact hK _ _ h
theorem wrap64_small (x : Int) (h0 : 0 ≤ x) (h1 : x < 1000) : wrap64 x = x := by unfold wrap64; omega
theorem letter_eq (r : Nat) (hr : r < 6) (c : UInt8) (hc : UInt8.ofNat (65 + r) = c) : wrap64 (65 + (r : Int)) % 256 = (c.toNat : Int) := by
  have h : r = 0 ∨ r = 1 ∨ r = 2 ∨ r = 3 ∨ r = 4 ∨ r = 5 := by omega
  rw [wrap64_small _ (by omega) (by omega), ← hc]
  rcases h with rfl | rfl | rfl | rfl | rfl | rfl <;> rfl
theorem bytes_part1 {w : World} {b T : Nat} {d1 d2 : List UInt8} (h : Rg.Blk w b T (Cv.bytesV (d1 ++ d2))) (_h1 : d1.length = 32) : Cv.Bytes w b 0 d1 := fun j x hx =>
  Cv.Bytes.of_blk h j x (by rw [List.getElem?_append_left (List.getElem?_eq_some_iff.1 hx).1]; exact hx)
theorem bytes_part2 {w : World} {b T : Nat} {d1 d2 : List UInt8} (h : Rg.Blk w b T (Cv.bytesV (d1 ++ d2))) (h1 : d1.length = 32) : Cv.Bytes w b 32 d2 := fun j x hx => by
  have := Cv.Bytes.of_blk h (32 + j) x (by rw [List.getElem?_append_right (by omega), h1, Nat.add_sub_cancel_left]; exact hx)
  rwa [Nat.zero_add] at this
set_option maxRecDepth 20000 in
set_option maxHeartbeats 16000000 in
theorem derives_pos (w : World) (a : Nat → Addr) (hE : Ei.ErrsAll w a) (hY : Ei.ErrTy w) (hT : Sha.Tables w) (s h : List UInt8) (hs : s.length = 32) (hh : h.length = 32) (n : Int) (hn : 0 ≤ n) :
    Calls Tryz.prog 4 #[.agg (Cv.bytesV s), .agg (Cv.bytesV h), .int .i64 n] w fun e w' => e = .returned (.bool true) ∧ Below w.heap.size w w' := by
  obtain ⟨mm, hmm⟩ : ∃ m : Nat, max 0 (min n 200) = (m : Int) := ⟨(max 0 (min n 200)).toNat, by omega⟩
  have hmm2 : mm ≤ 200 := by omega
  obtain ⟨r, hr⟩ : ∃ r, mm % 6 = r := ⟨_, rfl⟩
  have er : (mm : Int).tmod 6 = (r : Int) := by rw [Int.tmod_eq_emod_of_nonneg (by omega)]; omega
  obtain ⟨c, hc⟩ : ∃ c, UInt8.ofNat (65 + r) = c := ⟨_, rfl⟩
  have ec : wrap64 (65 + (r : Int)) % 256 = (c.toNat : Int) := by
    have hr6 : r < 6 := by omega
    exact letter_eq r hr6 c hc
  obtain ⟨x, hx⟩ : ∃ x, h.getD 0 0 = x := ⟨_, rfl⟩
  obtain ⟨y, hy⟩ : ∃ y, s.getD 0 0 = y := ⟨_, rfl⟩
  obtain ⟨z, hz⟩ : ∃ z, x ^^^ y = z := ⟨_, rfl⟩
  have ex : bits .xor .u8 (x.toNat : Int) (y.toNat : Int) = (z.toNat : Int) := hz ▸ xor_u8 x y
  have HCX := Lib.hid (show (Cv.bytesV h)[0]? = some (.int .u8 (x.toNat : Int)) from Cv.bytesV_get _ _ _ (by rw [← hx, List.getD_eq_getElem?_getD, List.getElem?_eq_getElem (by omega)]; rfl))
  have HCY := Lib.hid (show (Cv.bytesV s)[0]? = some (.int .u8 (y.toNat : Int)) from Cv.bytesV_get _ _ _ (by rw [← hy, List.getD_eq_getElem?_getD, List.getElem?_eq_getElem (by omega)]; rfl))
  obtain ⟨il, hil⟩ : ∃ l, h.set 0 z = l := ⟨_, rfl⟩
  have HIL := Lib.hid hil
  have HLib := Lib.hid (show il.length = 32 from by rw [← hil, List.length_set, hh])
  obtain ⟨d0, hd0⟩ : ∃ l, derL s h il c mm = l := ⟨_, rfl⟩
  obtain ⟨d1, hd1⟩ : ∃ l, derL s h il 67 32 = l := ⟨_, rfl⟩
  obtain ⟨d2, hd2⟩ : ∃ l, derL s h il 68 32 = l := ⟨_, rfl⟩
  have Hd1 := Lib.hid (show d1.length = 32 from by rw [← hd1, derL_len])
  have Hd2 := Lib.hid (show d2.length = 32 from by rw [← hd2, derL_len])
  have DE := Lib.hid (fun W (hW : Sha.Tables W) => show Calls Tryz.prog 11 #[.agg (Cv.bytesV s), .agg (Cv.bytesV h), .agg (Cv.bytesV il), .int .u8 c.toNat, .int .i64 mm] W fun e w' => e = .returned (.string ⟨d0.toArray⟩) ∧ Below W.heap.size W w' from by
    have := Derive_any W s h il hs hh HLib.out c (mm : Int) (by omega) hW
    rwa [show (mm : Int).toNat = mm by omega, hd0] at this)
  have KE := Lib.hid (fun W (hW : Sha.Tables W) => show Calls Tryz.prog 12 #[.agg (Cv.bytesV s), .agg (Cv.bytesV h), .agg (Cv.bytesV il)] W fun e w' => e = .returned (.agg (Cv.bytesV (d1 ++ d2))) ∧ Below W.heap.size W w' from by
    have := Keys_any W s h il hs hh HLib.out hW
    unfold keysL at this
    rwa [hd1, hd2] at this)
  have Rd0 := Lib.hid (fun W => show Calls Tryz.prog 13 #[.string ⟨s.toArray⟩, .string ⟨h.toArray⟩, .string ⟨il.toArray⟩, .int .u8 c.toNat, .int .i64 mm] W fun e w' => e = .returned (.string ⟨d0.toArray⟩) ∧ Below W.heap.size W w' from hd0 ▸ RefDerive_any W s h il hs hh HLib.out c mm (by omega))
  have Rd1 := Lib.hid (fun W => show Calls Tryz.prog 13 #[.string ⟨s.toArray⟩, .string ⟨h.toArray⟩, .string ⟨il.toArray⟩, .int .u8 67, .int .i64 32] W fun e w' => e = .returned (.string ⟨d1.toArray⟩) ∧ Below W.heap.size W w' from hd1 ▸ RefDerive_any W s h il hs hh HLib.out 67 32 (by decide))
  have Rd2 := Lib.hid (fun W => show Calls Tryz.prog 13 #[.string ⟨s.toArray⟩, .string ⟨h.toArray⟩, .string ⟨il.toArray⟩, .int .u8 68, .int .i64 32] W fun e w' => e = .returned (.string ⟨d2.toArray⟩) ∧ Below W.heap.size W w' from hd2 ▸ RefDerive_any W s h il hs hh HLib.out 68 32 (by decide))
  have HE := Lib.hid hE
  have HY := Lib.hid hY
  have HT := Lib.hid hT
  have HLsb := Lib.hid hs
  have HLhb := Lib.hid hh
  have HKZ := Lib.hid (show (Cv.bytesV (d1 ++ d2)).size = 64 from by rw [Cv.bytesV_size, List.length_append, Hd1.out, Hd2.out])
  have HHZ := Lib.hid (show (Cv.bytesV h).size = 32 from by rw [Cv.bytesV_size, hh])
  have hdn : decide (n < 0) = false := by simp; omega
  have hnn : ¬ n < 0 := by omega
  clear hE hY hT hs hh hd0 hd1 hd2 hr hc hx hy hz hil
  go_enter Tryz.func4, Tryz.ntmps4
  have tok1 := True.intro
  go_upto_region 1 with (first
    | (have _t := tok1; (with_reducible refine gate_ ?_); refine Rg.box_fresh rfl 22 _ rfl (Cv.bytesV s) rfl ?_; intro X hX hbX hnX; have HX := Lib.hid hX; have HBX := Lib.hid hbX; have HNX := Lib.hid hnX; clear hX hbX hnX; have tok2 := True.intro; clear _t tok1)
    | (have _t := tok2; (with_reducible refine gate_ ?_); refine Rg.box_fresh rfl 22 _ rfl (Cv.bytesV h) rfl ?_; intro X2 hX hbX hnX; have HX2 := Lib.hid hX; have HBX2 := Lib.hid hbX; have HNX2 := Lib.hid hnX; clear hX hbX hnX; clear _t tok2))
  obtain ⟨sb, hsb⟩ : ∃ n, w.heap.size = n := ⟨_, rfl⟩
  obtain ⟨hb, hhb⟩ : ∃ n, X.heap.size = n := ⟨_, rfl⟩
  have HS := Lib.hid (show Rg.Blk X2 sb 22 (Cv.bytesV s) from ((hsb ▸ HX.out).below HBX2.out (by rw [← hsb]; exact HX.out.lt)))
  have HH := Lib.hid (show Rg.Blk X2 hb 22 (Cv.bytesV h) from (hhb ▸ HX2.out))
  have HB := Lib.hid (show Below w.heap.size w X2 from (HBX.out.trans (HBX2.out.mono HBX.out.size)))
  try rw [hsb]
  try rw [hhb]
  clear HX HBX HNX HX2 HBX2 HNX2 hsb hhb
  go_upto_region 3 with (go_at_call 7; refine (awake14 _ a (HE.out.below HB.out) (HY.out.below HB.out) (tables_later HT.out HB.out)).mono ?_; rintro e w1 ⟨rfl, hb1⟩; skip; have HS1 := Lib.hid (HS.out.below hb1 HS.out.lt); have HH1 := Lib.hid (HH.out.below hb1 HH.out.lt); have HB1 := Lib.hid (HB.out.trans (hb1.mono HB.out.size)); clear hb1)
  clear HS HH HB
  go_upto_region 4 with (first
    | ((with_reducible refine gate_ ?_); refine Cv.load_cells rfl 22 _ rfl hb 0 rfl (Cv.bytesV (h)) _ (fun j v hv => by rw [Nat.zero_add]; exact HH1.out.cell j hv) Tryz.underlying22 rfl (by rw [Cv.bytesV_size, HLhb.out]; kernel_rfl) ?_; skip)
    | (refine Rg.store_fresh rfl 22 _ _ rfl (Cv.bytesV h) _ 22 rfl rfl (by rw [HHZ.out]; kernel_rfl) (by rw [HHZ.out]; rfl) (Cv.bytesV_one _) ?_; intro V1 hX hbX; have HV1 := Lib.hid hX; have HBV1 := Lib.hid hbX; clear hX hbX))
  obtain ⟨ib, hib⟩ : ∃ n, w1.heap.size = n := ⟨_, rfl⟩
  have HI := Lib.hid (hib ▸ HV1.out)
  have HS := Lib.hid (HS1.out.below HBV1.out HS1.out.lt)
  have HH := Lib.hid (HH1.out.below HBV1.out HH1.out.lt)
  have HB := Lib.hid (HB1.out.trans (HBV1.out.mono HB1.out.size))
  have HNI := Lib.hid (show ib ≠ sb ∧ ib ≠ hb ∧ w.heap.size ≤ ib from by have h1 := HS1.out.lt; have h2 := HH1.out.lt; have h3 := HB1.out.size; omega)
  try rw [hib]
  clear HS1 HH1 HB1 HBV1 HV1 hib
  have cx := HI.out.cell 0 HCX.out
  have cy := HS.out.cell 0 HCY.out
  go_upto_region 5 with ((with_reducible refine gate_ ?_); refine Cv.store_byte rfl 5 _ _ rfl (b := ib) (j := 0) (l := h) (v := z) rfl rfl Tryz.underlying5 (by kernel_rfl) HI.out (by rw [HLhb.out]; decide) ?_; intro V2 hV hgV; have HV2 := Lib.hid (show Rg.Blk V2 ib 22 (Cv.bytesV il) from HIL.out ▸ hV); have HG2 := Lib.hid hgV; clear hV hgV)
  have HI := HV2
  have HS := Lib.hid (blk_other HS.out HG2.out HNI.out.1)
  have HH := Lib.hid (blk_other HH.out HG2.out HNI.out.2.1)
  have HB := Lib.hid (HB.out.grown HG2.out HB.out.size (fun j e => by cases e; exact HNI.out.2.2))
  have HT2 := Lib.hid (tables_later HT.out HB.out)
  clear cx cy HV2 HG2 ex HCX HCY
  go_upto_region 8 with (first
    | ((with_reducible refine gate_ ?_); refine Cv.load_cells rfl 22 _ rfl sb 0 rfl (Cv.bytesV (s)) _ (fun j v hv => by rw [Nat.zero_add]; exact HS.out.cell j hv) Tryz.underlying22 rfl (by rw [Cv.bytesV_size, HLsb.out]; kernel_rfl) ?_; skip)
    | ((with_reducible refine gate_ ?_); refine Cv.load_cells rfl 22 _ rfl hb 0 rfl (Cv.bytesV (h)) _ (fun j v hv => by rw [Nat.zero_add]; exact HH.out.cell j hv) Tryz.underlying22 rfl (by rw [Cv.bytesV_size, HLhb.out]; kernel_rfl) ?_; skip)
    | ((with_reducible refine gate_ ?_); refine Cv.load_cells rfl 22 _ rfl ib 0 rfl (Cv.bytesV (il)) _ (fun j v hv => by rw [Nat.zero_add]; exact HI.out.cell j hv) Tryz.underlying22 rfl (by rw [Cv.bytesV_size, HLib.out]; kernel_rfl) ?_; skip)
    | (go_at_call 11; refine (DE.out _ HT2.out).mono ?_; rintro e w3 ⟨rfl, hb1⟩; skip; have HB3 := Lib.hid hb1; clear hb1))
  have HI := Lib.hid (HI.out.below HB3.out HI.out.lt)
  have HS := Lib.hid (HS.out.below HB3.out HS.out.lt)
  have HH := Lib.hid (HH.out.below HB3.out HH.out.lt)
  have HT2 := Lib.hid (tables_later HT2.out HB3.out)
  have HB := Lib.hid (HB.out.trans (HB3.out.mono HB.out.size))
  clear HB3
  go_upto_region 8 with fail
  refine wp_region_lit ?_
  refine' wpList_val rfl (.int .i64 n) ?hv ?_
  case hv => (go_simp; try with_reducible rfl)
  (try simp only [Act.put, List.setIfInBounds_toArray, List.set_cons_zero, List.set_cons_succ])
  refine' wpList_val rfl (.bool false) ?hv ?_
  case hv => (go_simp; try with_reducible rfl)
  (try simp only [Act.put, List.setIfInBounds_toArray, List.set_cons_zero, List.set_cons_succ])
  refine' wpList_val rfl (.bool false) ?hv ?_
  case hv => (go_simp; try with_reducible rfl)
  (try simp only [Act.put, List.setIfInBounds_toArray, List.set_cons_zero, List.set_cons_succ])
  refine wpList_unwanted (by kernel_rfl) ?_
  (try simp only [Act.put, List.setIfInBounds_toArray, List.set_cons_zero, List.set_cons_succ])
  refine wpList_unwanted (by kernel_rfl) ?_
  (try simp only [Act.put, List.setIfInBounds_toArray, List.set_cons_zero, List.set_cons_succ])
  refine wpList_unwanted (by kernel_rfl) ?_
  (try simp only [Act.put, List.setIfInBounds_toArray, List.set_cons_zero, List.set_cons_succ])
  refine wpList_unwanted (by kernel_rfl) ?_
  (try simp only [Act.put, List.setIfInBounds_toArray, List.set_cons_zero, List.set_cons_succ])
  refine wpList_unwanted (by kernel_rfl) ?_
  (try simp only [Act.put, List.setIfInBounds_toArray, List.set_cons_zero, List.set_cons_succ])
  refine wpList_unwanted (by kernel_rfl) ?_
  (try simp only [Act.put, List.setIfInBounds_toArray, List.set_cons_zero, List.set_cons_succ])
  refine wpList_unwanted (by kernel_rfl) ?_
  (try simp only [Act.put, List.setIfInBounds_toArray, List.set_cons_zero, List.set_cons_succ])
  refine' wpList_val rfl (.bool false) ?hv ?_
  case hv => (go_simp; try with_reducible rfl)
  (try simp only [Act.put, List.setIfInBounds_toArray, List.set_cons_zero, List.set_cons_succ])
  go_upto_region 10 with fail
  go_upto_region 11 with (first
    | ((with_reducible refine gate_ ?_); refine Cv.load_cells rfl 22 _ rfl sb 0 rfl (Cv.bytesV (s)) _ (fun j v hv => by rw [Nat.zero_add]; exact HS.out.cell j hv) Tryz.underlying22 rfl (by rw [Cv.bytesV_size, HLsb.out]; kernel_rfl) ?_; skip)
    | ((with_reducible refine gate_ ?_); refine Cv.load_cells rfl 22 _ rfl hb 0 rfl (Cv.bytesV (h)) _ (fun j v hv => by rw [Nat.zero_add]; exact HH.out.cell j hv) Tryz.underlying22 rfl (by rw [Cv.bytesV_size, HLhb.out]; kernel_rfl) ?_; skip)
    | ((with_reducible refine gate_ ?_); refine Cv.load_cells rfl 22 _ rfl ib 0 rfl (Cv.bytesV (il)) _ (fun j v hv => by rw [Nat.zero_add]; exact HI.out.cell j hv) Tryz.underlying22 rfl (by rw [Cv.bytesV_size, HLib.out]; kernel_rfl) ?_; skip)
    | (go_at_call 12; refine (KE.out _ HT2.out).mono ?_; rintro e w5 ⟨rfl, hb1⟩; skip; have HB5 := Lib.hid hb1; clear hb1)
    | (refine Rg.store_fresh rfl 33 _ _ rfl (Cv.bytesV (d1 ++ d2)) _ 33 rfl rfl (by rw [HKZ.out]; kernel_rfl) (by rw [HKZ.out]; rfl) (Cv.bytesV_one _) ?_; intro V hX hbX; have HV := Lib.hid hX; have HBV := Lib.hid hbX; clear hX hbX))
  obtain ⟨kb, hkb⟩ : ∃ n, w5.heap.size = n := ⟨_, rfl⟩
  have HK := Lib.hid (hkb ▸ HV.out)
  have HBX := Lib.hid (HB5.out.trans (HBV.out.mono HB5.out.size))
  have HI := Lib.hid (HI.out.below HBX.out HI.out.lt)
  have HS := Lib.hid (HS.out.below HBX.out HS.out.lt)
  have HH := Lib.hid (HH.out.below HBX.out HH.out.lt)
  have HB := Lib.hid (HB.out.trans (HBX.out.mono HB.out.size))
  try rw [hkb]
  clear HB5 HBV HBX HV hkb
  refine RL.start (RL.Aft V) (by kernel_rfl) (RL.Aft.drew (RL.Aft.refl V)) ?_
  refine' RL.takeV (i := 0) (v := _) rfl (by kernel_rfl) (by kernel_rfl) (by kernel_rfl) (fun _ _ _ h => h) (by rfl) ?hk21 ?_
  case hk21 => (intro W hSW; go_simp; try with_reducible rfl)
  (try simp only [Act.put, List.setIfInBounds_toArray, List.set_cons_zero, List.set_cons_succ])
  refine' RL.takeV (i := 1) (v := _) rfl (by kernel_rfl) (by kernel_rfl) (by kernel_rfl) (fun _ _ _ h => h) (by rfl) ?hk22 ?_
  case hk22 => (intro W hSW; go_simp; try with_reducible rfl)
  (try simp only [Act.put, List.setIfInBounds_toArray, List.set_cons_zero, List.set_cons_succ])
  refine' RL.takeV (i := 2) (v := _) rfl (by kernel_rfl) (by kernel_rfl) (by kernel_rfl) (fun _ _ _ h => h) (by rfl) ?hk23 ?_
  case hk23 => (intro W hSW; have x1 := Cv.run_string_len (P := Tryz.prog) W 36 5 9 Tryz.underlying36 Tryz.underlying5 Tryz.underlying9 sb 0 32 32 s HLsb.out (Cv.Bytes.of_blk (aft_blk hSW HS.out)); go_simp; try with_reducible rfl)
  (try simp only [Act.put, List.setIfInBounds_toArray, List.set_cons_zero, List.set_cons_succ])
  refine' RL.takeV (i := 3) (v := _) rfl (by kernel_rfl) (by kernel_rfl) (by kernel_rfl) (fun _ _ _ h => h) (by rfl) ?hk24 ?_
  case hk24 => (intro W hSW; go_simp; try with_reducible rfl)
  (try simp only [Act.put, List.setIfInBounds_toArray, List.set_cons_zero, List.set_cons_succ])
  refine' RL.takeV (i := 4) (v := _) rfl (by kernel_rfl) (by kernel_rfl) (by kernel_rfl) (fun _ _ _ h => h) (by rfl) ?hk25 ?_
  case hk25 => (intro W hSW; have x1 := Cv.run_string_len (P := Tryz.prog) W 36 5 9 Tryz.underlying36 Tryz.underlying5 Tryz.underlying9 hb 0 32 32 h HLhb.out (Cv.Bytes.of_blk (aft_blk hSW HH.out)); go_simp; try with_reducible rfl)
  (try simp only [Act.put, List.setIfInBounds_toArray, List.set_cons_zero, List.set_cons_succ])
  refine' RL.takeV (i := 5) (v := _) rfl (by kernel_rfl) (by kernel_rfl) (by kernel_rfl) (fun _ _ _ h => h) (by rfl) ?hk26 ?_
  case hk26 => (intro W hSW; go_simp; try with_reducible rfl)
  (try simp only [Act.put, List.setIfInBounds_toArray, List.set_cons_zero, List.set_cons_succ])
  refine' RL.takeV (i := 6) (v := _) rfl (by kernel_rfl) (by kernel_rfl) (by kernel_rfl) (fun _ _ _ h => h) (by rfl) ?hk27 ?_
  case hk27 => (intro W hSW; have x1 := Cv.run_string_len (P := Tryz.prog) W 36 5 9 Tryz.underlying36 Tryz.underlying5 Tryz.underlying9 ib 0 32 32 il HLib.out (Cv.Bytes.of_blk (aft_blk hSW HI.out)); go_simp; try with_reducible rfl)
  (try simp only [Act.put, List.setIfInBounds_toArray, List.set_cons_zero, List.set_cons_succ])
  refine' RL.takeV (i := 7) (v := _) rfl (by kernel_rfl) (by kernel_rfl) (by kernel_rfl) (fun _ _ _ h => h) (by rfl) ?hk28 ?_
  case hk28 => (intro W hSW; go_simp; try with_reducible rfl)
  (try simp only [Act.put, List.setIfInBounds_toArray, List.set_cons_zero, List.set_cons_succ])
  refine' RL.takeV (i := 8) (v := _) rfl (by kernel_rfl) (by kernel_rfl) (by kernel_rfl) (fun _ _ _ h => h) (by rfl) ?hk29 ?_
  case hk29 => (intro W hSW; go_simp; try with_reducible rfl)
  (try simp only [Act.put, List.setIfInBounds_toArray, List.set_cons_zero, List.set_cons_succ])
  refine' RL.takeC (i := 9) (v := .string ⟨d0.toArray⟩) 13 #[.string ⟨s.toArray⟩, .string ⟨h.toArray⟩, .string ⟨il.toArray⟩, .int .u8 c.toNat, .int .i64 mm] rfl (by kernel_rfl) (by kernel_rfl) (by kernel_rfl) (fun _ _ _ h => h) (by rfl) ?hk30 ?hc30 ?_
  case hk30 => (intro W; go_simp; try with_reducible rfl)
  case hc30 => (intro W hSW; exact (Rd0.out W).mono (fun e w9 h9 => ⟨h9.1, h9.2, RL.Aft.lat hSW h9.2⟩))
  (try simp only [Act.put, List.setIfInBounds_toArray, List.set_cons_zero, List.set_cons_succ])
  refine' RL.takeV (i := 10) (v := _) rfl (by kernel_rfl) (by kernel_rfl) (by kernel_rfl) (fun _ _ _ h => h) (by rfl) ?hk31 ?_
  case hk31 => (intro W hSW; go_simp; try with_reducible rfl)
  (try simp only [Act.put, List.setIfInBounds_toArray, List.set_cons_zero, List.set_cons_succ])
  refine' RL.takeV (i := 11) (v := _) rfl (by kernel_rfl) (by kernel_rfl) (by kernel_rfl) (fun _ _ _ h => h) (by rfl) ?hk32 ?_
  case hk32 => (intro W hSW; go_simp; try with_reducible rfl)
  (try simp only [Act.put, List.setIfInBounds_toArray, List.set_cons_zero, List.set_cons_succ])
  refine' RL.takeV (i := 12) (v := _) rfl (by kernel_rfl) (by kernel_rfl) (by kernel_rfl) (fun _ _ _ h => h) (by rfl) ?hk33 ?_
  case hk33 => (intro W hSW; go_simp; try with_reducible rfl)
  (try simp only [Act.put, List.setIfInBounds_toArray, List.set_cons_zero, List.set_cons_succ])
  refine' RL.takeV (i := 13) (v := _) rfl (by kernel_rfl) (by kernel_rfl) (by kernel_rfl) (fun _ _ _ h => h) (by rfl) ?hk34 ?_
  case hk34 => (intro W hSW; go_simp; try with_reducible rfl)
  (try simp only [Act.put, List.setIfInBounds_toArray, List.set_cons_zero, List.set_cons_succ])
  refine' RL.takeV (i := 14) (v := _) rfl (by kernel_rfl) (by kernel_rfl) (by kernel_rfl) (fun _ _ _ h => h) (by rfl) ?hk35 ?_
  case hk35 => (intro W hSW; have x1 := Cv.run_string_len (P := Tryz.prog) W 36 5 9 Tryz.underlying36 Tryz.underlying5 Tryz.underlying9 kb 0 32 32 d1 Hd1.out (bytes_part1 (aft_blk hSW HK.out) Hd1.out); go_simp; try with_reducible rfl)
  (try simp only [Act.put, List.setIfInBounds_toArray, List.set_cons_zero, List.set_cons_succ])
  refine' RL.takeV (i := 15) (v := _) rfl (by kernel_rfl) (by kernel_rfl) (by kernel_rfl) (fun _ _ _ h => h) (by rfl) ?hk36 ?_
  case hk36 => (intro W hSW; go_simp; try with_reducible rfl)
  (try simp only [Act.put, List.setIfInBounds_toArray, List.set_cons_zero, List.set_cons_succ])
  refine' RL.takeV (i := 16) (v := _) rfl (by kernel_rfl) (by kernel_rfl) (by kernel_rfl) (fun _ _ _ h => h) (by rfl) ?hk37 ?_
  case hk37 => (intro W hSW; have x1 := Cv.run_string_len (P := Tryz.prog) W 36 5 9 Tryz.underlying36 Tryz.underlying5 Tryz.underlying9 sb 0 32 32 s HLsb.out (Cv.Bytes.of_blk (aft_blk hSW HS.out)); go_simp; try with_reducible rfl)
  (try simp only [Act.put, List.setIfInBounds_toArray, List.set_cons_zero, List.set_cons_succ])
  refine' RL.takeV (i := 17) (v := _) rfl (by kernel_rfl) (by kernel_rfl) (by kernel_rfl) (fun _ _ _ h => h) (by rfl) ?hk38 ?_
  case hk38 => (intro W hSW; go_simp; try with_reducible rfl)
  (try simp only [Act.put, List.setIfInBounds_toArray, List.set_cons_zero, List.set_cons_succ])
  refine' RL.takeV (i := 18) (v := _) rfl (by kernel_rfl) (by kernel_rfl) (by kernel_rfl) (fun _ _ _ h => h) (by rfl) ?hk39 ?_
  case hk39 => (intro W hSW; have x1 := Cv.run_string_len (P := Tryz.prog) W 36 5 9 Tryz.underlying36 Tryz.underlying5 Tryz.underlying9 hb 0 32 32 h HLhb.out (Cv.Bytes.of_blk (aft_blk hSW HH.out)); go_simp; try with_reducible rfl)
  (try simp only [Act.put, List.setIfInBounds_toArray, List.set_cons_zero, List.set_cons_succ])
  refine' RL.takeV (i := 19) (v := _) rfl (by kernel_rfl) (by kernel_rfl) (by kernel_rfl) (fun _ _ _ h => h) (by rfl) ?hk40 ?_
  case hk40 => (intro W hSW; go_simp; try with_reducible rfl)
  (try simp only [Act.put, List.setIfInBounds_toArray, List.set_cons_zero, List.set_cons_succ])
  refine' RL.takeV (i := 20) (v := _) rfl (by kernel_rfl) (by kernel_rfl) (by kernel_rfl) (fun _ _ _ h => h) (by rfl) ?hk41 ?_
  case hk41 => (intro W hSW; have x1 := Cv.run_string_len (P := Tryz.prog) W 36 5 9 Tryz.underlying36 Tryz.underlying5 Tryz.underlying9 ib 0 32 32 il HLib.out (Cv.Bytes.of_blk (aft_blk hSW HI.out)); go_simp; try with_reducible rfl)
  (try simp only [Act.put, List.setIfInBounds_toArray, List.set_cons_zero, List.set_cons_succ])
  refine' RL.takeC (i := 21) (v := .string ⟨d1.toArray⟩) 13 #[.string ⟨s.toArray⟩, .string ⟨h.toArray⟩, .string ⟨il.toArray⟩, .int .u8 67, .int .i64 32] rfl (by kernel_rfl) (by kernel_rfl) (by kernel_rfl) (fun _ _ _ h => h) (by rfl) ?hk42 ?hc42 ?_
  case hk42 => (intro W; go_simp; try with_reducible rfl)
  case hc42 => (intro W hSW; exact (Rd1.out W).mono (fun e w9 h9 => ⟨h9.1, h9.2, RL.Aft.lat hSW h9.2⟩))
  (try simp only [Act.put, List.setIfInBounds_toArray, List.set_cons_zero, List.set_cons_succ])
  refine' RL.takeV (i := 22) (v := _) rfl (by kernel_rfl) (by kernel_rfl) (by kernel_rfl) (fun _ _ _ h => h) (by rfl) ?hk43 ?_
  case hk43 => (intro W hSW; go_simp; try with_reducible rfl)
  (try simp only [Act.put, List.setIfInBounds_toArray, List.set_cons_zero, List.set_cons_succ])
  refine' RL.takeV (i := 23) (v := _) rfl (by kernel_rfl) (by kernel_rfl) (by kernel_rfl) (fun _ _ _ h => h) (by rfl) ?hk44 ?_
  case hk44 => (intro W hSW; go_simp; try with_reducible rfl)
  (try simp only [Act.put, List.setIfInBounds_toArray, List.set_cons_zero, List.set_cons_succ])
  refine' RL.takeV (i := 24) (v := _) rfl (by kernel_rfl) (by kernel_rfl) (by kernel_rfl) (fun _ _ _ h => h) (by rfl) ?hk45 ?_
  case hk45 => (intro W hSW; go_simp; try with_reducible rfl)
  (try simp only [Act.put, List.setIfInBounds_toArray, List.set_cons_zero, List.set_cons_succ])
  refine' RL.takeV (i := 25) (v := _) rfl (by kernel_rfl) (by kernel_rfl) (by kernel_rfl) (fun _ _ _ h => h) (by rfl) ?hk46 ?_
  case hk46 => (intro W hSW; go_simp; try with_reducible rfl)
  (try simp only [Act.put, List.setIfInBounds_toArray, List.set_cons_zero, List.set_cons_succ])
  refine' RL.takeV (i := 26) (v := _) rfl (by kernel_rfl) (by kernel_rfl) (by kernel_rfl) (fun _ _ _ h => h) (by rfl) ?hk47 ?_
  case hk47 => (intro W hSW; go_simp; try with_reducible rfl)
  (try simp only [Act.put, List.setIfInBounds_toArray, List.set_cons_zero, List.set_cons_succ])
  refine' RL.takeV (i := 27) (v := _) rfl (by kernel_rfl) (by kernel_rfl) (by kernel_rfl) (fun _ _ _ h => h) (by rfl) ?hk48 ?_
  case hk48 => (intro W hSW; have x1 := Cv.run_string_len (P := Tryz.prog) W 36 5 9 Tryz.underlying36 Tryz.underlying5 Tryz.underlying9 kb 32 32 32 d2 Hd2.out (bytes_part2 (aft_blk hSW HK.out) Hd1.out); go_simp; try with_reducible rfl)
  (try simp only [Act.put, List.setIfInBounds_toArray, List.set_cons_zero, List.set_cons_succ])
  refine' RL.takeV (i := 28) (v := _) rfl (by kernel_rfl) (by kernel_rfl) (by kernel_rfl) (fun _ _ _ h => h) (by rfl) ?hk49 ?_
  case hk49 => (intro W hSW; go_simp; try with_reducible rfl)
  (try simp only [Act.put, List.setIfInBounds_toArray, List.set_cons_zero, List.set_cons_succ])
  refine' RL.takeV (i := 29) (v := _) rfl (by kernel_rfl) (by kernel_rfl) (by kernel_rfl) (fun _ _ _ h => h) (by rfl) ?hk50 ?_
  case hk50 => (intro W hSW; have x1 := Cv.run_string_len (P := Tryz.prog) W 36 5 9 Tryz.underlying36 Tryz.underlying5 Tryz.underlying9 sb 0 32 32 s HLsb.out (Cv.Bytes.of_blk (aft_blk hSW HS.out)); go_simp; try with_reducible rfl)
  (try simp only [Act.put, List.setIfInBounds_toArray, List.set_cons_zero, List.set_cons_succ])
  refine' RL.takeV (i := 30) (v := _) rfl (by kernel_rfl) (by kernel_rfl) (by kernel_rfl) (fun _ _ _ h => h) (by rfl) ?hk51 ?_
  case hk51 => (intro W hSW; go_simp; try with_reducible rfl)
  (try simp only [Act.put, List.setIfInBounds_toArray, List.set_cons_zero, List.set_cons_succ])
  refine' RL.takeV (i := 31) (v := _) rfl (by kernel_rfl) (by kernel_rfl) (by kernel_rfl) (fun _ _ _ h => h) (by rfl) ?hk52 ?_
  case hk52 => (intro W hSW; have x1 := Cv.run_string_len (P := Tryz.prog) W 36 5 9 Tryz.underlying36 Tryz.underlying5 Tryz.underlying9 hb 0 32 32 h HLhb.out (Cv.Bytes.of_blk (aft_blk hSW HH.out)); go_simp; try with_reducible rfl)
  (try simp only [Act.put, List.setIfInBounds_toArray, List.set_cons_zero, List.set_cons_succ])
  refine' RL.takeV (i := 32) (v := _) rfl (by kernel_rfl) (by kernel_rfl) (by kernel_rfl) (fun _ _ _ h => h) (by rfl) ?hk53 ?_
  case hk53 => (intro W hSW; go_simp; try with_reducible rfl)
  (try simp only [Act.put, List.setIfInBounds_toArray, List.set_cons_zero, List.set_cons_succ])
  refine' RL.takeV (i := 33) (v := _) rfl (by kernel_rfl) (by kernel_rfl) (by kernel_rfl) (fun _ _ _ h => h) (by rfl) ?hk54 ?_
  case hk54 => (intro W hSW; have x1 := Cv.run_string_len (P := Tryz.prog) W 36 5 9 Tryz.underlying36 Tryz.underlying5 Tryz.underlying9 ib 0 32 32 il HLib.out (Cv.Bytes.of_blk (aft_blk hSW HI.out)); go_simp; try with_reducible rfl)
  (try simp only [Act.put, List.setIfInBounds_toArray, List.set_cons_zero, List.set_cons_succ])
  refine' RL.takeC (i := 34) (v := .string ⟨d2.toArray⟩) 13 #[.string ⟨s.toArray⟩, .string ⟨h.toArray⟩, .string ⟨il.toArray⟩, .int .u8 68, .int .i64 32] rfl (by kernel_rfl) (by kernel_rfl) (by kernel_rfl) (fun _ _ _ h => h) (by rfl) ?hk55 ?hc55 ?_
  case hk55 => (intro W; go_simp; try with_reducible rfl)
  case hc55 => (intro W hSW; exact (Rd2.out W).mono (fun e w9 h9 => ⟨h9.1, h9.2, RL.Aft.lat hSW h9.2⟩))
  (try simp only [Act.put, List.setIfInBounds_toArray, List.set_cons_zero, List.set_cons_succ])
  refine' RL.takeV (i := 35) (v := _) rfl (by kernel_rfl) (by kernel_rfl) (by kernel_rfl) (fun _ _ _ h => h) (by rfl) ?hk56 ?_
  case hk56 => (intro W hSW; go_simp; try with_reducible rfl)
  (try simp only [Act.put, List.setIfInBounds_toArray, List.set_cons_zero, List.set_cons_succ])
  refine' RL.takeV (i := 36) (v := _) rfl (by kernel_rfl) (by kernel_rfl) (by kernel_rfl) (fun _ _ _ h => h) (by rfl) ?hk57 ?_
  case hk57 => (intro W hSW; go_simp; try with_reducible rfl)
  (try simp only [Act.put, List.setIfInBounds_toArray, List.set_cons_zero, List.set_cons_succ])
  refine RL.stepK (i := 37) rfl (by kernel_rfl) (by rfl) (fun we hlwe hswe K hK => ?_)
  go_simp
  refine hK.out _ _ hswe ?_
  clear hK
  (try simp only [Act.put, List.setIfInBounds_toArray, List.set_cons_zero, List.set_cons_succ])
  refine RL.done (by kernel_rfl) (fun Y3 hlY3 hsY3 => ?_)
  have HA := Lib.hid (show RL.Aft V Y3 from hsY3)
  clear hlY3 hsY3 hlwe hswe
  go_wp2_with fail
  go_ret
  exact ⟨rfl, HB.out.trans (Below.mono HA.out HB.out.size)⟩
set_option maxRecDepth 20000 in
set_option maxHeartbeats 16000000 in
theorem derives_neg (w : World) (a : Nat → Addr) (hE : Ei.ErrsAll w a) (hY : Ei.ErrTy w) (hT : Sha.Tables w) (s h : List UInt8) (hs : s.length = 32) (hh : h.length = 32) (n : Int) (hn : n < 0) :
    Calls Tryz.prog 4 #[.agg (Cv.bytesV s), .agg (Cv.bytesV h), .int .i64 n] w fun e w' => e = .returned (.bool true) ∧ Below w.heap.size w w' := by
  obtain ⟨mm, hmm⟩ : ∃ m : Nat, max 0 (min n 200) = (m : Int) := ⟨(max 0 (min n 200)).toNat, by omega⟩
  have hmm2 : mm ≤ 200 := by omega
  obtain ⟨r, hr⟩ : ∃ r, mm % 6 = r := ⟨_, rfl⟩
  have er : (mm : Int).tmod 6 = (r : Int) := by rw [Int.tmod_eq_emod_of_nonneg (by omega)]; omega
  obtain ⟨c, hc⟩ : ∃ c, UInt8.ofNat (65 + r) = c := ⟨_, rfl⟩
  have ec : wrap64 (65 + (r : Int)) % 256 = (c.toNat : Int) := by
    have hr6 : r < 6 := by omega
    exact letter_eq r hr6 c hc
  obtain ⟨x, hx⟩ : ∃ x, h.getD 0 0 = x := ⟨_, rfl⟩
  obtain ⟨y, hy⟩ : ∃ y, s.getD 0 0 = y := ⟨_, rfl⟩
  obtain ⟨z, hz⟩ : ∃ z, x ^^^ y = z := ⟨_, rfl⟩
  have ex : bits .xor .u8 (x.toNat : Int) (y.toNat : Int) = (z.toNat : Int) := hz ▸ xor_u8 x y
  have HCX := Lib.hid (show (Cv.bytesV h)[0]? = some (.int .u8 (x.toNat : Int)) from Cv.bytesV_get _ _ _ (by rw [← hx, List.getD_eq_getElem?_getD, List.getElem?_eq_getElem (by omega)]; rfl))
  have HCY := Lib.hid (show (Cv.bytesV s)[0]? = some (.int .u8 (y.toNat : Int)) from Cv.bytesV_get _ _ _ (by rw [← hy, List.getD_eq_getElem?_getD, List.getElem?_eq_getElem (by omega)]; rfl))
  obtain ⟨il, hil⟩ : ∃ l, h.set 0 z = l := ⟨_, rfl⟩
  have HIL := Lib.hid hil
  have HLib := Lib.hid (show il.length = 32 from by rw [← hil, List.length_set, hh])
  obtain ⟨d0, hd0⟩ : ∃ l, derL s h il c mm = l := ⟨_, rfl⟩
  obtain ⟨d1, hd1⟩ : ∃ l, derL s h il 67 32 = l := ⟨_, rfl⟩
  obtain ⟨d2, hd2⟩ : ∃ l, derL s h il 68 32 = l := ⟨_, rfl⟩
  have Hd1 := Lib.hid (show d1.length = 32 from by rw [← hd1, derL_len])
  have Hd2 := Lib.hid (show d2.length = 32 from by rw [← hd2, derL_len])
  have DE := Lib.hid (fun W (hW : Sha.Tables W) => show Calls Tryz.prog 11 #[.agg (Cv.bytesV s), .agg (Cv.bytesV h), .agg (Cv.bytesV il), .int .u8 c.toNat, .int .i64 mm] W fun e w' => e = .returned (.string ⟨d0.toArray⟩) ∧ Below W.heap.size W w' from by
    have := Derive_any W s h il hs hh HLib.out c (mm : Int) (by omega) hW
    rwa [show (mm : Int).toNat = mm by omega, hd0] at this)
  have KE := Lib.hid (fun W (hW : Sha.Tables W) => show Calls Tryz.prog 12 #[.agg (Cv.bytesV s), .agg (Cv.bytesV h), .agg (Cv.bytesV il)] W fun e w' => e = .returned (.agg (Cv.bytesV (d1 ++ d2))) ∧ Below W.heap.size W w' from by
    have := Keys_any W s h il hs hh HLib.out hW
    unfold keysL at this
    rwa [hd1, hd2] at this)
  have Rd0 := Lib.hid (fun W => show Calls Tryz.prog 13 #[.string ⟨s.toArray⟩, .string ⟨h.toArray⟩, .string ⟨il.toArray⟩, .int .u8 c.toNat, .int .i64 mm] W fun e w' => e = .returned (.string ⟨d0.toArray⟩) ∧ Below W.heap.size W w' from hd0 ▸ RefDerive_any W s h il hs hh HLib.out c mm (by omega))
  have Rd1 := Lib.hid (fun W => show Calls Tryz.prog 13 #[.string ⟨s.toArray⟩, .string ⟨h.toArray⟩, .string ⟨il.toArray⟩, .int .u8 67, .int .i64 32] W fun e w' => e = .returned (.string ⟨d1.toArray⟩) ∧ Below W.heap.size W w' from hd1 ▸ RefDerive_any W s h il hs hh HLib.out 67 32 (by decide))
  have Rd2 := Lib.hid (fun W => show Calls Tryz.prog 13 #[.string ⟨s.toArray⟩, .string ⟨h.toArray⟩, .string ⟨il.toArray⟩, .int .u8 68, .int .i64 32] W fun e w' => e = .returned (.string ⟨d2.toArray⟩) ∧ Below W.heap.size W w' from hd2 ▸ RefDerive_any W s h il hs hh HLib.out 68 32 (by decide))
  have DN := Lib.hid (fun W (hW : Sha.Tables W) => show Calls Tryz.prog 11 #[.agg (Cv.bytesV s), .agg (Cv.bytesV h), .agg (Cv.bytesV il), .int .u8 c.toNat, .int .i64 n] W fun e w' => e = .returned (.string ⟨#[]⟩) ∧ Below W.heap.size W w' from by
    have := Derive_any W s h il hs hh HLib.out c n (by omega) hW
    rw [show n.toNat = 0 by omega] at this
    rwa [show derL s h il c 0 = [] from by unfold derL; rw [List.take_zero]] at this)
  have HE := Lib.hid hE
  have HY := Lib.hid hY
  have HT := Lib.hid hT
  have HLsb := Lib.hid hs
  have HLhb := Lib.hid hh
  have HKZ := Lib.hid (show (Cv.bytesV (d1 ++ d2)).size = 64 from by rw [Cv.bytesV_size, List.length_append, Hd1.out, Hd2.out])
  have HHZ := Lib.hid (show (Cv.bytesV h).size = 32 from by rw [Cv.bytesV_size, hh])
  have hdn : decide (n < 0) = true := by simp; omega
  clear hE hY hT hs hh hd0 hd1 hd2 hr hc hx hy hz hil
  go_enter Tryz.func4, Tryz.ntmps4
  have tok1 := True.intro
  go_upto_region 1 with (first
    | (have _t := tok1; (with_reducible refine gate_ ?_); refine Rg.box_fresh rfl 22 _ rfl (Cv.bytesV s) rfl ?_; intro X hX hbX hnX; have HX := Lib.hid hX; have HBX := Lib.hid hbX; have HNX := Lib.hid hnX; clear hX hbX hnX; have tok2 := True.intro; clear _t tok1)
    | (have _t := tok2; (with_reducible refine gate_ ?_); refine Rg.box_fresh rfl 22 _ rfl (Cv.bytesV h) rfl ?_; intro X2 hX hbX hnX; have HX2 := Lib.hid hX; have HBX2 := Lib.hid hbX; have HNX2 := Lib.hid hnX; clear hX hbX hnX; clear _t tok2))
  obtain ⟨sb, hsb⟩ : ∃ n, w.heap.size = n := ⟨_, rfl⟩
  obtain ⟨hb, hhb⟩ : ∃ n, X.heap.size = n := ⟨_, rfl⟩
  have HS := Lib.hid (show Rg.Blk X2 sb 22 (Cv.bytesV s) from ((hsb ▸ HX.out).below HBX2.out (by rw [← hsb]; exact HX.out.lt)))
  have HH := Lib.hid (show Rg.Blk X2 hb 22 (Cv.bytesV h) from (hhb ▸ HX2.out))
  have HB := Lib.hid (show Below w.heap.size w X2 from (HBX.out.trans (HBX2.out.mono HBX.out.size)))
  try rw [hsb]
  try rw [hhb]
  clear HX HBX HNX HX2 HBX2 HNX2 hsb hhb
  go_upto_region 3 with (go_at_call 7; refine (awake14 _ a (HE.out.below HB.out) (HY.out.below HB.out) (tables_later HT.out HB.out)).mono ?_; rintro e w1 ⟨rfl, hb1⟩; skip; have HS1 := Lib.hid (HS.out.below hb1 HS.out.lt); have HH1 := Lib.hid (HH.out.below hb1 HH.out.lt); have HB1 := Lib.hid (HB.out.trans (hb1.mono HB.out.size)); clear hb1)
  clear HS HH HB
  go_upto_region 4 with (first
    | ((with_reducible refine gate_ ?_); refine Cv.load_cells rfl 22 _ rfl hb 0 rfl (Cv.bytesV (h)) _ (fun j v hv => by rw [Nat.zero_add]; exact HH1.out.cell j hv) Tryz.underlying22 rfl (by rw [Cv.bytesV_size, HLhb.out]; kernel_rfl) ?_; skip)
    | (refine Rg.store_fresh rfl 22 _ _ rfl (Cv.bytesV h) _ 22 rfl rfl (by rw [HHZ.out]; kernel_rfl) (by rw [HHZ.out]; rfl) (Cv.bytesV_one _) ?_; intro V1 hX hbX; have HV1 := Lib.hid hX; have HBV1 := Lib.hid hbX; clear hX hbX))
  obtain ⟨ib, hib⟩ : ∃ n, w1.heap.size = n := ⟨_, rfl⟩
  have HI := Lib.hid (hib ▸ HV1.out)
  have HS := Lib.hid (HS1.out.below HBV1.out HS1.out.lt)
  have HH := Lib.hid (HH1.out.below HBV1.out HH1.out.lt)
  have HB := Lib.hid (HB1.out.trans (HBV1.out.mono HB1.out.size))
  have HNI := Lib.hid (show ib ≠ sb ∧ ib ≠ hb ∧ w.heap.size ≤ ib from by have h1 := HS1.out.lt; have h2 := HH1.out.lt; have h3 := HB1.out.size; omega)
  try rw [hib]
  clear HS1 HH1 HB1 HBV1 HV1 hib
  have cx := HI.out.cell 0 HCX.out
  have cy := HS.out.cell 0 HCY.out
  go_upto_region 5 with ((with_reducible refine gate_ ?_); refine Cv.store_byte rfl 5 _ _ rfl (b := ib) (j := 0) (l := h) (v := z) rfl rfl Tryz.underlying5 (by kernel_rfl) HI.out (by rw [HLhb.out]; decide) ?_; intro V2 hV hgV; have HV2 := Lib.hid (show Rg.Blk V2 ib 22 (Cv.bytesV il) from HIL.out ▸ hV); have HG2 := Lib.hid hgV; clear hV hgV)
  have HI := HV2
  have HS := Lib.hid (blk_other HS.out HG2.out HNI.out.1)
  have HH := Lib.hid (blk_other HH.out HG2.out HNI.out.2.1)
  have HB := Lib.hid (HB.out.grown HG2.out HB.out.size (fun j e => by cases e; exact HNI.out.2.2))
  have HT2 := Lib.hid (tables_later HT.out HB.out)
  clear cx cy HV2 HG2 ex HCX HCY
  go_upto_region 8 with (first
    | ((with_reducible refine gate_ ?_); refine Cv.load_cells rfl 22 _ rfl sb 0 rfl (Cv.bytesV (s)) _ (fun j v hv => by rw [Nat.zero_add]; exact HS.out.cell j hv) Tryz.underlying22 rfl (by rw [Cv.bytesV_size, HLsb.out]; kernel_rfl) ?_; skip)
    | ((with_reducible refine gate_ ?_); refine Cv.load_cells rfl 22 _ rfl hb 0 rfl (Cv.bytesV (h)) _ (fun j v hv => by rw [Nat.zero_add]; exact HH.out.cell j hv) Tryz.underlying22 rfl (by rw [Cv.bytesV_size, HLhb.out]; kernel_rfl) ?_; skip)
    | ((with_reducible refine gate_ ?_); refine Cv.load_cells rfl 22 _ rfl ib 0 rfl (Cv.bytesV (il)) _ (fun j v hv => by rw [Nat.zero_add]; exact HI.out.cell j hv) Tryz.underlying22 rfl (by rw [Cv.bytesV_size, HLib.out]; kernel_rfl) ?_; skip)
    | (go_at_call 11; refine (DE.out _ HT2.out).mono ?_; rintro e w3 ⟨rfl, hb1⟩; skip; have HB3 := Lib.hid hb1; clear hb1))
  have HI := Lib.hid (HI.out.below HB3.out HI.out.lt)
  have HS := Lib.hid (HS.out.below HB3.out HS.out.lt)
  have HH := Lib.hid (HH.out.below HB3.out HH.out.lt)
  have HT2 := Lib.hid (tables_later HT2.out HB3.out)
  have HB := Lib.hid (HB.out.trans (HB3.out.mono HB.out.size))
  clear HB3
  go_upto_region 10 with (first
    | ((with_reducible refine gate_ ?_); refine load_blk_g (by rfl) 22 _ rfl sb (Cv.bytesV s) 22 rfl HS.out Tryz.underlying22 rfl (by rw [Cv.bytesV_size, HLsb.out]; kernel_rfl) ?_; skip)
    | ((with_reducible refine gate_ ?_); refine load_blk_g (by rfl) 22 _ rfl hb (Cv.bytesV h) 22 rfl HH.out Tryz.underlying22 rfl (by rw [Cv.bytesV_size, HLhb.out]; kernel_rfl) ?_; skip)
    | ((with_reducible refine gate_ ?_); refine load_blk_g (by rfl) 22 _ rfl ib (Cv.bytesV il) 22 rfl HI.out Tryz.underlying22 rfl (by rw [Cv.bytesV_size, HLib.out]; kernel_rfl) ?_; skip)
    | (go_at_call 11; refine (DN.out _ HT2.out).mono ?_; rintro e w4 ⟨rfl, hb1⟩; skip; have HB3 := Lib.hid hb1; clear hb1))
  have HI := Lib.hid (HI.out.below HB3.out HI.out.lt)
  have HS := Lib.hid (HS.out.below HB3.out HS.out.lt)
  have HH := Lib.hid (HH.out.below HB3.out HH.out.lt)
  have HT2 := Lib.hid (tables_later HT2.out HB3.out)
  have HB := Lib.hid (HB.out.trans (HB3.out.mono HB.out.size))
  clear HB3
  go_upto_region 11 with (first
    | ((with_reducible refine gate_ ?_); refine Cv.load_cells rfl 22 _ rfl sb 0 rfl (Cv.bytesV (s)) _ (fun j v hv => by rw [Nat.zero_add]; exact HS.out.cell j hv) Tryz.underlying22 rfl (by rw [Cv.bytesV_size, HLsb.out]; kernel_rfl) ?_; skip)
    | ((with_reducible refine gate_ ?_); refine Cv.load_cells rfl 22 _ rfl hb 0 rfl (Cv.bytesV (h)) _ (fun j v hv => by rw [Nat.zero_add]; exact HH.out.cell j hv) Tryz.underlying22 rfl (by rw [Cv.bytesV_size, HLhb.out]; kernel_rfl) ?_; skip)
    | ((with_reducible refine gate_ ?_); refine Cv.load_cells rfl 22 _ rfl ib 0 rfl (Cv.bytesV (il)) _ (fun j v hv => by rw [Nat.zero_add]; exact HI.out.cell j hv) Tryz.underlying22 rfl (by rw [Cv.bytesV_size, HLib.out]; kernel_rfl) ?_; skip)
    | (go_at_call 12; refine (KE.out _ HT2.out).mono ?_; rintro e w5 ⟨rfl, hb1⟩; skip; have HB5 := Lib.hid hb1; clear hb1)
    | (refine Rg.store_fresh rfl 33 _ _ rfl (Cv.bytesV (d1 ++ d2)) _ 33 rfl rfl (by rw [HKZ.out]; kernel_rfl) (by rw [HKZ.out]; rfl) (Cv.bytesV_one _) ?_; intro V hX hbX; have HV := Lib.hid hX; have HBV := Lib.hid hbX; clear hX hbX))
  obtain ⟨kb, hkb⟩ : ∃ n, w5.heap.size = n := ⟨_, rfl⟩
  have HK := Lib.hid (hkb ▸ HV.out)
  have HBX := Lib.hid (HB5.out.trans (HBV.out.mono HB5.out.size))
  have HI := Lib.hid (HI.out.below HBX.out HI.out.lt)
  have HS := Lib.hid (HS.out.below HBX.out HS.out.lt)
  have HH := Lib.hid (HH.out.below HBX.out HH.out.lt)
  have HB := Lib.hid (HB.out.trans (HBX.out.mono HB.out.size))
  try rw [hkb]
  clear HB5 HBV HBX HV hkb
  refine RL.start (RL.Aft V) (by kernel_rfl) (RL.Aft.drew (RL.Aft.refl V)) ?_
  refine' RL.takeV (i := 0) (v := _) rfl (by kernel_rfl) (by kernel_rfl) (by kernel_rfl) (fun _ _ _ h => h) (by rfl) ?hk58 ?_
  case hk58 => (intro W hSW; go_simp; try with_reducible rfl)
  (try simp only [Act.put, List.setIfInBounds_toArray, List.set_cons_zero, List.set_cons_succ])
  refine' RL.takeV (i := 1) (v := _) rfl (by kernel_rfl) (by kernel_rfl) (by kernel_rfl) (fun _ _ _ h => h) (by rfl) ?hk59 ?_
  case hk59 => (intro W hSW; go_simp; try with_reducible rfl)
  (try simp only [Act.put, List.setIfInBounds_toArray, List.set_cons_zero, List.set_cons_succ])
  refine' RL.takeV (i := 2) (v := _) rfl (by kernel_rfl) (by kernel_rfl) (by kernel_rfl) (fun _ _ _ h => h) (by rfl) ?hk60 ?_
  case hk60 => (intro W hSW; have x1 := Cv.run_string_len (P := Tryz.prog) W 36 5 9 Tryz.underlying36 Tryz.underlying5 Tryz.underlying9 sb 0 32 32 s HLsb.out (Cv.Bytes.of_blk (aft_blk hSW HS.out)); go_simp; try with_reducible rfl)
  (try simp only [Act.put, List.setIfInBounds_toArray, List.set_cons_zero, List.set_cons_succ])
  refine' RL.takeV (i := 3) (v := _) rfl (by kernel_rfl) (by kernel_rfl) (by kernel_rfl) (fun _ _ _ h => h) (by rfl) ?hk61 ?_
  case hk61 => (intro W hSW; go_simp; try with_reducible rfl)
  (try simp only [Act.put, List.setIfInBounds_toArray, List.set_cons_zero, List.set_cons_succ])
  refine' RL.takeV (i := 4) (v := _) rfl (by kernel_rfl) (by kernel_rfl) (by kernel_rfl) (fun _ _ _ h => h) (by rfl) ?hk62 ?_
  case hk62 => (intro W hSW; have x1 := Cv.run_string_len (P := Tryz.prog) W 36 5 9 Tryz.underlying36 Tryz.underlying5 Tryz.underlying9 hb 0 32 32 h HLhb.out (Cv.Bytes.of_blk (aft_blk hSW HH.out)); go_simp; try with_reducible rfl)
  (try simp only [Act.put, List.setIfInBounds_toArray, List.set_cons_zero, List.set_cons_succ])
  refine' RL.takeV (i := 5) (v := _) rfl (by kernel_rfl) (by kernel_rfl) (by kernel_rfl) (fun _ _ _ h => h) (by rfl) ?hk63 ?_
  case hk63 => (intro W hSW; go_simp; try with_reducible rfl)
  (try simp only [Act.put, List.setIfInBounds_toArray, List.set_cons_zero, List.set_cons_succ])
  refine' RL.takeV (i := 6) (v := _) rfl (by kernel_rfl) (by kernel_rfl) (by kernel_rfl) (fun _ _ _ h => h) (by rfl) ?hk64 ?_
  case hk64 => (intro W hSW; have x1 := Cv.run_string_len (P := Tryz.prog) W 36 5 9 Tryz.underlying36 Tryz.underlying5 Tryz.underlying9 ib 0 32 32 il HLib.out (Cv.Bytes.of_blk (aft_blk hSW HI.out)); go_simp; try with_reducible rfl)
  (try simp only [Act.put, List.setIfInBounds_toArray, List.set_cons_zero, List.set_cons_succ])
  refine' RL.takeV (i := 7) (v := _) rfl (by kernel_rfl) (by kernel_rfl) (by kernel_rfl) (fun _ _ _ h => h) (by rfl) ?hk65 ?_
  case hk65 => (intro W hSW; go_simp; try with_reducible rfl)
  (try simp only [Act.put, List.setIfInBounds_toArray, List.set_cons_zero, List.set_cons_succ])
  refine' RL.takeV (i := 8) (v := _) rfl (by kernel_rfl) (by kernel_rfl) (by kernel_rfl) (fun _ _ _ h => h) (by rfl) ?hk66 ?_
  case hk66 => (intro W hSW; go_simp; try with_reducible rfl)
  (try simp only [Act.put, List.setIfInBounds_toArray, List.set_cons_zero, List.set_cons_succ])
  refine' RL.takeC (i := 9) (v := .string ⟨d0.toArray⟩) 13 #[.string ⟨s.toArray⟩, .string ⟨h.toArray⟩, .string ⟨il.toArray⟩, .int .u8 c.toNat, .int .i64 mm] rfl (by kernel_rfl) (by kernel_rfl) (by kernel_rfl) (fun _ _ _ h => h) (by rfl) ?hk67 ?hc67 ?_
  case hk67 => (intro W; go_simp; try with_reducible rfl)
  case hc67 => (intro W hSW; exact (Rd0.out W).mono (fun e w9 h9 => ⟨h9.1, h9.2, RL.Aft.lat hSW h9.2⟩))
  (try simp only [Act.put, List.setIfInBounds_toArray, List.set_cons_zero, List.set_cons_succ])
  refine' RL.takeV (i := 10) (v := _) rfl (by kernel_rfl) (by kernel_rfl) (by kernel_rfl) (fun _ _ _ h => h) (by rfl) ?hk68 ?_
  case hk68 => (intro W hSW; go_simp; try with_reducible rfl)
  (try simp only [Act.put, List.setIfInBounds_toArray, List.set_cons_zero, List.set_cons_succ])
  refine' RL.takeV (i := 11) (v := _) rfl (by kernel_rfl) (by kernel_rfl) (by kernel_rfl) (fun _ _ _ h => h) (by rfl) ?hk69 ?_
  case hk69 => (intro W hSW; go_simp; try with_reducible rfl)
  (try simp only [Act.put, List.setIfInBounds_toArray, List.set_cons_zero, List.set_cons_succ])
  refine' RL.takeV (i := 12) (v := _) rfl (by kernel_rfl) (by kernel_rfl) (by kernel_rfl) (fun _ _ _ h => h) (by rfl) ?hk70 ?_
  case hk70 => (intro W hSW; go_simp; try with_reducible rfl)
  (try simp only [Act.put, List.setIfInBounds_toArray, List.set_cons_zero, List.set_cons_succ])
  refine' RL.takeV (i := 13) (v := _) rfl (by kernel_rfl) (by kernel_rfl) (by kernel_rfl) (fun _ _ _ h => h) (by rfl) ?hk71 ?_
  case hk71 => (intro W hSW; go_simp; try with_reducible rfl)
  (try simp only [Act.put, List.setIfInBounds_toArray, List.set_cons_zero, List.set_cons_succ])
  refine' RL.takeV (i := 14) (v := _) rfl (by kernel_rfl) (by kernel_rfl) (by kernel_rfl) (fun _ _ _ h => h) (by rfl) ?hk72 ?_
  case hk72 => (intro W hSW; have x1 := Cv.run_string_len (P := Tryz.prog) W 36 5 9 Tryz.underlying36 Tryz.underlying5 Tryz.underlying9 kb 0 32 32 d1 Hd1.out (bytes_part1 (aft_blk hSW HK.out) Hd1.out); go_simp; try with_reducible rfl)
  (try simp only [Act.put, List.setIfInBounds_toArray, List.set_cons_zero, List.set_cons_succ])
  refine' RL.takeV (i := 15) (v := _) rfl (by kernel_rfl) (by kernel_rfl) (by kernel_rfl) (fun _ _ _ h => h) (by rfl) ?hk73 ?_
  case hk73 => (intro W hSW; go_simp; try with_reducible rfl)
  (try simp only [Act.put, List.setIfInBounds_toArray, List.set_cons_zero, List.set_cons_succ])
  refine' RL.takeV (i := 16) (v := _) rfl (by kernel_rfl) (by kernel_rfl) (by kernel_rfl) (fun _ _ _ h => h) (by rfl) ?hk74 ?_
  case hk74 => (intro W hSW; have x1 := Cv.run_string_len (P := Tryz.prog) W 36 5 9 Tryz.underlying36 Tryz.underlying5 Tryz.underlying9 sb 0 32 32 s HLsb.out (Cv.Bytes.of_blk (aft_blk hSW HS.out)); go_simp; try with_reducible rfl)
  (try simp only [Act.put, List.setIfInBounds_toArray, List.set_cons_zero, List.set_cons_succ])
  refine' RL.takeV (i := 17) (v := _) rfl (by kernel_rfl) (by kernel_rfl) (by kernel_rfl) (fun _ _ _ h => h) (by rfl) ?hk75 ?_
  case hk75 => (intro W hSW; go_simp; try with_reducible rfl)
  (try simp only [Act.put, List.setIfInBounds_toArray, List.set_cons_zero, List.set_cons_succ])
  refine' RL.takeV (i := 18) (v := _) rfl (by kernel_rfl) (by kernel_rfl) (by kernel_rfl) (fun _ _ _ h => h) (by rfl) ?hk76 ?_
  case hk76 => (intro W hSW; have x1 := Cv.run_string_len (P := Tryz.prog) W 36 5 9 Tryz.underlying36 Tryz.underlying5 Tryz.underlying9 hb 0 32 32 h HLhb.out (Cv.Bytes.of_blk (aft_blk hSW HH.out)); go_simp; try with_reducible rfl)
  (try simp only [Act.put, List.setIfInBounds_toArray, List.set_cons_zero, List.set_cons_succ])
  refine' RL.takeV (i := 19) (v := _) rfl (by kernel_rfl) (by kernel_rfl) (by kernel_rfl) (fun _ _ _ h => h) (by rfl) ?hk77 ?_
  case hk77 => (intro W hSW; go_simp; try with_reducible rfl)
  (try simp only [Act.put, List.setIfInBounds_toArray, List.set_cons_zero, List.set_cons_succ])
  refine' RL.takeV (i := 20) (v := _) rfl (by kernel_rfl) (by kernel_rfl) (by kernel_rfl) (fun _ _ _ h => h) (by rfl) ?hk78 ?_
  case hk78 => (intro W hSW; have x1 := Cv.run_string_len (P := Tryz.prog) W 36 5 9 Tryz.underlying36 Tryz.underlying5 Tryz.underlying9 ib 0 32 32 il HLib.out (Cv.Bytes.of_blk (aft_blk hSW HI.out)); go_simp; try with_reducible rfl)
  (try simp only [Act.put, List.setIfInBounds_toArray, List.set_cons_zero, List.set_cons_succ])
  refine' RL.takeC (i := 21) (v := .string ⟨d1.toArray⟩) 13 #[.string ⟨s.toArray⟩, .string ⟨h.toArray⟩, .string ⟨il.toArray⟩, .int .u8 67, .int .i64 32] rfl (by kernel_rfl) (by kernel_rfl) (by kernel_rfl) (fun _ _ _ h => h) (by rfl) ?hk79 ?hc79 ?_
  case hk79 => (intro W; go_simp; try with_reducible rfl)
  case hc79 => (intro W hSW; exact (Rd1.out W).mono (fun e w9 h9 => ⟨h9.1, h9.2, RL.Aft.lat hSW h9.2⟩))
  (try simp only [Act.put, List.setIfInBounds_toArray, List.set_cons_zero, List.set_cons_succ])
  refine' RL.takeV (i := 22) (v := _) rfl (by kernel_rfl) (by kernel_rfl) (by kernel_rfl) (fun _ _ _ h => h) (by rfl) ?hk80 ?_
  case hk80 => (intro W hSW; go_simp; try with_reducible rfl)
  (try simp only [Act.put, List.setIfInBounds_toArray, List.set_cons_zero, List.set_cons_succ])
  refine' RL.takeV (i := 23) (v := _) rfl (by kernel_rfl) (by kernel_rfl) (by kernel_rfl) (fun _ _ _ h => h) (by rfl) ?hk81 ?_
  case hk81 => (intro W hSW; go_simp; try with_reducible rfl)
  (try simp only [Act.put, List.setIfInBounds_toArray, List.set_cons_zero, List.set_cons_succ])
  refine' RL.takeV (i := 24) (v := _) rfl (by kernel_rfl) (by kernel_rfl) (by kernel_rfl) (fun _ _ _ h => h) (by rfl) ?hk82 ?_
  case hk82 => (intro W hSW; go_simp; try with_reducible rfl)
  (try simp only [Act.put, List.setIfInBounds_toArray, List.set_cons_zero, List.set_cons_succ])
  refine' RL.takeV (i := 25) (v := _) rfl (by kernel_rfl) (by kernel_rfl) (by kernel_rfl) (fun _ _ _ h => h) (by rfl) ?hk83 ?_
  case hk83 => (intro W hSW; go_simp; try with_reducible rfl)
  (try simp only [Act.put, List.setIfInBounds_toArray, List.set_cons_zero, List.set_cons_succ])
  refine' RL.takeV (i := 26) (v := _) rfl (by kernel_rfl) (by kernel_rfl) (by kernel_rfl) (fun _ _ _ h => h) (by rfl) ?hk84 ?_
  case hk84 => (intro W hSW; go_simp; try with_reducible rfl)
  (try simp only [Act.put, List.setIfInBounds_toArray, List.set_cons_zero, List.set_cons_succ])
  refine' RL.takeV (i := 27) (v := _) rfl (by kernel_rfl) (by kernel_rfl) (by kernel_rfl) (fun _ _ _ h => h) (by rfl) ?hk85 ?_
  case hk85 => (intro W hSW; have x1 := Cv.run_string_len (P := Tryz.prog) W 36 5 9 Tryz.underlying36 Tryz.underlying5 Tryz.underlying9 kb 32 32 32 d2 Hd2.out (bytes_part2 (aft_blk hSW HK.out) Hd1.out); go_simp; try with_reducible rfl)
  (try simp only [Act.put, List.setIfInBounds_toArray, List.set_cons_zero, List.set_cons_succ])
  refine' RL.takeV (i := 28) (v := _) rfl (by kernel_rfl) (by kernel_rfl) (by kernel_rfl) (fun _ _ _ h => h) (by rfl) ?hk86 ?_
  case hk86 => (intro W hSW; go_simp; try with_reducible rfl)
  (try simp only [Act.put, List.setIfInBounds_toArray, List.set_cons_zero, List.set_cons_succ])
  refine' RL.takeV (i := 29) (v := _) rfl (by kernel_rfl) (by kernel_rfl) (by kernel_rfl) (fun _ _ _ h => h) (by rfl) ?hk87 ?_
  case hk87 => (intro W hSW; have x1 := Cv.run_string_len (P := Tryz.prog) W 36 5 9 Tryz.underlying36 Tryz.underlying5 Tryz.underlying9 sb 0 32 32 s HLsb.out (Cv.Bytes.of_blk (aft_blk hSW HS.out)); go_simp; try with_reducible rfl)
  (try simp only [Act.put, List.setIfInBounds_toArray, List.set_cons_zero, List.set_cons_succ])
  refine' RL.takeV (i := 30) (v := _) rfl (by kernel_rfl) (by kernel_rfl) (by kernel_rfl) (fun _ _ _ h => h) (by rfl) ?hk88 ?_
  case hk88 => (intro W hSW; go_simp; try with_reducible rfl)
  (try simp only [Act.put, List.setIfInBounds_toArray, List.set_cons_zero, List.set_cons_succ])
  refine' RL.takeV (i := 31) (v := _) rfl (by kernel_rfl) (by kernel_rfl) (by kernel_rfl) (fun _ _ _ h => h) (by rfl) ?hk89 ?_
  case hk89 => (intro W hSW; have x1 := Cv.run_string_len (P := Tryz.prog) W 36 5 9 Tryz.underlying36 Tryz.underlying5 Tryz.underlying9 hb 0 32 32 h HLhb.out (Cv.Bytes.of_blk (aft_blk hSW HH.out)); go_simp; try with_reducible rfl)
  (try simp only [Act.put, List.setIfInBounds_toArray, List.set_cons_zero, List.set_cons_succ])
  refine' RL.takeV (i := 32) (v := _) rfl (by kernel_rfl) (by kernel_rfl) (by kernel_rfl) (fun _ _ _ h => h) (by rfl) ?hk90 ?_
  case hk90 => (intro W hSW; go_simp; try with_reducible rfl)
  (try simp only [Act.put, List.setIfInBounds_toArray, List.set_cons_zero, List.set_cons_succ])
  refine' RL.takeV (i := 33) (v := _) rfl (by kernel_rfl) (by kernel_rfl) (by kernel_rfl) (fun _ _ _ h => h) (by rfl) ?hk91 ?_
  case hk91 => (intro W hSW; have x1 := Cv.run_string_len (P := Tryz.prog) W 36 5 9 Tryz.underlying36 Tryz.underlying5 Tryz.underlying9 ib 0 32 32 il HLib.out (Cv.Bytes.of_blk (aft_blk hSW HI.out)); go_simp; try with_reducible rfl)
  (try simp only [Act.put, List.setIfInBounds_toArray, List.set_cons_zero, List.set_cons_succ])
  refine' RL.takeC (i := 34) (v := .string ⟨d2.toArray⟩) 13 #[.string ⟨s.toArray⟩, .string ⟨h.toArray⟩, .string ⟨il.toArray⟩, .int .u8 68, .int .i64 32] rfl (by kernel_rfl) (by kernel_rfl) (by kernel_rfl) (fun _ _ _ h => h) (by rfl) ?hk92 ?hc92 ?_
  case hk92 => (intro W; go_simp; try with_reducible rfl)
  case hc92 => (intro W hSW; exact (Rd2.out W).mono (fun e w9 h9 => ⟨h9.1, h9.2, RL.Aft.lat hSW h9.2⟩))
  (try simp only [Act.put, List.setIfInBounds_toArray, List.set_cons_zero, List.set_cons_succ])
  refine' RL.takeV (i := 35) (v := _) rfl (by kernel_rfl) (by kernel_rfl) (by kernel_rfl) (fun _ _ _ h => h) (by rfl) ?hk93 ?_
  case hk93 => (intro W hSW; go_simp; try with_reducible rfl)
  (try simp only [Act.put, List.setIfInBounds_toArray, List.set_cons_zero, List.set_cons_succ])
  refine' RL.takeV (i := 36) (v := _) rfl (by kernel_rfl) (by kernel_rfl) (by kernel_rfl) (fun _ _ _ h => h) (by rfl) ?hk94 ?_
  case hk94 => (intro W hSW; go_simp; try with_reducible rfl)
  (try simp only [Act.put, List.setIfInBounds_toArray, List.set_cons_zero, List.set_cons_succ])
  refine RL.stepK (i := 37) rfl (by kernel_rfl) (by rfl) (fun we hlwe hswe K hK => ?_)
  go_simp
  refine hK.out _ _ hswe ?_
  clear hK
  (try simp only [Act.put, List.setIfInBounds_toArray, List.set_cons_zero, List.set_cons_succ])
  refine RL.done (by kernel_rfl) (fun Y3 hlY3 hsY3 => ?_)
  have HA := Lib.hid (show RL.Aft V Y3 from hsY3)
  clear hlY3 hsY3 hlwe hswe
  go_wp2_with fail
  go_ret
  exact ⟨rfl, HB.out.trans (Below.mono HA.out HB.out.size)⟩
theorem law_KexDerivesB (w : World) (a : Nat → Addr) (hE : Ei.ErrsAll w a) (hY : Ei.ErrTy w) (hT : Sha.Tables w) (s : List UInt8) (hs : s.length = 32) (h : List UInt8) (hh : h.length = 32) (n : Int) (_hw : (Lit.int .i64 n).wf = true) :
    Calls Tryz.prog 4 #[.agg (Ow.bv s).toArray, .agg (Ow.bv h).toArray, .int .i64 n] w fun e w' => e = .returned (.bool true) ∧ Below w.heap.size w w' := by
  have hx : Calls Tryz.prog 4 #[.agg (Cv.bytesV s), .agg (Cv.bytesV h), .int .i64 n] w fun e w' => e = .returned (.bool true) ∧ Below w.heap.size w w' := by
    by_cases hn : n < 0
    · exact derives_neg w a hE hY hT s h hs hh n hn
    · exact derives_pos w a hE hY hT s h hs hh n (by omega)
  unfold Cv.bytesV at hx
  exact hx
end Go.Proofs.YtfaeigbfnjkojaaGreatDoor.Kx
