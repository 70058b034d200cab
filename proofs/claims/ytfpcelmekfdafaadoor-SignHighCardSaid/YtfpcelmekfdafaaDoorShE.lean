/- SgE, FeL, EdT, SgL, SgH, OpenArr: what the claims need of them. -/
import Derived.Test.YtfpcelmekfdafaaDoorShD
set_option linter.unusedVariables false
set_option linter.unusedSimpArgs false
set_option maxRecDepth 20000
set_option maxHeartbeats 16000000
namespace Go.Proofs.YtfpcelmekfdafaaDoor.Kx
open Go.RowKit Go.Proofs.YtfpcelmekfdafaaDoor.Cl Go.Proofs.YtfpcelmekfdafaaDoor.Ed Go.Proofs.YtfpcelmekfdafaaDoor.Rf
theorem wpList_wanted {P : Program} {ops : Array Oper} {rest : List Oper} {o : Oper} {a : Act} {w : World} {Q : Exit → Act → World → Prop} (hw : Region.wanted o (yielded ops a.tmps) = true)
 (h : ∀ K : Act → World → Prop, (∀ a w, wpList P ops Q rest a w → K a w) → o.wp P a w K Q) : wpList P ops Q (o :: rest) a w :=
 wpList_step fun K hK => by rw [if_pos hw]; exact h K hK
theorem load_blk_g {P : Program} {ops : Array Oper} {rest : List Oper} {o : Oper} {a : Act} {w : World} {Q : Exit → Act → World → Prop} (hw : Region.wanted o (yielded ops a.tmps) = true) (ty : TypeId) (x : Operand) (ho : o.op = .load ty x)
 (b : Nat) (cs : Array Value) (T : TypeId) (hx : a.eval x = .pointer (some ⟨b, 0, none⟩)) (hB : Rg.Blk w b T cs) {d : TypeDesc} (hu : P.underlying ty = some d) (hd : (match d with | .struct _ | .array _ _ => true | _ => false) = true) (hi : (P.info? ty).map (·.size) = some cs.size)
 (h : wpList P ops Q rest (a.put o.dst (.agg cs)) w) : wpList P ops Q (o :: rest) a w :=
 wpList_wanted hw fun _ hK => by
  unfold Oper.wp
  rw [RT.run_row ty x ho b hx T cs hB hu hd hi]
  exact hK _ _ h
theorem wpList_unwanted {P : Program} {ops : Array Oper} {rest : List Oper} {o : Oper} {a : Act} {w : World} {Q : Exit → Act → World → Prop} (hw : Region.wanted o (yielded ops a.tmps) = false)
 (h : wpList P ops Q rest (a.put o.dst undef) w) : wpList P ops Q (o :: rest) a w :=
 wpList_step fun K hK => by rw [if_neg (by rw [hw]; decide)]; exact hK _ _ h
theorem dec_beq (a b : List UInt8) : decide (a = b) = (a == b) := by
 by_cases h : a = b
 · rw [decide_eq_true h, beq_iff_eq.2 h]
 · rw [decide_eq_false h, beq_eq_false_iff_ne.2 h]
theorem run_arr {P : Program} {o : Oper} {a : Act} {w : World} (arr e : TypeId) (n : Nat) (x : Operand) (ho : o.op = .sliceToArrayPointer arr x) (b off len cap : Nat) (hx : a.eval x = .slice (some ⟨b, off, none⟩) len cap) (hu : P.underlying arr = some (.array n e)) (hl : n ≤ len) : (execOp a.eval o).run P w = .ok (.value (.pointer (some ⟨b, off, none⟩))) w := by
 unfold execOp
 simp only [ho, hx]
 unfold Instr.arrayAt
 simp only [Sem.run_bind, run_underlying hu w, Result.andThen_ok, if_neg (show ¬ len < n by omega), Sem.run_pure]
theorem front_of {w : World} {b T : Nat} {r s : List UInt8} (h : Rg.Blk w b T (Cv.bytesV (r ++ s))) (hr : r.length = 32) : Cv.Bytes w b 0 r := by
 have := bytes_front h 32
 rwa [List.take_append_of_le_length (by omega), List.take_of_length_le (by omega)] at this
theorem back_of {w : World} {b T : Nat} {r s : List UInt8} (h : Rg.Blk w b T (Cv.bytesV (r ++ s))) (hr : r.length = 32) : Cv.Bytes w b 32 s := by
 have := bytes_back h 32
 rwa [← hr, List.drop_left, hr] at this
theorem ver_no (w : World) (key m r s : List UInt8) (hk : key.length = 32) (hr : r.length = 32) (hs : s.length = 32) (hd : dec key = none) (hT : Sha.Tables w) (hO : Ord w) : Calls Tryd.prog 10 #[.agg (Cv.bytesV key), .string (bs m), .agg (Cv.bytesV (r ++ s))] w fun e w' => e = .returned (.bool (ver key m r s)) ∧ Below w.heap.size w w' := by
 obtain ⟨cd, ct, c1, c2, c3, c4, ecd, ect, hrq, cbeg⟩ := begin_e
 have CBE := ϕ cbeg
 obtain ⟨B0, hB0⟩ : ∃ R : E4, (⟨c1, c2, c3, c4⟩ : E4) = R := ⟨_, rfl⟩
 have hrB : Rq4 base B0 := hB0 ▸ hrq
 have HV := ϕ (ver_none (m := m) (r := r) (s := s) hd)
 obtain ⟨R0, ok, hok, crd⟩ := read_q (cd := cd) (ct := ct) (c1 := c1) (c2 := c2) (c3 := c3) (c4 := c4) ecd key hk
 obtain rfl : ok = false := by
  rcases hok with ⟨h1, p, h2, _⟩ | ⟨h1, h2⟩
  · rw [hd] at h2; exact none_no h2
  · exact h1
 have CRD := ϕ crd
 have HT := ϕ hT
 have HO := ϕ hO
 have HKL := ϕ hk
 have HRL := ϕ hr
 have HSL := ϕ hs
 clear hok crd hk hr hs hd hT hO ecd ect hrq cbeg hB0 hrB
 go_enter Tryd.func10, Tryd.ntmps10
 have tb0 := True.intro
 go_upto_region 1 with (first
  | (have _t := tb0; (with_reducible refine gate_ ?_); refine Rg.box_fresh rfl 22 _ rfl (Cv.bytesV key) rfl ?_; intro X1 hX hbX hnX; have J0 := ϕ hX; have K0 := ϕ hbX; clear hX hbX hnX _t tb0; have tb1 := True.intro)
  | (have _t := tb1; (with_reducible refine gate_ ?_); refine Rg.box_fresh rfl 26 _ rfl (Cv.bytesV (r ++ s)) rfl ?_; intro X2 hX hbX hnX; have J1 := ϕ hX; have K1 := ϕ hbX; clear hX hbX hnX _t tb1; have tb2 := True.intro))
 clear tb2
 obtain ⟨kb, hkb⟩ : ∃ n, w.heap.size = n := ⟨_, rfl⟩
 obtain ⟨gb, hgb⟩ : ∃ n, X1.heap.size = n := ⟨_, rfl⟩
 have Hkb := ϕ (show Rg.Blk X2 kb 22 (Cv.bytesV key) from (hkb ▸ J0.out).below K1.out (hkb ▸ J0.out.lt))
 have Hgb := ϕ (show Rg.Blk X2 gb 26 (Cv.bytesV (r ++ s)) from hgb ▸ J1.out)
 have HB := ϕ (show Below w.heap.size w X2 from K0.out.trans (K1.out.mono K0.out.size))
 have HW := ϕ hkb
 try rw [hkb]
 try rw [hgb]
 clear J0 J1 K0 K1 hkb hgb
 go_upto_region 2 with (go_at_call 12; refine (CBE.out _).mono ?_; rintro e w1 ⟨⟨cb, hcb, rfl, hcv⟩, hb1⟩; have Hcb := ϕ (show Rg.Blk w1 cb 49 (u64s (els [cd, ct, c1, c2, c3, c4])) from hcv); have Hkb := ϕ (Hkb.out.below hb1 Hkb.out.lt); have Hgb := ϕ (Hgb.out.below hb1 Hgb.out.lt); have HB := tm HB hb1; clear hb1 hcv hcb)
 go_upto_region 3 with (first
  | ((with_reducible refine gate_ ?_); refine Cv.load_cells rfl 22 _ rfl kb 0 rfl (Cv.bytesV key) _ (fun j v hv => by rw [Nat.zero_add]; exact Rg.Blk.cell Hkb.out j hv) Tryd.underlying22 rfl (by rw [Cv.bytesV_size, HKL.out]; kernel_rfl) ?_)
  | (go_at_call 22; refine (CRD.out cb _ Hcb.out).mono ?_; rintro e w2 ⟨rfl, hb1⟩; have Hgb := ϕ (Hgb.out.below hb1 Hgb.out.lt); have HB := tm HB hb1; clear hb1)
  | (refine Rg.store_fresh rfl 43 _ _ rfl (u64s (els [R0.x, R0.y, R0.z, R0.t])) _ 43 rfl rfl (by kernel_rfl) rfl (els_all _) ?_; intro X3 hX hbX; have Hpb := ϕ hX; have Hgb := ϕ (Hgb.out.below hbX Hgb.out.lt); have HB := tm HB hbX; clear hX hbX))
 obtain ⟨pb, hpb⟩ : ∃ n, w2.heap.size = n := ⟨_, rfl⟩
 try rw [hpb]
 clear hpb
 go_upto_region 4 with (first
  | ((with_reducible refine gate_ ?_); refine Cv.slice_to_array rfl 22 5 32 _ rfl _ _ _ _ rfl Tryd.underlying22 (by decide) ?_; skip)
  | ((with_reducible refine gate_ ?_); refine Cv.load_cells rfl 22 _ rfl gb 32 rfl (Cv.bytesV s) _ (Cv.Bytes.cells (back_of Hgb.out HRL.out)) Tryd.underlying22 rfl (by rw [Cv.bytesV_size, HSL.out]; kernel_rfl) ?_)
  | (refine Rg.store_fresh rfl 22 _ _ rfl (Cv.bytesV s) _ 22 rfl rfl (by rw [Cv.bytesV_size, HSL.out]; kernel_rfl) (by rw [Cv.bytesV_size, HSL.out]; rfl) (Cv.bytesV_one _) ?_; intro X4 hX hbX; have Hxb := ϕ hX; have HB := tm HB hbX; clear hX hbX))
 obtain ⟨xb, hxb⟩ : ∃ n, X3.heap.size = n := ⟨_, rfl⟩
 try rw [hxb]
 clear hxb
 go_wp2_with (first
  | (refine wpList_unwanted (by rfl) ?_; skip))
 go_ret
 exact ⟨by rw [HV.out]; rfl, HW.out ▸ HB.out⟩
theorem ver_yes (w : World) (key m r s : List UInt8) (hk : key.length = 32) (hm : m.length ≤ 10000) (hr : r.length = 32) (hs : s.length = 32) {A : Pt} (hd : dec key = some A) (hT : Sha.Tables w) (hO : Ord w) : Calls Tryd.prog 10 #[.agg (Cv.bytesV key), .string (bs m), .agg (Cv.bytesV (r ++ s))] w fun e w' => e = .returned (.bool (ver key m r s)) ∧ Below w.heap.size w w' := by
 obtain ⟨cd, ct, c1, c2, c3, c4, ecd, ect, hrq, cbeg⟩ := begin_e
 have CBE := ϕ cbeg
 obtain ⟨B0, hB0⟩ : ∃ R : E4, (⟨c1, c2, c3, c4⟩ : E4) = R := ⟨_, rfl⟩
 have hrB : Rq4 base B0 := hB0 ▸ hrq
 obtain ⟨R0, ok, hok, crd⟩ := read_q (cd := cd) (ct := ct) (c1 := c1) (c2 := c2) (c3 := c3) (c4 := c4) ecd key hk
 have hor : ok = true ∧ Rq4 A R0 := by
  rcases hok with ⟨h1, p, h2, h3⟩ | ⟨h1, h2⟩
  · rw [hd] at h2
    exact ⟨h1, some_eq (P := fun q => Rq4 q R0) h2.symm h3⟩
  · rw [hd] at h2; exact none_no h2.symm
 obtain ⟨rfl, hRA⟩ := hor
 obtain ⟨nx, nt, hN, cne⟩ := neg_q hRA
 obtain ⟨N0, hN0⟩ : ∃ R : E4, (⟨nx, R0.y, R0.z, nt⟩ : E4) = R := ⟨_, rfl⟩
 have hN4 : Rq4 A.neg N0 := hN0 ▸ hN
 have CNE := ϕ (show ∀ W : World, Calls Tryd.prog 25 #[.agg (u64s (els [R0.x, R0.y, R0.z, R0.t]))] W fun e w' => e = .returned (.agg (u64s (els [N0.x, N0.y, N0.z, N0.t]))) ∧ Below W.heap.size W w' from hN0 ▸ cne)
 obtain ⟨kk, hkk⟩ : ∃ l, toLe 32 (red (r ++ key ++ m)) = l := ⟨_, rfl⟩
 have hkkl : kk.length = 32 := by rw [← hkk, toLe_len]
 have hkn : leN kk = red (r ++ key ++ m) := by rw [← hkk]; exact leN_l (red_lt _)
 obtain ⟨R1, hR1, cm1⟩ := mult_q (cd := cd) (ct := ct) (c1 := c1) (c2 := c2) (c3 := c3) (c4 := c4) ect hrB s hs
 obtain ⟨R2, hR2, cm2⟩ := mult_q (cd := cd) (ct := ct) (c1 := c1) (c2 := c2) (c3 := c3) (c4 := c4) ect hN4 kk hkkl
 obtain ⟨D0, hD0, cad⟩ := adds (cd := cd) (ct := ct) (c1 := c1) (c2 := c2) (c3 := c3) (c4 := c4) ect hR1 hR2
 have cby := bytes_q hD0
 obtain ⟨be, hbe⟩ : ∃ e, enc ((Pt.mul (leN s) base).add (Pt.mul (leN kk) A.neg)) = e := ⟨_, rfl⟩
 rw [hbe] at cby
 rw [hkn] at hbe
 have HBL := ϕ (show be.length = 32 from by rw [← hbe]; exact enc_len _)
 obtain ⟨eb, heb⟩ : ∃ b, (be == r) = b := ⟨_, rfl⟩
 obtain ⟨fb, hfb⟩ : ∃ b, decide (leN s < Ed.L) = b := ⟨_, rfl⟩
 have HVV := ϕ (show ver key m r s = (fb && eb) from by
  rw [ver_some hd, hbe, hfb, dec_beq, heb])
 have HR2 := ϕ (fun W v (hT : Sha.Tables W) (hO : Ord W) (hv : Jo.Parts W v [⟨r.toArray⟩, ⟨key.toArray⟩, bs m]) => show Calls Tryd.prog 16 #[v] W fun e w' => e = .returned (.agg (Cv.bytesV kk)) ∧ Below W.heap.size W w' from by
  have h := reduce_l W v _ (r ++ key ++ m) (by rw [Jo.joined_list]; simp [bs_list]) (by rw [List.length_append, List.length_append]; omega) (by simp) hT hO hv
  rw [← hkk]
  exact h)
 have CFI := ϕ (fun W (hO : Ord W) => show Calls Tryd.prog 23 #[.agg (Cv.bytesV s)] W fun e w' => e = .returned (.bool fb) ∧ Below W.heap.size W w' from hfb ▸ Fits_any W s hs hO)
 have HEQ := ϕ (show ∀ W : World, (Op.equalIn 10000 22 (.agg (Cv.bytesV be)) (.agg (Cv.bytesV r))).run Tryd.prog W = .ok eb W from fun W => heb ▸ Cv.run_equalIn_bytes (P := Tryd.prog) W 22 5 32 Tryd.underlying22 Tryd.underlying5 (by kernel_rfl) be r HBL.out hr)
 have CRD := ϕ crd
 have CM1 := ϕ (hB0 ▸ cm1)
 have CM2 := ϕ cm2
 have CAD := ϕ cad
 have CBY := ϕ cby
 have HKK := ϕ hkkl
 have HT := ϕ hT
 have HO := ϕ hO
 have HKL := ϕ hk
 have HRL := ϕ hr
 have HSL := ϕ hs
 rw [HVV.out]
 clear hok crd hk hr hs hd hT hO ecd ect hrq cbeg hB0 hrB hRA hN cne hN0 hN4 hkk hkkl hkn hR1 cm1 hR2 cm2 hD0 cad cby hbe heb hfb hm
 go_enter Tryd.func10, Tryd.ntmps10
 have tb0 := True.intro
 go_upto_region 1 with (first
  | (have _t := tb0; (with_reducible refine gate_ ?_); refine Rg.box_fresh rfl 22 _ rfl (Cv.bytesV key) rfl ?_; intro X1 hX hbX hnX; have J0 := ϕ hX; have K0 := ϕ hbX; clear hX hbX hnX _t tb0; have tb1 := True.intro)
  | (have _t := tb1; (with_reducible refine gate_ ?_); refine Rg.box_fresh rfl 26 _ rfl (Cv.bytesV (r ++ s)) rfl ?_; intro X2 hX hbX hnX; have J1 := ϕ hX; have K1 := ϕ hbX; clear hX hbX hnX _t tb1; have tb2 := True.intro))
 clear tb2
 obtain ⟨kb, hkb⟩ : ∃ n, w.heap.size = n := ⟨_, rfl⟩
 obtain ⟨gb, hgb⟩ : ∃ n, X1.heap.size = n := ⟨_, rfl⟩
 have Hkb := ϕ (show Rg.Blk X2 kb 22 (Cv.bytesV key) from (hkb ▸ J0.out).below K1.out (hkb ▸ J0.out.lt))
 have Hgb := ϕ (show Rg.Blk X2 gb 26 (Cv.bytesV (r ++ s)) from hgb ▸ J1.out)
 have HB := ϕ (show Below w.heap.size w X2 from K0.out.trans (K1.out.mono K0.out.size))
 have HT := ϕ (HT.out.below HB.out HT.out.size)
 have HO := ϕ (HO.out.below HB.out HO.out.size)
 have HW := ϕ hkb
 try rw [hkb]
 try rw [hgb]
 clear J0 J1 K0 K1 hkb hgb
 go_upto_region 2 with (go_at_call 12; refine (CBE.out _).mono ?_; rintro e w1 ⟨⟨cb, hcb, rfl, hcv⟩, hb1⟩; have Hcb := ϕ (show Rg.Blk w1 cb 49 (u64s (els [cd, ct, c1, c2, c3, c4])) from hcv); have Hkb := ϕ (Hkb.out.below hb1 Hkb.out.lt); have Hgb := ϕ (Hgb.out.below hb1 Hgb.out.lt); have HT := ϕ (HT.out.below hb1 HT.out.size); have HO := ϕ (HO.out.below hb1 HO.out.size); have HB := tm HB hb1; clear hb1 hcv hcb)
 go_upto_region 3 with (first
  | ((with_reducible refine gate_ ?_); refine Cv.load_cells rfl 22 _ rfl kb 0 rfl (Cv.bytesV key) _ (fun j v hv => by rw [Nat.zero_add]; exact Rg.Blk.cell Hkb.out j hv) Tryd.underlying22 rfl (by rw [Cv.bytesV_size, HKL.out]; kernel_rfl) ?_)
  | (go_at_call 22; refine (CRD.out cb _ Hcb.out).mono ?_; rintro e w2 ⟨rfl, hb1⟩; have Hkb := ϕ (Hkb.out.below hb1 Hkb.out.lt); have Hgb := ϕ (Hgb.out.below hb1 Hgb.out.lt); have Hcb := ϕ (Hcb.out.below hb1 Hcb.out.lt); have HT := ϕ (HT.out.below hb1 HT.out.size); have HO := ϕ (HO.out.below hb1 HO.out.size); have HB := tm HB hb1; clear hb1)
  | (refine Rg.store_fresh rfl 43 _ _ rfl (u64s (els [R0.x, R0.y, R0.z, R0.t])) _ 43 rfl rfl (by kernel_rfl) rfl (els_all _) ?_; intro X3 hX hbX; have Hpb := ϕ hX; have Hkb := ϕ (Hkb.out.below hbX Hkb.out.lt); have Hgb := ϕ (Hgb.out.below hbX Hgb.out.lt); have Hcb := ϕ (Hcb.out.below hbX Hcb.out.lt); have HT := ϕ (HT.out.below hbX HT.out.size); have HO := ϕ (HO.out.below hbX HO.out.size); have HB := tm HB hbX; clear hX hbX))
 obtain ⟨pb, hpb⟩ : ∃ n, w2.heap.size = n := ⟨_, rfl⟩
 have Hpb := ϕ (show Rg.Blk X3 pb 43 (u64s (els [R0.x, R0.y, R0.z, R0.t])) from hpb ▸ Hpb.out)
 try rw [hpb]
 clear hpb
 go_upto_region 4 with (first
  | ((with_reducible refine gate_ ?_); refine Cv.slice_to_array rfl 22 5 32 _ rfl _ _ _ _ rfl Tryd.underlying22 (by decide) ?_; skip)
  | ((with_reducible refine gate_ ?_); refine Cv.load_cells rfl 22 _ rfl gb 32 rfl (Cv.bytesV s) _ (Cv.Bytes.cells (back_of Hgb.out HRL.out)) Tryd.underlying22 rfl (by rw [Cv.bytesV_size, HSL.out]; kernel_rfl) ?_)
  | (refine Rg.store_fresh rfl 22 _ _ rfl (Cv.bytesV s) _ 22 rfl rfl (by rw [Cv.bytesV_size, HSL.out]; kernel_rfl) (by rw [Cv.bytesV_size, HSL.out]; rfl) (Cv.bytesV_one _) ?_; intro X4 hX hbX; have Hxb := ϕ hX; have Hkb := ϕ (Hkb.out.below hbX Hkb.out.lt); have Hgb := ϕ (Hgb.out.below hbX Hgb.out.lt); have Hcb := ϕ (Hcb.out.below hbX Hcb.out.lt); have Hpb := ϕ (Hpb.out.below hbX Hpb.out.lt); have HT := ϕ (HT.out.below hbX HT.out.size); have HO := ϕ (HO.out.below hbX HO.out.size); have HB := tm HB hbX; clear hX hbX))
 obtain ⟨xb, hxb⟩ : ∃ n, X3.heap.size = n := ⟨_, rfl⟩
 have Hxb := ϕ (show Rg.Blk X4 xb 22 (Cv.bytesV s) from hxb ▸ Hxb.out)
 try rw [hxb]
 clear hxb
 cases fb with
 | false =>
  go_wp2_with (first
   | (refine load_blk_g (by rfl) 22 _ rfl xb (Cv.bytesV s) 22 rfl Hxb.out Tryd.underlying22 rfl (by rw [Cv.bytesV_size, HSL.out]; kernel_rfl) ?_; skip)
   | (go_at_call 23; refine (CFI.out _ HO.out).mono ?_; rintro e w5 ⟨rfl, hb1⟩; have HB := tm HB hb1; clear hb1))
  go_ret
  exact ⟨rfl, HW.out ▸ HB.out⟩
 | true =>
  go_upto_region 6 with (first
   | (refine load_blk_g (by rfl) 22 _ rfl xb (Cv.bytesV s) 22 rfl Hxb.out Tryd.underlying22 rfl (by rw [Cv.bytesV_size, HSL.out]; kernel_rfl) ?_; skip)
   | (go_at_call 23; refine (CFI.out _ HO.out).mono ?_; rintro e w5 ⟨rfl, hb1⟩; have Hkb := ϕ (Hkb.out.below hb1 Hkb.out.lt); have Hgb := ϕ (Hgb.out.below hb1 Hgb.out.lt); have Hcb := ϕ (Hcb.out.below hb1 Hcb.out.lt); have Hpb := ϕ (Hpb.out.below hb1 Hpb.out.lt); have Hxb := ϕ (Hxb.out.below hb1 Hxb.out.lt); have HT := ϕ (HT.out.below hb1 HT.out.size); have HO := ϕ (HO.out.below hb1 HO.out.size); have HB := tm HB hb1; clear hb1))
  refine RL.start (RL.Aft w5) (by kernel_rfl) (RL.Aft.drew (RL.Aft.refl w5)) ?_
  refine' RL.tv 0 ?hk15 ?_
  case hk15 => (intro W hSW; go_simp; try with_reducible rfl)
  try go_frame
  refine' RL.tv 1 ?hk16 ?_
  case hk16 => (intro W hSW; have x1 := Cv.run_string_len (P := Tryd.prog) W 28 5 9 Tryd.underlying28 Tryd.underlying5 Tryd.underlying9 gb 0 32 64 r HRL.out (front_of (aft_blk hSW Hgb.out) HRL.out); go_simp; try with_reducible rfl)
  try go_frame
  refine' RL.tv 2 ?hk17 ?_
  case hk17 => (intro W hSW; go_simp; try with_reducible rfl)
  try go_frame
  refine' RL.tv 3 ?hk18 ?_
  case hk18 => (intro W hSW; have x1 := Cv.run_string_len (P := Tryd.prog) W 28 5 9 Tryd.underlying28 Tryd.underlying5 Tryd.underlying9 kb 0 32 32 key HKL.out (Cv.Bytes.of_blk (aft_blk hSW Hkb.out)); go_simp; try with_reducible rfl)
  try go_frame
  refine' RL.tv 4 ?hk19 ?_
  case hk19 => (intro W hSW; go_simp; try with_reducible rfl)
  try go_frame
  refine' RL.rest_of (T := ?TTq1) (fun sg yb W => RL.Aft w5 W ∧ Rg.Blk W yb 22 z32 ∧ w5.heap.size ≤ yb) ?hmainq1 ?hrrq1
  case hmainq1 =>
   intro hrest
   refine RL.step2 (i := 5) (j := 7) rfl rfl (by kernel_rfl) (by rfl) (by rfl) (fun y2 hly2 hsy2 K hK => ?_) (fun y2 hly2 hsy2 K hK => ?_)
   · refine RL.wp_made (v := .slice (some ⟨y2.heap.size, 0, none⟩) 3 3) (w' := y2.alloc (.cells #[.string ⟨r.toArray⟩, .string ⟨key.toArray⟩, .string (bs m)] 9)) (by go_simp; try rfl) ?_
     obtain ⟨sg, hsg⟩ : ∃ n, y2.heap.size = n := ⟨_, rfl⟩
     have hba : Below y2.heap.size y2 (y2.alloc (.cells #[.string ⟨r.toArray⟩, .string ⟨key.toArray⟩, .string (bs m)] 9)) := (Below.refl _ _).alloc (Nat.le_refl _) _
     have ksg : Rg.Blk (y2.alloc (.cells #[.string ⟨r.toArray⟩, .string ⟨key.toArray⟩, .string (bs m)] 9)) sg 9 #[.string ⟨r.toArray⟩, .string ⟨key.toArray⟩, .string (bs m)] := Rg.Blk.newAt hsg.symm _ _
     have gsg : w5.heap.size ≤ sg := by rw [← hsg]; exact (show RL.Aft w5 y2 from hsy2).size
     refine hK.out _ _ (RL.Aft.alloc hsy2 _) ?_
     try rw [hsg]
     have hSy2y : RL.Aft w5 (y2.alloc (.cells #[.string ⟨r.toArray⟩, .string ⟨key.toArray⟩, .string (bs m)] 9)) := RL.Aft.alloc hsy2 _
     generalize hyy2 : y2.alloc (.cells #[.string ⟨r.toArray⟩, .string ⟨key.toArray⟩, .string (bs m)] 9) = y2y at *
     clear hsg hba hyy2
     clear hK
     try go_frame
     refine RL.step2 (i := 6) (j := 7) rfl rfl (by kernel_rfl) (by rfl) (by rfl) (fun y3 hly3 hsy3 K hK => ?_) (fun y3 hly3 hsy3 K hK => ?_)
     · have ksg := ksg.below hly3 ksg.lt
       refine RL.wp_enter (F := 16) (args := #[.slice (some ⟨sg, 0, none⟩) 3 3]) (by go_simp; try rfl) ?_
       refine (HR2.out y3 _ (HT.out.below hsy3 HT.out.size) (HO.out.below hsy3 HO.out.size) (parts_blk [_, _, _] ksg 3 rfl)).mono ?_
       rintro e y3x ⟨rfl, hb⟩
       have hSy3x : RL.Aft w5 y3x := RL.Aft.lat hsy3 hb
       have ksg := ksg.below hb ksg.lt
       refine ⟨_, rfl, hK.out _ _ (RL.Aft.lat hsy3 hb) ?_⟩
       clear hK
       try go_frame
       refine RL.sk 7 (fun y4 hly4 hsy4 K hK => ?_)
       have ksg := ksg.below hly4 ksg.lt
       refine RL.wp_made (v := .pointer (some ⟨y4.heap.size, 0, none⟩)) (w' := y4.alloc (.cells z32 22)) (by go_simp; try rfl) ?_
       obtain ⟨yb, hyb⟩ : ∃ n, y4.heap.size = n := ⟨_, rfl⟩
       have hba : Below y4.heap.size y4 (y4.alloc (.cells z32 22)) := (Below.refl _ _).alloc (Nat.le_refl _) _
       have kyb : Rg.Blk (y4.alloc (.cells z32 22)) yb 22 z32 := Rg.Blk.newAt hyb.symm _ _
       have gyb : w5.heap.size ≤ yb := by rw [← hyb]; exact (show RL.Aft w5 y4 from hsy4).size
       have ksg := ksg.below hba ksg.lt
       refine hK.out _ _ (RL.Aft.alloc hsy4 _) ?_
       try rw [hyb]
       have hSy4y : RL.Aft w5 (y4.alloc (.cells z32 22)) := RL.Aft.alloc hsy4 _
       generalize hyy4 : y4.alloc (.cells z32 22) = y4y at *
       clear hyb hba hyy4
       clear hK
       try go_frame
       refine RL.norm #[true, true, true, true, true, true, true, true, false] (by kernel_rfl) ?_
       exact hrest sg yb _ ⟨by assumption, kyb, gyb⟩
     · have ksg := ksg.below hly3 ksg.lt
       refine RL.wp_made (v := .pointer (some ⟨y3.heap.size, 0, none⟩)) (w' := y3.alloc (.cells z32 22)) (by go_simp; try rfl) ?_
       obtain ⟨yb, hyb⟩ : ∃ n, y3.heap.size = n := ⟨_, rfl⟩
       have hba : Below y3.heap.size y3 (y3.alloc (.cells z32 22)) := (Below.refl _ _).alloc (Nat.le_refl _) _
       have kyb : Rg.Blk (y3.alloc (.cells z32 22)) yb 22 z32 := Rg.Blk.newAt hyb.symm _ _
       have gyb : w5.heap.size ≤ yb := by rw [← hyb]; exact (show RL.Aft w5 y3 from hsy3).size
       have ksg := ksg.below hba ksg.lt
       refine hK.out _ _ (RL.Aft.alloc hsy3 _) ?_
       try rw [hyb]
       have hSy3y : RL.Aft w5 (y3.alloc (.cells z32 22)) := RL.Aft.alloc hsy3 _
       generalize hyy3 : y3.alloc (.cells z32 22) = y3y at *
       clear hyb hba hyy3
       clear hK
       try go_frame
       refine RL.sk 6 (fun y5 hly5 hsy5 K hK => ?_)
       have ksg := ksg.below hly5 ksg.lt
       have kyb := kyb.below hly5 kyb.lt
       refine RL.wp_enter (F := 16) (args := #[.slice (some ⟨sg, 0, none⟩) 3 3]) (by go_simp; try rfl) ?_
       refine (HR2.out y5 _ (HT.out.below hsy5 HT.out.size) (HO.out.below hsy5 HO.out.size) (parts_blk [_, _, _] ksg 3 rfl)).mono ?_
       rintro e y5x ⟨rfl, hb⟩
       have hSy5x : RL.Aft w5 y5x := RL.Aft.lat hsy5 hb
       have ksg := ksg.below hb ksg.lt
       have kyb := kyb.below hb kyb.lt
       refine ⟨_, rfl, hK.out _ _ (RL.Aft.lat hsy5 hb) ?_⟩
       clear hK
       try go_frame
       refine RL.norm #[true, true, true, true, true, true, true, true, false] (by kernel_rfl) ?_
       exact hrest sg yb _ ⟨by assumption, kyb, gyb⟩
   · refine RL.wp_made (v := .pointer (some ⟨y2.heap.size, 0, none⟩)) (w' := y2.alloc (.cells z32 22)) (by go_simp; try rfl) ?_
     obtain ⟨yb, hyb⟩ : ∃ n, y2.heap.size = n := ⟨_, rfl⟩
     have hba : Below y2.heap.size y2 (y2.alloc (.cells z32 22)) := (Below.refl _ _).alloc (Nat.le_refl _) _
     have kyb : Rg.Blk (y2.alloc (.cells z32 22)) yb 22 z32 := Rg.Blk.newAt hyb.symm _ _
     have gyb : w5.heap.size ≤ yb := by rw [← hyb]; exact (show RL.Aft w5 y2 from hsy2).size
     refine hK.out _ _ (RL.Aft.alloc hsy2 _) ?_
     try rw [hyb]
     have hSy2y : RL.Aft w5 (y2.alloc (.cells z32 22)) := RL.Aft.alloc hsy2 _
     generalize hyy2 : y2.alloc (.cells z32 22) = y2y at *
     clear hyb hba hyy2
     clear hK
     try go_frame
     refine RL.sk 5 (fun y6 hly6 hsy6 K hK => ?_)
     have kyb := kyb.below hly6 kyb.lt
     refine RL.wp_made (v := .slice (some ⟨y6.heap.size, 0, none⟩) 3 3) (w' := y6.alloc (.cells #[.string ⟨r.toArray⟩, .string ⟨key.toArray⟩, .string (bs m)] 9)) (by go_simp; try rfl) ?_
     obtain ⟨sg, hsg⟩ : ∃ n, y6.heap.size = n := ⟨_, rfl⟩
     have hba : Below y6.heap.size y6 (y6.alloc (.cells #[.string ⟨r.toArray⟩, .string ⟨key.toArray⟩, .string (bs m)] 9)) := (Below.refl _ _).alloc (Nat.le_refl _) _
     have ksg : Rg.Blk (y6.alloc (.cells #[.string ⟨r.toArray⟩, .string ⟨key.toArray⟩, .string (bs m)] 9)) sg 9 #[.string ⟨r.toArray⟩, .string ⟨key.toArray⟩, .string (bs m)] := Rg.Blk.newAt hsg.symm _ _
     have gsg : w5.heap.size ≤ sg := by rw [← hsg]; exact (show RL.Aft w5 y6 from hsy6).size
     have kyb := kyb.below hba kyb.lt
     refine hK.out _ _ (RL.Aft.alloc hsy6 _) ?_
     try rw [hsg]
     have hSy6y : RL.Aft w5 (y6.alloc (.cells #[.string ⟨r.toArray⟩, .string ⟨key.toArray⟩, .string (bs m)] 9)) := RL.Aft.alloc hsy6 _
     generalize hyy6 : y6.alloc (.cells #[.string ⟨r.toArray⟩, .string ⟨key.toArray⟩, .string (bs m)] 9) = y6y at *
     clear hsg hba hyy6
     clear hK
     try go_frame
     refine RL.sk 6 (fun y7 hly7 hsy7 K hK => ?_)
     have kyb := kyb.below hly7 kyb.lt
     have ksg := ksg.below hly7 ksg.lt
     refine RL.wp_enter (F := 16) (args := #[.slice (some ⟨sg, 0, none⟩) 3 3]) (by go_simp; try rfl) ?_
     refine (HR2.out y7 _ (HT.out.below hsy7 HT.out.size) (HO.out.below hsy7 HO.out.size) (parts_blk [_, _, _] ksg 3 rfl)).mono ?_
     rintro e y7x ⟨rfl, hb⟩
     have hSy7x : RL.Aft w5 y7x := RL.Aft.lat hsy7 hb
     have kyb := kyb.below hb kyb.lt
     have ksg := ksg.below hb ksg.lt
     refine ⟨_, rfl, hK.out _ _ (RL.Aft.lat hsy7 hb) ?_⟩
     clear hK
     try go_frame
     refine RL.norm #[true, true, true, true, true, true, true, true, false] (by kernel_rfl) ?_
     exact hrest sg yb _ ⟨by assumption, kyb, gyb⟩
  case hrrq1 =>
   rintro sg yb Z0 ⟨ha0, hZ, gyb⟩
   have Fyb := ϕ gyb
   refine RL.sk 8 (fun va hlva hsva K hK => ?_)
   have hZ := hZ.below hlva hZ.lt
   refine store_blk_op 22 _ _ rfl yb (Cv.bytesV kk) _ 22 rfl (by rfl) hZ (by rw [Cv.bytesV_size, HKK.out]; kernel_rfl) (by rw [Cv.bytesV_size, HKK.out]; rfl) (Cv.bytesV_one _) ?_
   intro Y9 hY hgY
   refine hK.out _ _ (Below.grown hsva hgY (Below.size hsva) (fun k hk => by cases hk; exact Fyb.out)) ?_
   clear hK
   try go_frame
   refine RL.done (by kernel_rfl) (fun Z5 hlZ5 hsZ5 => ?_)
   have Hyb := ϕ (show Rg.Blk Z5 yb 22 (Cv.bytesV kk) from hY.below hlZ5 hY.lt)
   clear hZ hY hgY hlva hsva
   have HA := ϕ (show RL.Aft w5 Z5 from hsZ5)
   have Hgb := ϕ (aft_blk HA.out Hgb.out)
   have Hcb := ϕ (aft_blk HA.out Hcb.out)
   have Hpb := ϕ (aft_blk HA.out Hpb.out)
   have Hxb := ϕ (aft_blk HA.out Hxb.out)
   have HB := ϕ (HB.out.trans (Below.mono HA.out HB.out.size))
   clear HA hsZ5 hlZ5
   go_upto_region 7 with fail
   refine RL.start (RL.Aft Z5) (by kernel_rfl) (RL.Aft.drew (RL.Aft.refl Z5)) ?_
   refine' RL.tv 0 ?hk20 ?_
   case hk20 => (intro W hSW; go_simp; try with_reducible rfl)
   try go_frame
   refine' RL.tv 1 ?hk21 ?_
   case hk21 => (intro W hSW; go_simp; try with_reducible rfl)
   try go_frame
   refine RL.tw 2 (v := .agg (Cv.bytesV s)) rfl (fun W hSW => RT.run_row 22 _ rfl _ rfl _ _ (aft_blk hSW Hxb.out) Tryd.underlying22 rfl (by rw [Cv.bytesV_size, HSL.out]; kernel_rfl)) ?_
   try go_frame
   refine' RL.tv 3 ?hk22 ?_
   case hk22 => (intro W hSW; go_simp; try with_reducible rfl)
   try go_frame
   refine' RL.tv 4 ?hk23 ?_
   case hk23 => (intro W hSW; go_simp; try with_reducible rfl)
   try go_frame
   refine' RL.tv 5 ?hk24 ?_
   case hk24 => (intro W hSW; go_simp; try with_reducible rfl)
   try go_frame
   refine RL.tw 6 (v := .agg (u64s (els [c1, c2, c3, c4]))) rfl (fun W hSW => run_at 43 _ rfl cb 10 rfl (u64s (els [c1, c2, c3, c4])) (els_at (aft_blk hSW Hcb.out) 2 10 [c1, c2, c3, c4] rfl rfl (by simp)) Tryd.underlying43 rfl (by kernel_rfl)) ?_
   try go_frame
   refine' RL.tc 7 (v := (.agg (u64s (els [R1.x, R1.y, R1.z, R1.t])))) 13 #[.pointer (some ⟨cb, 0, none⟩), .agg (Cv.bytesV s), .agg (u64s (els [c1, c2, c3, c4]))] ?hk25 ?hc25 ?_
   case hk25 => (intro W; go_simp; try with_reducible rfl)
   case hc25 => (intro W hSW; exact (CM1.out cb W (aft_blk hSW Hcb.out)).mono (fun e w9 h9 => ⟨h9.1, h9.2, RL.Aft.lat hSW h9.2⟩))
   try go_frame
   refine' RL.tv 8 ?hk26 ?_
   case hk26 => (intro W hSW; go_simp; try with_reducible rfl)
   try go_frame
   refine RL.tw 9 (v := .agg (Cv.bytesV kk)) rfl (fun W hSW => RT.run_row 22 _ rfl _ rfl _ _ (aft_blk hSW Hyb.out) Tryd.underlying22 rfl (by rw [Cv.bytesV_size, HKK.out]; kernel_rfl)) ?_
   try go_frame
   refine RL.tw 10 (v := .agg (u64s (els [R0.x, R0.y, R0.z, R0.t]))) rfl (fun W hSW => RT.run_row 43 _ rfl _ rfl _ _ (aft_blk hSW Hpb.out) Tryd.underlying43 rfl (by kernel_rfl)) ?_
   try go_frame
   refine' RL.tc 11 (v := (.agg (u64s (els [N0.x, N0.y, N0.z, N0.t])))) 25 #[.agg (u64s (els [R0.x, R0.y, R0.z, R0.t]))] ?hk27 ?hc27 ?_
   case hk27 => (intro W; go_simp; try with_reducible rfl)
   case hc27 => (intro W hSW; exact (CNE.out W).mono (fun e w9 h9 => ⟨h9.1, h9.2, RL.Aft.lat hSW h9.2⟩))
   try go_frame
   refine' RL.tc 12 (v := (.agg (u64s (els [R2.x, R2.y, R2.z, R2.t])))) 13 #[.pointer (some ⟨cb, 0, none⟩), .agg (Cv.bytesV kk), .agg (u64s (els [N0.x, N0.y, N0.z, N0.t]))] ?hk28 ?hc28 ?_
   case hk28 => (intro W; go_simp; try with_reducible rfl)
   case hc28 => (intro W hSW; exact (CM2.out cb W (aft_blk hSW Hcb.out)).mono (fun e w9 h9 => ⟨h9.1, h9.2, RL.Aft.lat hSW h9.2⟩))
   try go_frame
   refine' RL.tc 13 (v := (.agg (u64s (els [D0.x, D0.y, D0.z, D0.t])))) 24 #[.pointer (some ⟨cb, 0, none⟩), .agg (u64s (els [R1.x, R1.y, R1.z, R1.t])), .agg (u64s (els [R2.x, R2.y, R2.z, R2.t]))] ?hk29 ?hc29 ?_
   case hk29 => (intro W; go_simp; try with_reducible rfl)
   case hc29 => (intro W hSW; exact (CAD.out cb W (aft_blk hSW Hcb.out)).mono (fun e w9 h9 => ⟨h9.1, h9.2, RL.Aft.lat hSW h9.2⟩))
   try go_frame
   refine' RL.tc 14 (v := (.agg (Cv.bytesV be))) 15 #[.agg (u64s (els [D0.x, D0.y, D0.z, D0.t]))] ?hk30 ?hc30 ?_
   case hk30 => (intro W; go_simp; try with_reducible rfl)
   case hc30 => (intro W hSW; exact (CBY.out W).mono (fun e w9 h9 => ⟨h9.1, h9.2, RL.Aft.lat hSW h9.2⟩))
   try go_frame
   refine' RL.tv 15 ?hk31 ?_
   case hk31 => (intro W hSW; go_simp; try with_reducible rfl)
   try go_frame
   refine RL.tw 16 (v := .pointer (some ⟨gb, 0, none⟩)) rfl (fun W hSW => run_arr 22 5 32 _ rfl gb 0 32 64 rfl Tryd.underlying22 (by decide)) ?_
   try go_frame
   refine RL.tw 17 (v := .agg (Cv.bytesV r)) rfl (fun W hSW => run_at 22 _ rfl gb 0 rfl (Cv.bytesV r) (Cv.Bytes.cells (front_of (aft_blk hSW Hgb.out) HRL.out)) Tryd.underlying22 rfl (by rw [Cv.bytesV_size, HRL.out]; kernel_rfl)) ?_
   try go_frame
   refine' RL.tw 18 (v := .bool eb) rfl ?e8 ?_
   case e8 => (intro W hSW; have x1 := HEQ.out W; go_simp; try (clear x1; cases eb <;> rfl))
   try go_frame
   refine' RL.tv 19 ?hk32 ?_
   case hk32 => (intro W hSW; go_simp; try with_reducible rfl)
   try go_frame
   refine RL.done (by kernel_rfl) (fun Z9 hlZ9 hsZ9 => ?_)
   have HB := ϕ (HB.out.trans (Below.mono (show RL.Aft Z5 Z9 from hsZ9) HB.out.size))
   go_wp2_with fail
   go_ret
   exact ⟨rfl, HW.out ▸ HB.out⟩
theorem Verify_any (w : World) (key m r s : List UInt8) (hk : key.length = 32) (hm : m.length ≤ 10000) (hr : r.length = 32) (hs : s.length = 32) (hT : Sha.Tables w) (hO : Ord w) : Calls Tryd.prog 10 #[.agg (Cv.bytesV key), .string (bs m), .agg (Cv.bytesV (r ++ s))] w fun e w' => e = .returned (.bool (ver key m r s)) ∧ Below w.heap.size w w' := by
 cases hd : dec key with
 | none => exact ver_no w key m r s hk hr hs hd hT hO
 | some A => exact ver_yes w key m r s hk hm hr hs hd hT hO
end Go.Proofs.YtfpcelmekfdafaaDoor.Kx
namespace Go.Proofs.YtfpcelmekfdafaaDoor.Ed
open Go.Proofs.YtfpcelmekfdafaaDoor.Nt
theorem t0 (d x y : F) (hx : x = 0) : 1 - d * x * x * y * y = 1 := by rw [hx]; grobner
theorem Pt.mul_zero : ∀ n, Pt.mul n Pt.zero = Pt.zero
 | 0 => rfl
 | n + 1 => by show (Pt.mul n Pt.zero).add Pt.zero = _; rw [Pt.mul_zero n, Pt.add_zero]
theorem Pt.order {l n : Nat} (hl : Pr l) {p : Pt} (hL : Pt.mul l p = Pt.zero) (hn : Pt.mul n p = Pt.zero) (hd : ¬ l ∣ n) : p = Pt.zero := by
 have hf := fermat hl hd
 have h1 : Pt.mul (n ^ (l - 1)) p = Pt.zero := by
  obtain ⟨k, hk⟩ : ∃ k, l - 1 = k + 1 := ⟨l - 2, by have := hl.1; omega⟩
  rw [hk, Nat.pow_succ, Pt.mul_mul, hn, Pt.mul_zero]
 have h2 : n ^ (l - 1) = n ^ (l - 1) / l * l + 1 := by
  have := Nat.div_add_mod (n ^ (l - 1)) l
  rw [hf, Nat.mul_comm] at this
  exact this.symm
 rw [h2] at h1
 have h3 : Pt.mul (n ^ (l - 1) / l * l + 1) p = (Pt.mul (n ^ (l - 1) / l * l) p).add p := rfl
 rw [h3, Pt.mul_mul, hL, Pt.mul_zero, Pt.zero_add] at h1
 exact h1
theorem base_ne : base ≠ Pt.zero := fun h => by
 have : base.y = (1 : F) := by rw [h]; rfl
 exact absurd this (by decide +kernel)
end Go.Proofs.YtfpcelmekfdafaaDoor.Ed
namespace Go.Proofs.YtfpcelmekfdafaaDoor.Kx
open Go.Proofs.YtfpcelmekfdafaaDoor.Ed Go.Proofs.YtfpcelmekfdafaaDoor.Cl
theorem getD_set_ne (l : List UInt8) (i j : Nat) (v d : UInt8) (h : i ≠ j) : (l.set i v).getD j d = l.getD j d := by
 rw [List.getD_eq_getElem?_getD, List.getD_eq_getElem?_getD, List.getElem?_set_ne h]
end Go.Proofs.YtfpcelmekfdafaaDoor.Kx
namespace Go.Proofs.YtfpcelmekfdafaaDoor.Ed
open Go.Proofs.YtfpcelmekfdafaaDoor.Nt Go.Proofs.YtfpcelmekfdafaaDoor.Kx Go.Proofs.YtfpcelmekfdafaaDoor.Rf
theorem mul_modL (n : Nat) : Pt.mul (n % L) base = Pt.mul n base := by
 have h : Pt.mul n base = Pt.mul (L * (n / L) + n % L) base := by rw [Nat.div_add_mod]
 rw [h, Pt.mul_add, Pt.mul_mul, Pt.mul_swap, ord_base, Pt.mul_zero, Pt.zero_add]
theorem mul_cong {m n : Nat} (h : m % L = n % L) : Pt.mul m base = Pt.mul n base := by rw [← mul_modL m, h, mul_modL]
theorem neg_is (a : Nat) (l : Nat) (hl : L = l + 1) : (Pt.mul a base).neg = Pt.mul (l * a) base := by
 refine Pt.cancel _ _ (Pt.mul a base) ?_
 rw [Pt.comm, Pt.add_neg, ← Pt.mul_add, show l * a + a = L * a by rw [hl, Nat.add_mul, Nat.one_mul], Pt.mul_mul, Pt.mul_swap, ord_base, Pt.mul_zero]
/-- what a check reckons, as one multiple -/
theorem check_is (S k a l : Nat) (hl : L = l + 1) : (Pt.mul S base).add (Pt.mul k (Pt.mul a base).neg) = Pt.mul (S + k * (l * a)) base := by
 rw [neg_is a l hl, ← Pt.mul_mul, ← Pt.mul_add]
theorem sum_mod (k a r l n : Nat) (hl : n = l + 1) : ((k * a + r) % n + k * (l * a)) % n = r % n := by
 rw [Nat.add_mod, Nat.mod_mod, ← Nat.add_mod]
 have : k * a + r + k * (l * a) = r + n * (k * a) := by
  rw [hl, Nat.add_mul, Nat.one_mul, Nat.mul_left_comm k l a]
  omega
 rw [this, Nat.add_mul_mod_self_left]
def Lm : Nat := 7237005577332262213973186563042994240857116359379907606001950938285454250988
theorem Lm_eq : L = Lm + 1 := by decide +kernel
theorem enc_inj {p q : Pt} (h : enc p = enc q) : p = q := by
 have h1 := dec_enc p
 rw [h, dec_enc q] at h1
 exact (some_eq (P := fun x => x = q) h1 rfl)
theorem dec_pub (seed : List UInt8) : dec (pub seed) = some (pubP seed) := dec_enc _
/-- a signature fits -/
theorem ver_sig (seed m : List UInt8) : ver (pub seed) m (enc (rP seed m)) (toLe 32 (sN seed (pub seed) m)) = true := by
 rw [ver_some (dec_pub seed)]
 have hS : sN seed (pub seed) m < L := Nat.mod_lt _ l_pos
 rw [leN_l hS, decide_eq_true hS, Bool.true_and]
 refine decide_eq_true (congrArg enc ?_)
 show (Pt.mul _ base).add (Pt.mul _ (Pt.mul (aN seed) base).neg) = Pt.mul (rN seed m) base
 rw [check_is _ _ _ _ Lm_eq]
 refine mul_cong ?_
 unfold sN
 exact sum_mod _ _ _ _ _ Lm_eq
/-- a number that is not less than the order fits nothing -/
theorem ver_big {key m r s : List UInt8} (h : ¬ leN s < L) : ver key m r s = false := by
 cases hd : dec key with
 | none => exact ver_none hd
 | some A => rw [ver_some hd, decide_eq_false h, Bool.false_and]
/-- bytes whose low bits are not less than p are no point's -/
theorem dec_high {l : List UInt8} (h : P ≤ leN l % 2 ^ 255) : dec l = none := by
 cases hd : dec l with
 | none => rfl
 | some q =>
  have e := dec_some hd
  have h1 := leN_enc q
  rw [e] at h1
  unfold encN at h1
  rw [h1, Nat.add_mul_mod_self_left, Nat.mod_eq_of_lt (y_lt q.y)] at h
  exact absurd q.y.isLt (Nat.not_lt.2 h)
/-- two multiples with different numbers -/
theorem mulB_ne {x r : Nat} (h : (x + (L - r % L)) % L ≠ 0) : Pt.mul x base ≠ Pt.mul r base := fun e => by
 have h1 : Pt.mul (x + (L - r % L)) base = Pt.zero := by
  rw [Pt.mul_add, e, ← mul_modL r, ← Pt.mul_add, show r % L + (L - r % L) = L by have := Nat.mod_lt r l_pos; omega, ord_base]
 exact base_ne (Pt.order Nt.pr_l ord_base h1 (fun hd => h (Nat.mod_eq_zero_of_dvd hd)))
theorem ver_not {seed m n : List UInt8} (h : (sN seed (pub seed) m + red (enc (rP seed m) ++ pub seed ++ n) * (Lm * aN seed) + (L - rN seed m % L)) % L ≠ 0) : ver (pub seed) n (enc (rP seed m)) (toLe 32 (sN seed (pub seed) m)) = false := by
 rw [ver_some (dec_pub seed)]
 have hS : sN seed (pub seed) m < L := Nat.mod_lt _ l_pos
 rw [leN_l hS, decide_eq_true hS, Bool.true_and]
 refine decide_eq_false (fun e => ?_)
 have e2 := enc_inj e
 have e3 : (Pt.mul (sN seed (pub seed) m) base).add (Pt.mul (red (enc (rP seed m) ++ pub seed ++ n)) (Pt.mul (aN seed) base).neg) = Pt.mul (rN seed m) base := e2
 rw [check_is _ _ _ _ Lm_eq] at e3
 exact mulB_ne h e3
theorem f_comm (a b : F) : a * b = b * a := by grobner
/-- a multiple's bytes, by the kernel -/
theorem enc_of {n x y e : Nat} (hn : n < 2 ^ 256) (hx : x < P) (hy : y < P) (h : kDbl bx.val byy.val 1 256 n (fun A B C => A == x * C % P && B == y * C % P) = true) (he : e = y + 2 ^ 255 * (x % 2)) : enc (Pt.mul n base) = toLe 32 e := by
 obtain ⟨A, B, C, h1, h2⟩ := kDbl_eq base (Rep.of base) 256 n
 have h3 := h2 Bool (fun A B C => A == x * C % P && B == y * C % P)
 rw [show (1 : Nat) = (1 : F).val from rfl] at h
 rw [show kDbl bx.val byy.val (1 : F).val 256 n (fun A B C => A == x * C % P && B == y * C % P) = _ from h3] at h
 rw [Bool.and_eq_true, beq_iff_eq, beq_iff_eq] at h
 rw [Pt.dbl_eq base 256 n hn] at h1
 have hA : C * (Pt.mul n base).x = C * ⟨x, hx⟩ := by
  rw [f_comm, ← h1.x, f_comm]
  exact Fin.ext h.1
 have hB : C * (Pt.mul n base).y = C * ⟨y, hy⟩ := by
  rw [f_comm, ← h1.y, f_comm]
  exact Fin.ext h.2
 have ex := cancel h1.z hA
 have ey := cancel h1.z hB
 unfold enc encN
 rw [ex, ey, he]
def s1 : List UInt8 := [1, 0, 0, 0, 0, 0, 0, 0, 0, 0, 0, 0, 0, 0, 0, 0, 0, 0, 0, 0, 0, 0, 0, 0, 0, 0, 0, 0, 0, 0, 0, 0]
def d1 : List UInt8 := [206, 12, 38, 94, 204, 130, 221, 140, 238, 110, 86, 206, 68, 228, 93, 175, 215, 160, 197, 117, 13, 249, 20, 178, 83, 161, 251, 122, 138, 246, 109, 219, 153, 118, 54, 7, 240, 168, 93, 11, 212, 54, 105, 25, 74, 58, 64, 87, 122, 82, 138, 243, 149, 244, 241, 126, 6, 241, 222, 252, 198, 222, 178, 165]
def p1 : List UInt8 := [206, 204, 21, 7, 220, 29, 221, 114, 149, 149, 28, 41, 8, 136, 240, 149, 173, 185, 4, 77, 27, 115, 214, 150, 230, 223, 6, 93, 104, 59, 212, 252]
def r1 : List UInt8 := [201, 109, 201, 63, 7, 56, 97, 11, 167, 251, 241, 72, 213, 248, 62, 58, 247, 169, 150, 2, 66, 169, 61, 247, 125, 196, 208, 55, 148, 83, 246, 35]
theorem d1_is : dig5 s1 = d1 := by decide +kernel
theorem a1_is : aN s1 = 41354757114163650016304086911142683682198188400503391378057401993857692208328 := by
 unfold aN
 rw [d1_is]
 decide +kernel
theorem p1_is : pub s1 = p1 := by
 unfold pub pubP
 rw [a1_is, enc_of (x := 26822555233711949854380153315158647482531717314742952720223963642152101436051) (y := 56461774818723834839721450787889437474891852695816614318545467683432985644238) (e := 114357819437381932551506943292233391401526845028636896338274259687389550464206) (by decide +kernel) (by decide +kernel) (by decide +kernel) (by decide +kernel) (by decide +kernel)]
 decide +kernel
theorem n1_is : rN s1 [109] = 4890104081311413305361073175215351191204643243835004713526441721940766287696 := by
 unfold rN red
 rw [d1_is]
 decide +kernel
theorem r1_is : enc (rP s1 [109]) = r1 := by
 unfold rP
 rw [n1_is, enc_of (x := 36589614117339618185487057778166490842490972133339139349903414575049252153694) (y := 16266170919246754522540951498933028769817383645178266188855790139532158528969) (e := 16266170919246754522540951498933028769817383645178266188855790139532158528969) (by decide +kernel) (by decide +kernel) (by decide +kernel) (by decide +kernel) (by decide +kernel)]
 decide +kernel
theorem km_is : red (r1 ++ p1 ++ [109]) = 2451039515709583726476366537570809016505929779665322811895523651432471642957 := by unfold red; decide +kernel
theorem kn_is : red (r1 ++ p1 ++ [110]) = 1632659995609997945301961149528741832457992758927200494524137169447212801414 := by unfold red; decide +kernel
theorem sN_of {s m e p : List UInt8} {k a r S : Nat} (h0 : enc (rP s m) = e) (hp : pub s = p) (h1 : red (e ++ p ++ m) = k) (h2 : aN s = a) (h3 : rN s m = r) (h4 : (k * a + r) % L = S) : sN s (pub s) m = S := by
 unfold sN
 rw [h0, hp, h1, h2, h3]
 exact h4
theorem s1_is : sN s1 (pub s1) [109] = 3578348655535617917364192395663811809538708995023043596639455394899626080766 := sN_of r1_is p1_is km_is a1_is n1_is (by decide +kernel)
theorem one_no : ver (pub s1) [110] (enc (rP s1 [109])) (toLe 32 (sN s1 (pub s1) [109])) = false := by
 refine ver_not ?_
 rw [s1_is, r1_is, p1_is, kn_is, a1_is, n1_is]
 decide +kernel
end Go.Proofs.YtfpcelmekfdafaaDoor.Ed
namespace Go.Proofs.YtfpcelmekfdafaaDoor.Kx
open Go.RowKit Go.Proofs.YtfpcelmekfdafaaDoor.Cl Go.Proofs.YtfpcelmekfdafaaDoor.Ed Go.Proofs.YtfpcelmekfdafaaDoor.Rf
theorem s1b : Cv.bytesV Ed.s1 = (#[.int .u8 1, .int .u8 0, .int .u8 0, .int .u8 0, .int .u8 0, .int .u8 0, .int .u8 0, .int .u8 0, .int .u8 0, .int .u8 0, .int .u8 0, .int .u8 0, .int .u8 0, .int .u8 0, .int .u8 0, .int .u8 0, .int .u8 0, .int .u8 0, .int .u8 0, .int .u8 0, .int .u8 0, .int .u8 0, .int .u8 0, .int .u8 0, .int .u8 0, .int .u8 0, .int .u8 0, .int .u8 0, .int .u8 0, .int .u8 0, .int .u8 0, .int .u8 0] : Array Value) := by unfold Cv.bytesV Ed.s1; rfl
theorem s1_len : Ed.s1.length = 32 := by decide
theorem pub_len (l : List UInt8) : (pub l).length = 32 := enc_len _
/-- a key, a signature and their check, over names -/
structure Sg (w : World) : Prop where
 t : Sha.Tables w
 o : Ord w
theorem Sg.below {w w' : World} (h : Sg w) (hb : Below w.heap.size w w') : Sg w' := ⟨h.t.below hb h.t.size, h.o.below hb h.o.size⟩
theorem Sg.aft {w w' : World} (h : Sg w) (hb : RL.Aft w w') : Sg w' := h.below hb
theorem sig_is (seed m : List UInt8) : sig seed (pub seed) m = enc (rP seed m) ++ toLe 32 (sN seed (pub seed) m) := rfl
theorem awake08 (w : World) (hG : Sg w) : Calls Tryd.prog 4 #[] w fun e w' => e = .returned (.bool true) ∧ Below w.heap.size w w' := by
 obtain ⟨ke, hke⟩ : ∃ k, pub Ed.s1 = k := ⟨_, rfl⟩
 obtain ⟨r, hr⟩ : ∃ k, enc (rP Ed.s1 [109]) = k := ⟨_, rfl⟩
 obtain ⟨s, hs⟩ : ∃ k, toLe 32 (sN Ed.s1 (pub Ed.s1) [109]) = k := ⟨_, rfl⟩
 have hkl : ke.length = 32 := by rw [← hke]; exact pub_len _
 have hrl : r.length = 32 := by rw [← hr]; exact enc_len _
 have hsl : s.length = 32 := by rw [← hs, toLe_len]
 have v1 := ver_sig Ed.s1 [109]
 have v2 := one_no
 rw [hr, hs, hke] at v1 v2
 have dk := dec_pub Ed.s1
 rw [hke] at dk
 have CKE := ϕ (fun W (h : Sg W) => show Calls Tryd.prog 6 #[.agg (Cv.bytesV Ed.s1)] W fun e w' => e = .returned (.agg (Cv.bytesV ke)) ∧ Below W.heap.size W w' from hke ▸ Key_any W Ed.s1 s1_len h.t)
 have CPO := ϕ (fun W => show Calls Tryd.prog 11 #[.agg (Cv.bytesV ke)] W fun e w' => e = .returned (.bool true) ∧ Below W.heap.size W w' from by
  have h := Point_any W ke hkl
  rw [dk] at h
  exact h)
 have CSI := ϕ (fun W (h : Sg W) => show Calls Tryd.prog 7 #[.agg (Cv.bytesV Ed.s1), .string ⟨#[109]⟩] W fun e w' => e = .returned (.agg (Cv.bytesV (r ++ s))) ∧ Below W.heap.size W w' from by
  have h := Sign_any W Ed.s1 [109] s1_len (by decide) h.t h.o
  rw [sig_is, hr, hs] at h
  exact h)
 have CV1 := ϕ (fun W (h : Sg W) => show Calls Tryd.prog 10 #[.agg (Cv.bytesV ke), .string ⟨#[109]⟩, .agg (Cv.bytesV (r ++ s))] W fun e w' => e = .returned (.bool true) ∧ Below W.heap.size W w' from by
  have h := Verify_any W ke [109] r s hkl (by decide) hrl hsl h.t h.o
  rw [v1] at h
  exact h)
 have CV2 := ϕ (fun W (h : Sg W) => show Calls Tryd.prog 10 #[.agg (Cv.bytesV ke), .string ⟨#[110]⟩, .agg (Cv.bytesV (r ++ s))] W fun e w' => e = .returned (.bool false) ∧ Below W.heap.size W w' from by
  have h := Verify_any W ke [110] r s hkl (by decide) hrl hsl h.t h.o
  rw [v2] at h
  exact h)
 have HKL := ϕ hkl
 have HSL := ϕ s1_len
 have HG := ϕ hG
 have HB := ϕ (Below.refl w.heap.size w)
 clear hG hke hr hs hkl hrl hsl v1 v2 dk
 go_enter Tryd.func4, Tryd.ntmps4
 go_upto_region 2 with (refine Rg.store_fresh rfl 22 _ _ rfl (Cv.bytesV Ed.s1) _ 22 rfl (by rw [s1b]; rfl) (by rw [Cv.bytesV_size, HSL.out]; kernel_rfl) (by rw [Cv.bytesV_size, HSL.out]; rfl) (Cv.bytesV_one _) ?_; intro V1 hX hbX; have Hsb := ϕ hX;  have HG := ϕ (HG.out.below hbX); have HB := tm HB hbX; clear hX hbX)
 obtain ⟨sb, hsb⟩ : ∃ n, w.heap.size = n := ⟨_, rfl⟩
 have Hsb := ϕ (show Rg.Blk V1 sb 22 (Cv.bytesV Ed.s1) from hsb ▸ Hsb.out)
 have HW := ϕ hsb
 try rw [hsb]
 clear hsb
 go_upto_region 3 with (first
  | ((with_reducible refine gate_ ?_); refine Cv.load_cells rfl 22 _ rfl sb 0 rfl (Cv.bytesV Ed.s1) _ (fun j v hv => by rw [Nat.zero_add]; exact Rg.Blk.cell Hsb.out j hv) Tryd.underlying22 rfl (by rw [Cv.bytesV_size, HSL.out]; kernel_rfl) ?_)
  | (go_at_call 6; refine (CKE.out _ HG.out).mono ?_; rintro e w1 ⟨rfl, hb1⟩; have Hsb := ϕ (Hsb.out.below hb1 Hsb.out.lt); have HG := ϕ (HG.out.below hb1); have HB := tm HB hb1; clear hb1)
  | (refine Rg.store_fresh rfl 22 _ _ rfl (Cv.bytesV ke) _ 22 rfl rfl (by rw [Cv.bytesV_size, HKL.out]; kernel_rfl) (by rw [Cv.bytesV_size, HKL.out]; rfl) (Cv.bytesV_one _) ?_; intro V2 hX hbX; have Hkb := ϕ hX; have Hsb := ϕ (Hsb.out.below hbX Hsb.out.lt); have HG := ϕ (HG.out.below hbX); have HB := tm HB hbX; clear hX hbX))
 obtain ⟨kb, hkb⟩ : ∃ n, w1.heap.size = n := ⟨_, rfl⟩
 have Hkb := ϕ (show Rg.Blk V2 kb 22 (Cv.bytesV ke) from hkb ▸ Hkb.out)
 try rw [hkb]
 clear hkb
 refine RL.start (RL.Aft V2) (by kernel_rfl) (RL.Aft.drew (RL.Aft.refl V2)) ?_
 refine RL.tw 0 (v := .agg (Cv.bytesV ke)) rfl (fun W hSW => RT.run_row 22 _ rfl _ rfl _ _ (aft_blk hSW Hkb.out) Tryd.underlying22 rfl (by rw [Cv.bytesV_size, HKL.out]; kernel_rfl)) ?_
 try go_frame
 refine' RL.tc 1 (v := (.bool true)) 11 #[.agg (Cv.bytesV ke)] ?hk15 ?hc15 ?_
 case hk15 => (intro W; go_simp; try with_reducible rfl)
 case hc15 => (intro W hSW; exact (CPO.out W).mono (fun e w9 h9 => ⟨h9.1, h9.2, RL.Aft.lat hSW h9.2⟩))
 try go_frame
 refine' RL.tv 2 ?hk16 ?_
 case hk16 => (intro W hSW; go_simp; try with_reducible rfl)
 try go_frame
 refine RL.tw 3 (v := .agg (Cv.bytesV ke)) rfl (fun W hSW => RT.run_row 22 _ rfl _ rfl _ _ (aft_blk hSW Hkb.out) Tryd.underlying22 rfl (by rw [Cv.bytesV_size, HKL.out]; kernel_rfl)) ?_
 try go_frame
 refine RL.tw 4 (v := .agg (Cv.bytesV Ed.s1)) rfl (fun W hSW => RT.run_row 22 _ rfl _ rfl _ _ (aft_blk hSW Hsb.out) Tryd.underlying22 rfl (by rw [Cv.bytesV_size, HSL.out]; kernel_rfl)) ?_
 try go_frame
 refine' RL.tc 5 (v := (.agg (Cv.bytesV (r ++ s)))) 7 #[.agg (Cv.bytesV Ed.s1), .string ⟨#[109]⟩] ?hk17 ?hc17 ?_
 case hk17 => (intro W; go_simp; try with_reducible rfl)
 case hc17 => (intro W hSW; exact (CSI.out W (HG.out.aft hSW)).mono (fun e w9 h9 => ⟨h9.1, h9.2, RL.Aft.lat hSW h9.2⟩))
 try go_frame
 refine' RL.tc 6 (v := (.bool true)) 10 #[.agg (Cv.bytesV ke), .string ⟨#[109]⟩, .agg (Cv.bytesV (r ++ s))] ?hk18 ?hc18 ?_
 case hk18 => (intro W; go_simp; try with_reducible rfl)
 case hc18 => (intro W hSW; exact (CV1.out W (HG.out.aft hSW)).mono (fun e w9 h9 => ⟨h9.1, h9.2, RL.Aft.lat hSW h9.2⟩))
 try go_frame
 refine' RL.tv 7 ?hk19 ?_
 case hk19 => (intro W hSW; go_simp; try with_reducible rfl)
 try go_frame
 refine' RL.tv 8 ?hk20 ?_
 case hk20 => (intro W hSW; go_simp; try with_reducible rfl)
 try go_frame
 refine RL.tw 9 (v := .agg (Cv.bytesV ke)) rfl (fun W hSW => RT.run_row 22 _ rfl _ rfl _ _ (aft_blk hSW Hkb.out) Tryd.underlying22 rfl (by rw [Cv.bytesV_size, HKL.out]; kernel_rfl)) ?_
 try go_frame
 refine RL.tw 10 (v := .agg (Cv.bytesV Ed.s1)) rfl (fun W hSW => RT.run_row 22 _ rfl _ rfl _ _ (aft_blk hSW Hsb.out) Tryd.underlying22 rfl (by rw [Cv.bytesV_size, HSL.out]; kernel_rfl)) ?_
 try go_frame
 refine' RL.tc 11 (v := (.agg (Cv.bytesV (r ++ s)))) 7 #[.agg (Cv.bytesV Ed.s1), .string ⟨#[109]⟩] ?hk21 ?hc21 ?_
 case hk21 => (intro W; go_simp; try with_reducible rfl)
 case hc21 => (intro W hSW; exact (CSI.out W (HG.out.aft hSW)).mono (fun e w9 h9 => ⟨h9.1, h9.2, RL.Aft.lat hSW h9.2⟩))
 try go_frame
 refine' RL.tc 12 (v := (.bool false)) 10 #[.agg (Cv.bytesV ke), .string ⟨#[110]⟩, .agg (Cv.bytesV (r ++ s))] ?hk22 ?hc22 ?_
 case hk22 => (intro W; go_simp; try with_reducible rfl)
 case hc22 => (intro W hSW; exact (CV2.out W (HG.out.aft hSW)).mono (fun e w9 h9 => ⟨h9.1, h9.2, RL.Aft.lat hSW h9.2⟩))
 try go_frame
 refine' RL.tv 13 ?hk23 ?_
 case hk23 => (intro W hSW; go_simp; try with_reducible rfl)
 try go_frame
 refine' RL.tv 14 ?hk24 ?_
 case hk24 => (intro W hSW; go_simp; try with_reducible rfl)
 try go_frame
 refine' RL.tv 15 ?hk25 ?_
 case hk25 => (intro W hSW; go_simp; try with_reducible rfl)
 try go_frame
 refine RL.done (by kernel_rfl) (fun Z hlZ hsZ => ?_)
 have HB := ϕ (HB.out.trans (Below.mono (show RL.Aft V2 Z from hsZ) HB.out.size))
 go_wp2_with fail
 go_ret
 exact ⟨rfl, HW.out ▸ HB.out⟩
open Go.Proofs.YtfpcelmekfdafaaDoor.Dg
theorem Cut08h (w : World) (s : ByteArray) (n : Nat) (hn : n ≤ 1000000) : Calls Tryd.prog 5 #[.string s, .int .i64 n] w fun e w' => e = .returned (.string (s.extract 0 n)) ∧ w = w' := by
 by_cases h : n < s.size
 · go_enter Tryd.func5, Tryd.ntmps5
   go_wp2
   go_ret
   exact ⟨by simp, rfl⟩
 · have e : s.extract 0 n = s := by
    apply ByteArray.ext
    simp
    omega
   have h' : ¬ (n : Int) < s.size := by omega
   go_enter Tryd.func5, Tryd.ntmps5
   go_wp2
   go_ret
   exact ⟨rfl, rfl⟩
theorem cut_bsh (w : World) (S : ByteArray) (n : Nat) (hn : n ≤ 1000000) (m : List UInt8) (hm : S.data.toList.take n = m) : Calls Tryd.prog 5 #[.string S, .int .i64 n] w fun e w' => e = .returned (.string (bs m)) ∧ w = w' := by
 have h := Cut08h w S n hn
 rw [← bs_of S, bs_extract, hm] at h
 rw [bs_of S] at h
 exact h
/-- the order's bytes -/
def ellL : List UInt8 := [237, 211, 245, 92, 26, 99, 18, 88, 214, 156, 247, 162, 222, 249, 222, 20, 0, 0, 0, 0, 0, 0, 0, 0, 0, 0, 0, 0, 0, 0, 0, 16]
theorem ell_b : Cv.bytesV ellL = (#[.int .u8 237, .int .u8 211, .int .u8 245, .int .u8 92, .int .u8 26, .int .u8 99, .int .u8 18, .int .u8 88, .int .u8 214, .int .u8 156, .int .u8 247, .int .u8 162, .int .u8 222, .int .u8 249, .int .u8 222, .int .u8 20, .int .u8 0, .int .u8 0, .int .u8 0, .int .u8 0, .int .u8 0, .int .u8 0, .int .u8 0, .int .u8 0, .int .u8 0, .int .u8 0, .int .u8 0, .int .u8 0, .int .u8 0, .int .u8 0, .int .u8 0, .int .u8 16] : Array Value) := by unfold Cv.bytesV ellL; rfl
theorem ell_n : leN ellL = Ed.L := by decide +kernel
theorem ell_len : ellL.length = 32 := by decide
theorem bytes5_P (w : World) (v : Value) (h1 : Ns w v (dig Ed.P)) : Calls Tryd.prog 9 #[v] w fun e w' => e = .returned (.string ⟨(toLe 32 Ed.P).toArray⟩) ∧ Below w.heap.size w w' := by
 have HX := ϕ h1
 have HPL := ϕ (show (dig Ed.P).length ≤ 10000 by decide +kernel)
 clear h1
 go_enter Tryd.func9, Tryd.ntmps9
 go_wp2_with (go_at_call 21; refine (Dg.Bytes_any w _ Ed.P 32 HX.out HPL.out (by decide)).mono ?_; rintro e w1x ⟨rfl, hb⟩; have HB := ϕ hb; clear hb)
 go_ret
 exact ⟨rfl, HB.out⟩
/-- one digit of a sum -/
theorem dig_add {S L P c x y t : Nat} (hP : 0 < P) (hc : c = (S % P + L % P) / P) (hx : S / P % 256 = x) (hy : L / P % 256 = y) (ht : c + (x + y) = t) :
 (S + L) / P % 256 = t % 256 ∧ t / 256 = (S % (P * 256) + L % (P * 256)) / (P * 256) := by
 have e1 : S % (P * 256) = S % P + P * x := by rw [Nat.mod_mul, hx]
 have e2 : L % (P * 256) = L % P + P * y := by rw [Nat.mod_mul, hy]
 obtain ⟨r, hr⟩ : ∃ r, (S % P + L % P) % P = r := ⟨_, rfl⟩
 have hr2 : r < P := by rw [← hr]; exact Nat.mod_lt _ hP
 have hs : S % P + L % P = P * c + r := by rw [hc, ← hr]; exact (Nat.div_add_mod _ _).symm
 constructor
 · have h1 : S + L = P * (S / P + L / P + c) + r := by
    have a1 := Nat.div_add_mod S P
    have a2 := Nat.div_add_mod L P
    rw [Nat.mul_add, Nat.mul_add]
    omega
   rw [h1, Nat.mul_add_div hP, Nat.div_eq_of_lt hr2, ← ht, ← hx, ← hy]
   omega
 · rw [e1, e2, ← Nat.div_div_eq_div_mul, show S % P + P * x + (L % P + P * y) = P * t + r from by rw [← ht, Nat.mul_add, Nat.mul_add]; omega, Nat.mul_add_div hP, Nat.div_eq_of_lt hr2, Nat.add_zero]
theorem car_le {S L P : Nat} (hP : 0 < P) : (S % P + L % P) / P < 2 := by
 have h1 := Nat.mod_lt S hP
 have h2 := Nat.mod_lt L hP
 exact Nat.div_lt_of_lt_mul (by omega)
theorem P_high (j : Nat) (hj : j < 16) : (toLe 32 Ed.P).set 0 (UInt8.ofNat (237 + j)) = toLe 32 (Ed.P + j) ∧ Ed.P ≤ leN (toLe 32 (Ed.P + j)) % 2 ^ 255 := by
 have h : ∀ j, j < 16 → ((toLe 32 Ed.P).set 0 (UInt8.ofNat (237 + j)) == toLe 32 (Ed.P + j) && decide (Ed.P ≤ leN (toLe 32 (Ed.P + j)) % 2 ^ 255)) = true := by decide +kernel
 have h1 := h j hj
 rw [Bool.and_eq_true, beq_iff_eq, decide_eq_true_iff] at h1
 exact h1
theorem P_0 : (toLe 32 Ed.P)[0]? = some 237 := by decide +kernel
theorem and15 (x : UInt8) : ∃ j : Nat, j < 16 ∧ bits .and .u8 (x.toNat : Int) 15 = (j : Int) := by
 have h : ∀ x : BitVec 8, ∃ j : Nat, j < 16 ∧ bits .and .u8 (x.toNat : Int) 15 = (j : Int) := fun x => ⟨x.toNat % 16, by omega, by
  have h2 : ∀ x : BitVec 8, bits .and .u8 (x.toNat : Int) 15 = ((x.toNat % 16 : Nat) : Int) := by decide +kernel
  exact h2 x⟩
 exact h x.toBitVec
theorem toLe_half {T : Nat} {g : List UInt8} (hg : g.length = 64) (h : ∀ j, j < 32 → g[32 + j]? = some (UInt8.ofNat (T / 256 ^ j % 256))) : g = g.take 32 ++ toLe 32 T := by
 have e : g.drop 32 = toLe 32 T := toLe_of (by rw [List.length_drop, hg]) (fun j hj => by rw [List.getElem?_drop]; exact h j hj)
 rw [← e, List.take_append_drop]
theorem law_SignHigh (w : World) (l : List UInt8) (hl : l.length = 32) (S : ByteArray) (hG : Sg w) : Calls Tryd.prog 3 #[.agg (Cv.bytesV l), .string S] w fun e w' => e = .returned (.bool true) ∧ Below w.heap.size w w' := by
 obtain ⟨m, hm⟩ : ∃ m, S.data.toList.take 40 = m := ⟨_, rfl⟩
 have hml : m.length ≤ 40 := by rw [← hm, List.length_take]; omega
 have HCT := ϕ (fun W => cut_bsh W S 40 (by decide) m hm)
 obtain ⟨ke, hke⟩ : ∃ k, pub l = k := ⟨_, rfl⟩
 obtain ⟨r, hr⟩ : ∃ k, enc (rP l m) = k := ⟨_, rfl⟩
 obtain ⟨s, hs⟩ : ∃ k, toLe 32 (sN l (pub l) m) = k := ⟨_, rfl⟩
 have hkl : ke.length = 32 := by rw [← hke]; exact pub_len _
 have hrl : r.length = 32 := by rw [← hr]; exact enc_len _
 have hsl : s.length = 32 := by rw [← hs, toLe_len]
 have hsN : sN l (pub l) m < Ed.L := Nat.mod_lt _ l_pos
 have hsn : leN s < Ed.L := by rw [← hs, leN_l hsN]; exact hsN
 have v1 := ver_sig l m
 have esg := sig_is l m
 rw [hr, hs] at esg
 rw [hr, hs, hke] at v1
 have CKE := ϕ (fun W (h : Sg W) => show Calls Tryd.prog 6 #[.agg (Cv.bytesV l)] W fun e w' => e = .returned (.agg (Cv.bytesV ke)) ∧ Below W.heap.size W w' from hke ▸ Key_any W l hl h.t)
 have CSI := ϕ (fun W (h : Sg W) => show Calls Tryd.prog 7 #[.agg (Cv.bytesV l), .string (bs m)] W fun e w' => e = .returned (.agg (Cv.bytesV (r ++ s))) ∧ Below W.heap.size W w' from by
  have h := Sign_any W l m hl (by omega) h.t h.o
  rw [esg] at h
  exact h)
 have CVE := ϕ (fun W (h : Sg W) => show Calls Tryd.prog 10 #[.agg (Cv.bytesV ke), .string (bs m), .agg (Cv.bytesV (r ++ s))] W fun e w' => e = .returned (.bool true) ∧ Below W.heap.size W w' from by
  have h := Verify_any W ke m r s hkl (by omega) hrl hsl h.t h.o
  rw [v1] at h
  exact h)
 have CVN := ϕ (fun W (h : Sg W) (gm : List UInt8) (hgm : gm.length = 64) (h2 : gm.take 32 = r) (h3 : ∀ j, j < 32 → gm[32 + j]? = some (UInt8.ofNat ((leN s + Ed.L) / 256 ^ j % 256))) => show Calls Tryd.prog 10 #[.agg (Cv.bytesV ke), .string (bs m), .agg (Cv.bytesV gm)] W fun e w' => e = .returned (.bool false) ∧ Below W.heap.size W w' from by
  have h := Verify_any W ke m r (toLe 32 (leN s + Ed.L)) hkl (by omega) hrl (toLe_len _ _) h.t h.o
  have e := toLe_half hgm h3
  rw [h2] at e
  have hb : leN (toLe 32 (leN s + Ed.L)) = leN s + Ed.L := by
   rw [leN_toLe]
   exact Nat.mod_eq_of_lt (Nat.lt_of_lt_of_le (show leN s + Ed.L < Ed.L + Ed.L by omega) (by decide +kernel))
  rw [ver_big (by rw [hb]; omega), ← e] at h
  exact h)
 obtain ⟨l0, hl0⟩ : ∃ x, l[0]? = some x := ⟨_, List.getElem?_eq_getElem (by omega)⟩
 obtain ⟨j0, hj0, ej0⟩ := and15 l0
 obtain ⟨hg, hhg⟩ : ∃ x, toLe 32 (Ed.P + j0) = x := ⟨_, rfl⟩
 have hp0 := P_high j0 hj0
 rw [hhg] at hp0
 have hgl : hg.length = 32 := by rw [← hhg, toLe_len]
 have CPO := ϕ (fun W => show Calls Tryd.prog 11 #[.agg (Cv.bytesV hg)] W fun e w' => e = .returned (.bool false) ∧ Below W.heap.size W w' from by
  have h := Point_any W hg hgl
  rw [dec_high hp0.2] at h
  exact h)
 obtain ⟨pb, hpb⟩ : ∃ x, toLe 32 Ed.P = x := ⟨_, rfl⟩
 have CPB := ϕ (fun W v (h : Ns W v (dig Ed.P)) => show Calls Tryd.prog 9 #[v] W fun e w' => e = .returned (.string ⟨pb.toArray⟩) ∧ Below W.heap.size W w' from hpb ▸ bytes5_P W v h)
 have HPL := ϕ (show pb.length = 32 from by rw [← hpb, toLe_len])
 have HPZ := ϕ (show (⟨pb.toArray⟩ : ByteArray).size = 32 from by show pb.toArray.size = 32; rw [List.size_toArray, ← hpb, toLe_len])
 have HP0 := ϕ (show pb[0]? = some 237 from hpb ▸ P_0)
 have HL0 := ϕ hl0
 obtain ⟨z0, hz0⟩ : ∃ z : UInt8, UInt8.ofNat (237 + j0) = z := ⟨_, rfl⟩
 have HZ0 := ϕ (show (z0.toNat : Int) = 237 + (j0 : Int) from by rw [← hz0, UInt8.toNat_ofNat']; omega)
 have HHG := ϕ (show pb.set 0 z0 = hg from by rw [← hpb, ← hz0]; exact hp0.1)
 have HJ0 := ϕ (show bits .and .u8 (l0.toNat : Int) 15 = (j0 : Int) ∧ (0 : Int) ≤ j0 ∧ (j0 : Int) < 16 from ⟨ej0, by omega, by omega⟩)
 have HGH := ϕ hgl
 have HKL := ϕ hkl
 have HL := ϕ hl
 have HRL := ϕ hrl
 have HSL := ϕ hsl
 have HGL := ϕ (show (r ++ s).length = 64 from by rw [List.length_append]; omega)
 have HEL := ϕ ell_len
 have HG := ϕ hG
 clear hm hml hG hke hkl hl hr hs hrl hsl v1 esg hsn hsN hl0 hj0 ej0 hhg hp0 hgl hpb hz0
 go_enter Tryd.func3, Tryd.ntmps3
 go_upto_region 1 with ((with_reducible refine gate_ ?_); refine Rg.box_fresh rfl 22 _ rfl (Cv.bytesV l) rfl ?_; intro X hX hbX hnX; have HX := ϕ hX; have HBX := ϕ hbX; clear hX hbX hnX)
 obtain ⟨sb, hsb⟩ : ∃ n, w.heap.size = n := ⟨_, rfl⟩
 have Hsb := ϕ (show Rg.Blk X sb 22 (Cv.bytesV l) from hsb ▸ HX.out)
 have HB := ϕ (show Below w.heap.size w X from HBX.out)
 have HG := ϕ (HG.out.below HBX.out)
 have HW := ϕ hsb
 try rw [hsb]
 clear HX HBX hsb
 go_upto_region 3 with (go_at_call 4; refine (awake08 _ HG.out).mono ?_; rintro e w1 ⟨rfl, hb1⟩; have Hsb := ϕ (Hsb.out.below hb1 Hsb.out.lt); have HG := ϕ (HG.out.below hb1); have HB := tm HB hb1; clear hb1)
 go_upto_region 5 with (first
  | (go_at_call 5; refine (HCT.out _).mono ?_; rintro e w1b ⟨rfl, rfl⟩; skip)
  | ((with_reducible refine gate_ ?_); refine Cv.load_cells rfl 22 _ rfl sb 0 rfl (Cv.bytesV l) _ (fun j v hv => by rw [Nat.zero_add]; exact Rg.Blk.cell Hsb.out j hv) Tryd.underlying22 rfl (by rw [Cv.bytesV_size, HL.out]; kernel_rfl) ?_)
  | (go_at_call 6; refine (CKE.out _ HG.out).mono ?_; rintro e w2 ⟨rfl, hb1⟩; have Hsb := ϕ (Hsb.out.below hb1 Hsb.out.lt); have HG := ϕ (HG.out.below hb1); have HB := tm HB hb1; clear hb1)
  | (refine Rg.store_fresh rfl 22 _ _ rfl (Cv.bytesV ke) _ 22 rfl rfl (by rw [Cv.bytesV_size, HKL.out]; kernel_rfl) (by rw [Cv.bytesV_size, HKL.out]; rfl) (Cv.bytesV_one _) ?_; intro V2 hX hbX; have Hkb := ϕ hX; have Hsb := ϕ (Hsb.out.below hbX Hsb.out.lt); have HG := ϕ (HG.out.below hbX); have HB := tm HB hbX; clear hX hbX))
 obtain ⟨kb, hkb⟩ : ∃ n, w2.heap.size = n := ⟨_, rfl⟩
 have Hkb := ϕ (show Rg.Blk V2 kb 22 (Cv.bytesV ke) from hkb ▸ Hkb.out)
 try rw [hkb]
 clear hkb
 go_upto_region 6 with (first
  | ((with_reducible refine gate_ ?_); refine Cv.load_cells rfl 22 _ rfl sb 0 rfl (Cv.bytesV l) _ (fun j v hv => by rw [Nat.zero_add]; exact Rg.Blk.cell Hsb.out j hv) Tryd.underlying22 rfl (by rw [Cv.bytesV_size, HL.out]; kernel_rfl) ?_)
  | (go_at_call 7; refine (CSI.out _ HG.out).mono ?_; rintro e w3 ⟨rfl, hb1⟩; have Hsb := ϕ (Hsb.out.below hb1 Hsb.out.lt); have Hkb := ϕ (Hkb.out.below hb1 Hkb.out.lt); have HG := ϕ (HG.out.below hb1); have HB := tm HB hb1; clear hb1)
  | (refine Rg.store_fresh rfl 26 _ _ rfl (Cv.bytesV (r ++ s)) _ 26 rfl rfl (by rw [Cv.bytesV_size, HGL.out]; kernel_rfl) (by rw [Cv.bytesV_size, HGL.out]; rfl) (Cv.bytesV_one _) ?_; intro V3 hX hbX; have Hgb := ϕ hX; have Hsb := ϕ (Hsb.out.below hbX Hsb.out.lt); have Hkb := ϕ (Hkb.out.below hbX Hkb.out.lt); have HG := ϕ (HG.out.below hbX); have HB := tm HB hbX; clear hX hbX))
 obtain ⟨gb, hgb⟩ : ∃ n, w3.heap.size = n := ⟨_, rfl⟩
 have Hgb := ϕ (show Rg.Blk V3 gb 26 (Cv.bytesV (r ++ s)) from hgb ▸ Hgb.out)
 try rw [hgb]
 clear hgb
 go_upto_region 7 with fail
 obtain ⟨lb, hlb⟩ : ∃ n, V3.heap.size = n := ⟨_, rfl⟩
 obtain ⟨V4, hV4⟩ : ∃ Z, V3.alloc (.cells #[.int .u8 237, .int .u8 211, .int .u8 245, .int .u8 92, .int .u8 26, .int .u8 99, .int .u8 18, .int .u8 88, .int .u8 214, .int .u8 156, .int .u8 247, .int .u8 162, .int .u8 222, .int .u8 249, .int .u8 222, .int .u8 20, .int .u8 0, .int .u8 0, .int .u8 0, .int .u8 0, .int .u8 0, .int .u8 0, .int .u8 0, .int .u8 0, .int .u8 0, .int .u8 0, .int .u8 0, .int .u8 0, .int .u8 0, .int .u8 0, .int .u8 0, .int .u8 16] 5) = Z := ⟨_, rfl⟩
 have Hlb := ϕ (show Rg.Blk V4 lb 5 (Cv.bytesV ellL) from by rw [ell_b, ← hV4]; exact Rg.Blk.newAt hlb.symm _ _)
 have hba : Below V3.heap.size V3 V4 := by rw [← hV4]; exact (Below.refl _ _).alloc (Nat.le_refl _) _
 have Hsb := ϕ (Hsb.out.below hba Hsb.out.lt); have Hkb := ϕ (Hkb.out.below hba Hkb.out.lt); have Hgb := ϕ (Hgb.out.below hba Hgb.out.lt); have HG := ϕ (HG.out.below hba); have HB := tm HB hba;
 rw [hV4]
 try rw [hlb]
 clear hV4 hlb hba
 go_upto_region 10 with (first
  | ((with_reducible refine gate_ ?_); refine Cv.load_cells rfl 26 _ rfl gb 0 rfl (Cv.bytesV (r ++ s)) _ (fun j v hv => by rw [Nat.zero_add]; exact Hgb.out.cell j hv) Tryd.underlying26 rfl (by rw [Cv.bytesV_size, HGL.out]; kernel_rfl) ?_)
  | (refine Rg.store_fresh rfl 26 _ _ rfl (Cv.bytesV (r ++ s)) _ 26 rfl rfl (by rw [Cv.bytesV_size, HGL.out]; kernel_rfl) (by rw [Cv.bytesV_size, HGL.out]; rfl) (Cv.bytesV_one _) ?_; intro V5 hX hbX; have Hmb := ϕ hX; have HGM := ϕ (show w.heap.size ≤ V4.heap.size ∧ gb < V4.heap.size ∧ lb < V4.heap.size ∧ sb < V4.heap.size ∧ kb < V4.heap.size ∧ 3 ≤ V4.heap.size ∧ 0 < V4.heap.size from ⟨HB.out.size, Hgb.out.lt, Hlb.out.lt, Hsb.out.lt, Hkb.out.lt, HG.out.t.size, HG.out.o.size⟩); have Hsb := ϕ (Hsb.out.below hbX Hsb.out.lt); have Hkb := ϕ (Hkb.out.below hbX Hkb.out.lt); have Hgb := ϕ (Hgb.out.below hbX Hgb.out.lt); have Hlb := ϕ (Hlb.out.below hbX Hlb.out.lt); have HG := ϕ (HG.out.below hbX); have HB := tm HB hbX; clear hX hbX))
 obtain ⟨mb, hmb⟩ : ∃ n, V4.heap.size = n := ⟨_, rfl⟩
 have Hmb := ϕ (show Rg.Blk V5 mb 26 (Cv.bytesV (r ++ s)) from hmb ▸ Hmb.out)
 have HGM := ϕ (show w.heap.size ≤ mb ∧ gb < mb ∧ lb < mb ∧ sb < mb ∧ kb < mb ∧ 3 ≤ mb ∧ 0 < mb from hmb ▸ HGM.out)
 try rw [hmb]
 clear hmb
 go_loopw [9, 27] (fun cy i wr => ∃ (k c0 : Nat) (gm : List UInt8), k ≤ 32 ∧ cy = .int .i64 c0 ∧ i = .int .i64 k ∧ c0 = (leN s % 256 ^ k + Ed.L % 256 ^ k) / 256 ^ k ∧ gm.length = 64 ∧ gm.take 32 = r ∧ (∀ j, j < k → gm[32 + j]? = some (UInt8.ofNat ((leN s + Ed.L) / 256 ^ j % 256))) ∧ Rg.Blk wr mb 26 (Cv.bytesV gm) ∧ Rg.Blk wr gb 26 (Cv.bytesV (r ++ s)) ∧ Rg.Blk wr lb 5 (Cv.bytesV ellL) ∧ Rg.Blk wr sb 22 (Cv.bytesV l) ∧ Rg.Blk wr kb 22 (Cv.bytesV ke) ∧ Sg wr ∧ Below w.heap.size w wr) (fun _ i _ => 32 - (intOf i).toNat)
 case atStart => exact ⟨0, 0, r ++ s, by decide, rfl, rfl, by rw [Nat.pow_zero, Nat.mod_one, Nat.mod_one], HGL.out, by rw [List.take_append_of_le_length (by rw [HRL.out]; decide), List.take_of_length_le (by rw [HRL.out]; decide)], fun j h => absurd h (by omega), Hmb.out, Hgb.out, Hlb.out, Hsb.out, Hkb.out, HG.out, HB.out⟩
 case round =>
  obtain ⟨k, c0, gm, hk, rfl, rfl, hc0, hgm, htk, hby, hmb, hgb, hlb, hsb, hkb, hg0, hb⟩ := hrel
  clear Hmb Hgb Hlb Hsb Hkb HG HB
  have HC0 := ϕ hc0
  have HGM6 := ϕ hgm
  have HTK := ϕ htk
  have HBY := ϕ hby
  have Hmb := ϕ hmb
  have Hgb := ϕ hgb
  have Hlb := ϕ hlb
  have Hsb := ϕ hsb
  have Hkb := ϕ hkb
  have HG := ϕ hg0
  have HB := ϕ hb
  clear hc0 hgm htk hby hmb hgb hlb hsb hkb hg0 hb
  by_cases hk5 : k < 32
  · have hki : (k : Int) < 32 := by omega
    have hk0 : (0 : Int) ≤ k := by omega
    have hd : decide ((k : Int) < 32) = true := by simp; exact hki
    obtain ⟨x, hx⟩ : ∃ x, s[k]? = some x := ⟨_, List.getElem?_eq_getElem (by rw [HSL.out]; exact hk5)⟩
    obtain ⟨y, hy⟩ : ∃ y, ellL[k]? = some y := ⟨_, List.getElem?_eq_getElem (by rw [HEL.out]; exact hk5)⟩
    have hxs : leN s / 256 ^ k % 256 = x.toNat := by
     obtain ⟨h1, h2⟩ := List.getElem?_eq_some_iff.1 hx
     rw [leN_byte s k h1, h2]
    have hys : Ed.L / 256 ^ k % 256 = y.toNat := by
     obtain ⟨h1, h2⟩ := List.getElem?_eq_some_iff.1 hy
     rw [← ell_n, leN_byte ellL k h1, h2]
    obtain ⟨p, hp⟩ : ∃ p, 32 + k = p := ⟨_, rfl⟩
    have cx := Hgb.out.cell p (Cv.bytesV_get _ _ _ (show (r ++ s)[p]? = some x from by rw [List.getElem?_append_right (by rw [HRL.out]; omega), HRL.out, show p - 32 = k by omega]; exact hx))
    have cy := Hlb.out.cell k (Cv.bytesV_get _ _ _ hy)
    obtain ⟨xn, hxn⟩ : ∃ n, x.toNat = n := ⟨_, rfl⟩
    obtain ⟨yn, hyn⟩ : ∃ n, y.toNat = n := ⟨_, rfl⟩
    have hx256 : xn < 256 := hxn ▸ x.toNat_lt
    have hy256 : yn < 256 := hyn ▸ y.toNat_lt
    rw [hxn] at cx hxs
    rw [hyn] at cy hys
    have hc2 : c0 < 2 := by rw [HC0.out]; exact car_le (Nat.pow_pos (by decide))
    obtain ⟨t, ht⟩ : ∃ t, c0 + (xn + yn) = t := ⟨_, rfl⟩
    have hda := dig_add (Nat.pow_pos (n := k) (show 0 < 256 by decide)) HC0.out hxs hys ht
    obtain ⟨c1, hc1⟩ : ∃ c, t / 256 = c := ⟨_, rfl⟩
    obtain ⟨v, hv⟩ : ∃ v : UInt8, UInt8.ofNat (t % 256) = v := ⟨_, rfl⟩
    have hvn : v.toNat = t % 256 := by rw [← hv, UInt8.toNat_ofNat']; omega
    have ep : (32 : Int) + (k : Int) = (p : Int) := by omega
    have ep2 : IntKind.i64.wrap ((32 : Int) + (k : Int)) = (p : Int) := by rw [ep]; exact wrapI (by omega)
    have hp64 : (p : Int) < 64 := by omega
    have hp0 : (0 : Int) ≤ p := by omega
    have exy : (xn : Int) + (yn : Int) = ((xn + yn : Nat) : Int) := by omega
    obtain ⟨q, hq⟩ : ∃ q, xn + yn = q := ⟨_, rfl⟩
    rw [hq] at exy ht
    have hq512 : (q : Int) < 512 := by omega
    have hq0 : (0 : Int) ≤ q := by omega
    have et : (c0 : Int) + (q : Int) = (t : Int) := by omega
    have ht9 : (t : Int) < 1000 := by omega
    have ht0 : (0 : Int) ≤ t := by omega
    have wx : IntKind.i64.wrap (xn : Int) = (xn : Int) := wrapI (by omega)
    have wy : IntKind.i64.wrap (yn : Int) = (yn : Int) := wrapI (by omega)
    have wq : IntKind.i64.wrap ((xn : Int) + (yn : Int)) = (q : Int) := by rw [exy]; exact wrapI (by omega)
    have wt : IntKind.i64.wrap ((c0 : Int) + (q : Int)) = (t : Int) := by rw [et]; exact wrapI (by omega)
    have ev : IntKind.u8.wrap (t : Int) = (v.toNat : Int) := by rw [hvn]; simp [IntKind.wrap, IntKind.bits, IntKind.signed]
    have ev2 : (t : Int) % 256 = (v.toNat : Int) := by rw [hvn]; omega
    have ec : (t : Int) / 256 = (c1 : Int) := by omega
    have HNB := ϕ (show UInt8.ofNat ((leN s + Ed.L) / 256 ^ k % 256) = v from by rw [hda.1, hv])
    have HNC := ϕ (show c1 = (leN s % 256 ^ (k + 1) + Ed.L % 256 ^ (k + 1)) / 256 ^ (k + 1) from by rw [Nat.pow_succ, ← hda.2, hc1])
    have HPK := ϕ hp
    have HP64 := ϕ (show p < 64 from by omega)
    clear hx hy hxs hys hp hxn hyn hda hc1 hv hvn hq ht exy et ep hc2 hx256 hy256
    go_upto_region 14 with ((with_reducible refine gate_ ?_); refine Cv.store_byte rfl 5 _ _ rfl (b := mb) (j := p) (l := gm) (v := v) rfl (by first | rfl | (simp [ev, ev2]; done)) Tryd.underlying5 (by kernel_rfl) Hmb.out (by rw [HGM6.out]; exact HP64.out) ?_; intro V hV hgV; have hu := Sp.Upd.of_grown1 hgV; have Hmb2 := ϕ hV; have Hgb2 := ϕ (blk_other Hgb.out hgV (by have := HGM.out; omega)); have Hlb2 := ϕ (blk_other Hlb.out hgV (by have := HGM.out; omega)); have Hsb2 := ϕ (blk_other Hsb.out hgV (by have := HGM.out; omega)); have Hkb2 := ϕ (blk_other Hkb.out hgV (by have := HGM.out; omega)); have HG2 := ϕ (show Sg V from ⟨tab_upd HG.out.t hu (by simp; exact HGM.out.2.2.2.2.2.1), ord_upd HG.out.o hu HGM.out.2.2.2.2.2.2⟩); have HB2 := ϕ (HB.out.grown hgV HB.out.size (fun j e => by cases e; exact HGM.out.1)); clear hV hgV hu)
    clear hd
    go_wp2_with fail
    go_roundw
    case rel =>
     have REL := ϕ (show ∃ (k' c0 : Nat) (gm : List UInt8), k' ≤ 32 ∧ Value.int .i64 (c1 : Nat) = .int .i64 c0 ∧ Value.int .i64 ((k : Int) + 1) = .int .i64 k' ∧ c0 = (leN s % 256 ^ k' + Ed.L % 256 ^ k') / 256 ^ k' ∧ gm.length = 64 ∧ gm.take 32 = r ∧ (∀ j, j < k' → gm[32 + j]? = some (UInt8.ofNat ((leN s + Ed.L) / 256 ^ j % 256))) ∧ Rg.Blk V mb 26 (Cv.bytesV gm) ∧ Rg.Blk V gb 26 (Cv.bytesV (r ++ s)) ∧ Rg.Blk V lb 5 (Cv.bytesV ellL) ∧ Rg.Blk V sb 22 (Cv.bytesV l) ∧ Rg.Blk V kb 22 (Cv.bytesV ke) ∧ Sg V ∧ Below w.heap.size w V from
      ⟨k + 1, c1, gm.set p v, hk5, rfl, rfl, HNC.out, by rw [List.length_set]; exact HGM6.out, by rw [List.take_set_of_le (by have := HPK.out; omega)]; exact HTK.out, fun j hj => by
       by_cases e : j = k
       · subst e; rw [HPK.out, List.getElem?_set_self (by rw [HGM6.out]; exact HP64.out), HNB.out]
       · rw [List.getElem?_set_ne (by have := HPK.out; omega)]; exact HBY.out j (by omega), Hmb2.out, Hgb2.out, Hlb2.out, Hsb2.out, Hkb2.out, HG2.out, HB2.out⟩)
     first
      | exact REL.out
      | ((repeat apply Exists.intro); refine ⟨?_, rfl⟩; exact REL.out)
    case measure => (first | (simp [intOf]; done) | (simp [intOf]; omega))
  · obtain rfl : k = 32 := by omega
    have hd : decide (((32 : Nat) : Int) < 32) = false := by simp
    have CVN2 := ϕ (fun W (h : Sg W) => CVN.out W h gm HGM6.out HTK.out HBY.out)
    clear HC0 HTK HBY CVN
    go_upto_region 18 with (first
     | (go_at_call 8; refine (P_any _).mono ?_; rintro e w5 ⟨⟨vp, rfl, hvp⟩, hb1⟩; have HVP := ϕ hvp; have Hmb := ϕ (Hmb.out.below hb1 Hmb.out.lt); have Hgb := ϕ (Hgb.out.below hb1 Hgb.out.lt); have Hsb := ϕ (Hsb.out.below hb1 Hsb.out.lt); have Hkb := ϕ (Hkb.out.below hb1 Hkb.out.lt); have HG := ϕ (HG.out.below hb1); have HB := tm HB hb1; clear hb1 hvp)
     | (go_at_call 9; refine (CPB.out _ vp HVP.out).mono ?_; rintro e w6 ⟨rfl, hb1⟩; have Hmb := ϕ (Hmb.out.below hb1 Hmb.out.lt); have Hgb := ϕ (Hgb.out.below hb1 Hgb.out.lt); have Hsb := ϕ (Hsb.out.below hb1 Hsb.out.lt); have Hkb := ϕ (Hkb.out.below hb1 Hkb.out.lt); have HG := ϕ (HG.out.below hb1); have HB := tm HB hb1; clear hb1)
     | (refine Cv.conv_bytes rfl 9 28 5 _ rfl rfl Tryd.underlying9 Tryd.underlying28 Tryd.underlying5 ?_; intro X9 cap hby hfz hbx hsz hcap; have HBY9 := ϕ (show Cv.Bytes X9 w6.heap.size 0 pb from hby); have Hmb := ϕ (Hmb.out.below hbx Hmb.out.lt); have Hgb := ϕ (Hgb.out.below hbx Hgb.out.lt); have Hsb := ϕ (Hsb.out.below hbx Hsb.out.lt); have Hkb := ϕ (Hkb.out.below hbx Hkb.out.lt); have HG := ϕ (HG.out.below hbx); have HB := tm HB hbx; clear hby hfz hbx hsz hcap)
     | ((with_reducible refine gate_ ?_); refine Cv.slice_to_array rfl 22 5 32 _ rfl _ _ _ _ rfl Tryd.underlying22 (by rw [HPZ.out]; decide) ?_; skip)
     | ((with_reducible refine gate_ ?_); refine Cv.load_cells rfl 22 _ rfl w6.heap.size 0 rfl (Cv.bytesV pb) _ (Cv.Bytes.cells HBY9.out) Tryd.underlying22 rfl (by rw [Cv.bytesV_size, HPL.out]; kernel_rfl) ?_)
     | (refine Rg.store_fresh rfl 22 _ _ rfl (Cv.bytesV pb) _ 22 rfl rfl (by rw [Cv.bytesV_size, HPL.out]; kernel_rfl) (by rw [Cv.bytesV_size, HPL.out]; rfl) (Cv.bytesV_one _) ?_; intro V6 hX hbX; have Hhb := ϕ hX; have HGN := ϕ (show w.heap.size ≤ X9.heap.size ∧ mb < X9.heap.size ∧ gb < X9.heap.size ∧ sb < X9.heap.size ∧ kb < X9.heap.size ∧ 3 ≤ X9.heap.size ∧ 0 < X9.heap.size from ⟨HB.out.size, Hmb.out.lt, Hgb.out.lt, Hsb.out.lt, Hkb.out.lt, HG.out.t.size, HG.out.o.size⟩); have Hmb := ϕ (Hmb.out.below hbX Hmb.out.lt); have Hgb := ϕ (Hgb.out.below hbX Hgb.out.lt); have Hsb := ϕ (Hsb.out.below hbX Hsb.out.lt); have Hkb := ϕ (Hkb.out.below hbX Hkb.out.lt); have HG := ϕ (HG.out.below hbX); have HB := tm HB hbX; clear hX hbX))
    clear hd
    obtain ⟨hb, hhb⟩ : ∃ n, X9.heap.size = n := ⟨_, rfl⟩
    have Hhb := ϕ (show Rg.Blk V6 hb 22 (Cv.bytesV pb) from hhb ▸ Hhb.out)
    have HGN := ϕ (show w.heap.size ≤ hb ∧ mb < hb ∧ gb < hb ∧ sb < hb ∧ kb < hb ∧ 3 ≤ hb ∧ 0 < hb from hhb ▸ HGN.out)
    try rw [hhb]
    clear hhb
    have c0h : V6.cell? ⟨hb, 0, none⟩ = some (.int .u8 237) := Hhb.out.cell 0 (Cv.bytesV_get _ _ _ HP0.out)
    have c0s := Hsb.out.cell 0 (Cv.bytesV_get _ _ _ HL0.out)
    have ej := HJ0.out.1
    have ej1 := HJ0.out.2.1
    have ej2 := HJ0.out.2.2
    have ez := HZ0.out
    have ez2 : IntKind.u8.wrap (237 + (j0 : Int)) = (z0.toNat : Int) := by rw [ez]; simp [IntKind.wrap, IntKind.bits, IntKind.signed]; omega
    go_upto_region 19 with ((with_reducible refine gate_ ?_); refine Cv.store_byte rfl 5 _ _ rfl (b := hb) (j := 0) (l := pb) (v := z0) rfl (by first | exact congrArg (Value.int .u8) ez.symm | rfl | (simp [ez2]; done)) Tryd.underlying5 (by kernel_rfl) Hhb.out (by rw [HPL.out]; decide) ?_; intro V7 hV hgV; have hu := Sp.Upd.of_grown1 hgV; have Hhb := ϕ (show Rg.Blk V7 hb 22 (Cv.bytesV hg) from HHG.out ▸ hV); have Hmb := ϕ (blk_other Hmb.out hgV (by have := HGN.out; omega)); have Hgb := ϕ (blk_other Hgb.out hgV (by have := HGN.out; omega)); have Hkb := ϕ (blk_other Hkb.out hgV (by have := HGN.out; omega)); have HG := ϕ (show Sg V7 from ⟨tab_upd HG.out.t hu (by simp; exact HGN.out.2.2.2.2.2.1), ord_upd HG.out.o hu HGN.out.2.2.2.2.2.2⟩); have HB := ϕ (HB.out.grown hgV HB.out.size (fun j e => by cases e; exact HGN.out.1)); clear hV hgV hu)
    clear c0h c0s ej ej1 ej2 ez ez2
    have tk0 := True.intro
    go_wp2_with (first
     | (have _t := tk0; ((with_reducible refine gate_ ?_); refine Cv.load_cells rfl 22 _ rfl kb 0 rfl (Cv.bytesV ke) _ (fun j v hv => by rw [Nat.zero_add]; exact Rg.Blk.cell Hkb.out j hv) Tryd.underlying22 rfl (by rw [Cv.bytesV_size, HKL.out]; kernel_rfl) ?_); skip)
     | (have _t := tk0; ((with_reducible refine gate_ ?_); refine Cv.load_cells rfl 26 _ rfl mb 0 rfl (Cv.bytesV gm) _ (fun j v hv => by rw [Nat.zero_add]; exact Hmb.out.cell j hv) Tryd.underlying26 rfl (by rw [Cv.bytesV_size, HGM6.out]; kernel_rfl) ?_); skip)
     | (have _t := tk0; go_at_call 10; refine (CVN2.out _ HG.out).mono ?_; rintro e w8 ⟨rfl, hb1⟩; have Hgb := ϕ (Hgb.out.below hb1 Hgb.out.lt); have Hkb := ϕ (Hkb.out.below hb1 Hkb.out.lt); have Hhb := ϕ (Hhb.out.below hb1 Hhb.out.lt); have HG := ϕ (HG.out.below hb1); have HB := tm HB hb1; clear hb1 _t tk0; have tk1 := True.intro)
     | (have _t := tk1; refine load_blk_g (by rfl) 22 _ rfl kb (Cv.bytesV ke) 22 rfl Hkb.out Tryd.underlying22 rfl (by rw [Cv.bytesV_size, HKL.out]; kernel_rfl) ?_; skip)
     | (have _t := tk1; refine load_blk_g (by rfl) 26 _ rfl gb (Cv.bytesV (r ++ s)) 26 rfl Hgb.out Tryd.underlying26 rfl (by rw [Cv.bytesV_size, HGL.out]; kernel_rfl) ?_; skip)
     | (have _t := tk1; go_at_call 10; refine (CVE.out _ HG.out).mono ?_; rintro e w9 ⟨rfl, hb1⟩; have Hhb := ϕ (Hhb.out.below hb1 Hhb.out.lt); have HB := tm HB hb1; clear hb1 _t tk1; have tk2 := True.intro)
     | (have _t := tk2; refine load_blk_g (by rfl) 22 _ rfl hb (Cv.bytesV hg) 22 rfl Hhb.out Tryd.underlying22 rfl (by rw [Cv.bytesV_size, HGH.out]; kernel_rfl) ?_; skip)
     | (have _t := tk2; go_at_call 11; refine (CPO.out _).mono ?_; rintro e w10 ⟨rfl, hb1⟩; have HB := tm HB hb1; clear hb1))
    go_ret
    exact ⟨rfl, HW.out ▸ HB.out⟩
theorem law_SignHighB (w : World) (l : List UInt8) (hl : l.length = 32) (S : ByteArray) (hT : Sha.Tables w) (hO : Ord w) : Calls Tryd.prog 3 #[.agg (Ow.bv l).toArray, .string S] w fun e w' => e = .returned (.bool true) ∧ Below w.heap.size w w' := by
 have h := law_SignHigh w l hl S ⟨hT, hO⟩
 unfold Cv.bytesV at h
 exact h
end Go.Proofs.YtfpcelmekfdafaaDoor.Kx
namespace Go.Proofs.YtfpcelmekfdafaaDoor.Og
open Go.RowKit Go.ChangeShapes Go.WideShapes Go.Joins Go.Deep Go.Proofs.YtfpcelmekfdafaaDoor.Ow
variable {H : Type} {enc : TypeId × Value → H} {P : Program} {W : World}
/-- an array whose elements have one cell each -/
theorem open_arr {r : Reach} {b0 : Nat} {t e : TypeId} {n : Nat} {v : Value} {d : DataW H} {p : List MemPlace} (ht : P.underlying t = some (.array n e)) (hc : P.cellsOf e = 1) (hC : P.cellsOf t = n)
 (hv : Value.okWide P W r b0 t v) (h : DataW.Trod enc P W 0 (fun _ => true) true t v d p) : ∃ xs : List Value, v = .agg xs.toArray ∧ xs.length = n ∧ ∀ x ∈ xs, Reads enc P W e x := by
 simp only [Value.okWide, ht] at hv
 obtain ⟨cs, rfl, hsz, _⟩ := hv
 obtain ⟨fuel, hf⟩ := h
 obtain ⟨xs, m, _, _, _, hlen, hg⟩ := DataW.trod_array ht hf
 have hcl : cs.size = n := hsz.trans hC
 refine ⟨cs.toList, by simp, by simpa using hcl, fun x hx => ?_⟩
 obtain ⟨i, hi⟩ := List.mem_iff_getElem?.1 hx
 have hin : i < n := by
  have := (List.getElem?_eq_some_iff.1 hi).1
  simp at this; omega
 have h1 := hg i hin
 rw [hc, Nat.mul_one] at h1
 have e1 : ((Value.agg cs).cells.toList.drop i).take 1 = [x] := by
  have e0 : (Value.agg cs).cells.toList = cs.toList := by simp [Value.cells]
  rw [e0, List.drop_eq_getElem_cons (by simpa using (show i < cs.size by omega))]
  rw [List.getElem?_eq_getElem (by simpa using (show i < cs.size by omega))] at hi
  injection hi with hi
  rw [hi]; rfl
 rw [e1, List.getElem?_eq_getElem (by omega)] at h1
 exact ⟨m, _, h1⟩
theorem open_bytes {r : Reach} {b0 : Nat} {t e : TypeId} {n : Nat} {v : Value} {d : DataW H} {p : List MemPlace} (ht : P.underlying t = some (.array n e)) (he : P.underlying e = some (.int .u8)) (hc : P.cellsOf e = 1) (hC : P.cellsOf t = n)
 (hv : Value.okWide P W r b0 t v) (h : DataW.Trod enc P W 0 (fun _ => true) true t v d p) : ∃ l : List UInt8, v = .agg (bv l).toArray ∧ l.length = n := by
 obtain ⟨xs, rfl, hl, hx⟩ := open_arr ht hc hC hv h
 obtain ⟨l, rfl, _⟩ := map_of (f := fun (x : UInt8) => Value.int .u8 (x.toNat : Int)) (p := fun _ => True) (xs := xs) (fun x h => by
  obtain ⟨n, rfl, hw⟩ := open_int1 he (hx x h)
  have hb := bounds_u8 hw
  refine ⟨UInt8.ofNat n.toNat, ?_, trivial⟩
  have : (UInt8.ofNat n.toNat).toNat = n.toNat := by rw [UInt8.toNat_ofNat']; omega
  rw [this, Int.toNat_of_nonneg (by omega)])
 exact ⟨l, rfl, by simpa using hl⟩
end Go.Proofs.YtfpcelmekfdafaaDoor.Og
