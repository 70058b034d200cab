/- PeM, DgA, DgB, DgC, DgD, DgE, ShaA, DgF, DgG, DgH, DgI, DgJ, RfA, RfB, RfC, RfD, RfE: what the claims need of them. -/
import Derived.Lib.Join
import Derived.Test.YtfpcelmekfdafaaGreatDoorRows
import Derived.OwnWalk
import Derived.WalkKit
import Derived.Lib.UnsafeStr
import Derived.Lib.Hide
import Derived.Deep.QuietTactic
import Derived.BigQuiet
import Derived.Deep.DeepCutAuto
import Derived.Lib.SlBytesConst
import Derived.Test.YtfpcelmekfdafaaGreatDoorVaC
set_option linter.unusedVariables false
set_option linter.unusedSimpArgs false
set_option maxRecDepth 20000
set_option maxHeartbeats 16000000
namespace Go.Proofs.YtfpcelmekfdafaaGreatDoor.Kx
open Go.RowKit Go.Proofs.YtfpcelmekfdafaaGreatDoor.Cl Go.Proofs.YtfpcelmekfdafaaGreatDoor.Ed
theorem and128 (x : UInt8) : bits .and .u8 (x.toNat : Int) 128 = ((x &&& 128).toNat : Int) := by
 have h := u8_and_nat x.toNat 128 x.toNat_lt (by decide)
 rw [show ((128 : Nat) : Int) = 128 from rfl] at h
 rw [h, UInt8.toNat_and]; rfl
theorem and128_hi {x : UInt8} (h : 128 ≤ x.toNat) : (x &&& 128).toNat = 128 := by
 have : ∀ x : BitVec 8, 128 ≤ x.toNat → (x &&& 128).toNat = 128 := by decide +kernel
 exact this x.toBitVec h
theorem and128_lo {x : UInt8} (h : ¬ 128 ≤ x.toNat) : (x &&& 128).toNat = 0 := by
 have : ∀ x : BitVec 8, ¬ 128 ≤ x.toNat → (x &&& 128).toNat = 0 := by decide +kernel
 exact this x.toBitVec h
theorem sgn_hi {l : List UInt8} {q : F} (h : 128 ≤ (l.getD 31 0).toNat) : sgn l q = 0 - q := by unfold sgn; rw [if_pos h]
theorem sgn_lo {l : List UInt8} {q : F} (h : ¬ 128 ≤ (l.getD 31 0).toNat) : sgn l q = q := by unfold sgn; rw [if_neg h]
theorem read_q {cd ct c1 c2 c3 c4 : E} (hd : El cd dE) (l : List UInt8) (hl : l.length = 32) : ∃ (R : E4) (ok : Bool), ((ok = true ∧ ∃ p, dec l = some p ∧ Rq4 p R) ∨ (ok = false ∧ dec l = none)) ∧
 ∀ (cb : Nat) (W : World), Rg.Blk W cb 57 (u64s (els [cd, ct, c1, c2, c3, c4])) → Calls Tryz.prog 27 #[.pointer (some ⟨cb, 0, none⟩), .agg (Cv.bytesV l)] W fun e w' => e = .returned (.tuple #[.agg (u64s (els [R.x, R.y, R.z, R.t])), .bool ok]) ∧ Below W.heap.size W w' := by
 have HL := ϕ hl
 have Ecd := ϕ hd
 clear hl hd
 obtain ⟨v12, e12, c12⟩ := of_e ⟨l.toArray⟩ (by show l.toArray.size = 32; rw [List.size_toArray]; exact HL.out)
 have Ev12 := ϕ (show El v12 (yOf l) from e12)
 have Cv12 := ϕ c12
 clear e12 c12
 obtain ⟨r16, o16, ev16, cv16⟩ := across_e (ct := ct) (c1 := c1) (c2 := c2) (c3 := c3) (c4 := c4) Ecd.out Ev12.out
 have Ev16 := ϕ ev16
 have Cv16 := ϕ cv16
 clear ev16 cv16
 obtain ⟨b31, h31⟩ : ∃ b, l[31]? = some b := ⟨_, List.getElem?_eq_getElem (by rw [HL.out]; decide)⟩
 have HX31 := ϕ h31
 have h31d : l.getD 31 0 = b31 := by rw [List.getD_eq_getElem?_getD, h31]; rfl
 have hor := Ev16.out
 clear Ev16
 rcases hor with ⟨hok, q, hrt, hq⟩ | ⟨hok, hrt, hq⟩
 · subst hok
   have Er16 := ϕ hq
   clear hq
   by_cases hsg : 128 ≤ (l.getD 31 0).toNat
   · have A31 := ϕ (show bits .and .u8 (b31.toNat : Int) 128 = 128 from by rw [and128, and128_hi (h31d ▸ hsg)]; rfl)
     clear h31d
     obtain ⟨v24, ev24, cv24⟩ := neg_e Er16.out
     have Ev24 := ϕ ev24
     have Cv24 := ϕ cv24
     clear ev24 cv24
     obtain ⟨z27, t27, ezv27, etv27, cv27⟩ := flat_e Ev24.out Ev12.out
     have Ez27 := ϕ ezv27
     have Et27 := ϕ etv27
     have Cv27 := ϕ cv27
     clear ezv27 etv27 cv27
     have EX := ϕ (show El v24 (sgn l q) from by rw [sgn_hi hsg]; exact Ev24.out)
     obtain ⟨pp, hpp⟩ : ∃ p : Pt, ⟨sgn l q, yOf l, on_s (rt_sq hrt)⟩ = p := ⟨_, rfl⟩
     have hRq : Rq pp v24 v12 z27 t27 := by rw [← hpp]; exact ⟨_, _, _, _, EX.out, Ev12.out, Ez27.out, (show El t27 (sgn l q * yOf l) from by rw [sgn_hi hsg]; exact Et27.out), RepE.of _⟩
     have hby := bytes_q hRq
     obtain ⟨le, hle⟩ : ∃ e, enc pp = e := ⟨_, rfl⟩
     have hdec := dec_of hrt
     rw [hpp, hle] at hdec
     have HLE := ϕ (show le.length = 32 from hle ▸ enc_len pp)
     rw [hle] at hby
     have CBY := ϕ hby
     obtain ⟨eb, heb⟩ : ∃ b, (le == l) = b := ⟨_, rfl⟩
     have HEQ := ϕ (show ∀ W : World, (Op.equalIn 10000 22 (.agg (Cv.bytesV le)) (.agg (Cv.bytesV l))).run Tryz.prog W = .ok eb W from fun W => heb ▸ Cv.run_equalIn_bytes (P := Tryz.prog) W 22 5 32 Tryz.underlying22 Tryz.underlying5 (by kernel_rfl) le l HLE.out HL.out)
     refine ⟨⟨v24, v12, z27, t27⟩, eb, ?_, fun cb w hcb => ?_⟩
     · cases eb with
       | true => exact .inl ⟨rfl, pp, by rw [hdec, if_pos (beq_iff_eq.1 heb)], hRq⟩
       | false => exact .inr ⟨rfl, by rw [hdec, if_neg (beq_eq_false_iff_ne.1 heb)]⟩
     clear hRq hby hle hdec heb hpp EX hrt hsg h31
     have Hcb := ϕ hcb
     clear hcb
     go_enter Tryz.func27, Tryz.ntmps27
     have tb0 := True.intro
     go_upto_region 1 with (have _t := tb0; (with_reducible refine gate_ ?_); refine Rg.box_fresh rfl 22 _ rfl (Cv.bytesV l) (by first | rfl | (rw [els_one])) ?_; intro X1 hX hbX hnX; have J0 := ϕ hX; have K0 := ϕ hbX; have M0 := ϕ hnX; clear hX hbX hnX; clear _t tb0; have tb1 := True.intro)
     clear tb1
     have HB := ϕ (Below.refl w.heap.size w)
     obtain ⟨b3, hb3⟩ : ∃ n, w.heap.size = n := ⟨_, rfl⟩
     have Hcb := ϕ (Hcb.out.below K0.out Hcb.out.lt)
     have Hb3 := ϕ (show Rg.Blk X1 b3 22 (Cv.bytesV l) from hb3 ▸ J0.out)
     have HB := ϕ (HB.out.trans (K0.out.mono HB.out.size))
     rw [hb3]
     clear hb3 J0 K0 M0
     obtain ⟨b4, hb4⟩ : ∃ n, X1.heap.size = n := ⟨_, rfl⟩
     have Gb4 := ϕ (show w.heap.size ≤ b4 from hb4 ▸ HB.out.size)
     have Nb3_b4 := ϕ (show ¬ b3 = b4 from by have h1 := Hb3.out.lt; omega)
     have Hcb := ϕ (Hcb.out.alloc (.cells q20 51))
     have Hb3 := ϕ (Hb3.out.alloc (.cells q20 51))
     have Hb4 := ϕ (show Rg.Blk (X1.alloc (.cells q20 51)) b4 51 (u64s (els [zE, zE, zE, zE])) from Rg.Blk.newAt hb4.symm _ _)
     have HB := ϕ (HB.out.alloc HB.out.size (.cells q20 51))
     rw [hb4]
     clear hb4
     generalize (X1.alloc (.cells q20 51)) = Y2 at *
     have tk3_0 := True.intro
     go_upto_region 2 with (first
      | (have _t := tk3_0; go_at_call 60; refine (Cv12.out Y2).mono ?_; rintro e W4 ⟨rfl, hb9⟩; have Hcb := ϕ (Hcb.out.below hb9 Hcb.out.lt); have Hb3 := ϕ (Hb3.out.below hb9 Hb3.out.lt); have Hb4 := ϕ (Hb4.out.below hb9 Hb4.out.lt); have HB := tm HB hb9; clear hb9; clear _t tk3_0; have tk3_1 := True.intro)
      | (have _t := tk3_1; refine Rg.store_fresh rfl 49 _ _ rfl (u64s (els [v12])) _ 49 rfl (by first | rfl | (rw [els_one])) (by kernel_rfl) (by first | rfl | kernel_rfl) (els_all _) ?_; intro X5 hX hbX; obtain ⟨b6, hb6⟩ : ∃ n, W4.heap.size = n := ⟨_, rfl⟩; have Hcb := ϕ (Hcb.out.below hbX Hcb.out.lt); have Hb3 := ϕ (Hb3.out.below hbX Hb3.out.lt); have Hb4 := ϕ (Hb4.out.below hbX Hb4.out.lt); have Hb6 := ϕ (show Rg.Blk X5 b6 49 (u64s (els [v12])) from hb6 ▸ hX); have HB := tm HB hbX; rw [hb6]; clear hb6 hX hbX; clear _t tk3_1; have tk3_2 := True.intro)
      | ((with_reducible refine gate_ ?_); refine Cv.conv_string rfl 25 5 9 _ rfl Tryz.underlying25 Tryz.underlying5 Tryz.underlying9 b3 0 32 32 l rfl HL.out (Cv.Bytes.of_blk Hb3.out) ?_; skip))
     clear tk3_2
     have tk6_0 := True.intro
     go_upto_region 3 with (first
      | (have _t := tk6_0; (with_reducible refine gate_ ?_); refine Cv.load_cells rfl 49 _ rfl b6 0 rfl (u64s v12.l) _ (el_part (Hb6.out) 0 0 v12 rfl rfl (by simp)) Tryz.underlying49 rfl (by kernel_rfl) ?_; clear _t tk6_0; have tk6_1 := True.intro)
      | (have _t := tk6_1; go_at_call 50; refine (Cv16.out cb X5 (Hcb.out)).mono ?_; rintro e W7 ⟨rfl, hb9⟩; have Hb3 := ϕ (Hb3.out.below hb9 Hb3.out.lt); have Hb4 := ϕ (Hb4.out.below hb9 Hb4.out.lt); have Hb6 := ϕ (Hb6.out.below hb9 Hb6.out.lt); have HB := tm HB hb9; clear hb9; clear _t tk6_1; have tk6_2 := True.intro)
      | (have _t := tk6_2; refine Rg.store_fresh rfl 49 _ _ rfl (u64s (els [r16])) _ 49 rfl (by first | rfl | (rw [els_one])) (by kernel_rfl) (by first | rfl | kernel_rfl) (els_all _) ?_; intro X8 hX hbX; obtain ⟨b7, hb7⟩ : ∃ n, W7.heap.size = n := ⟨_, rfl⟩; have Gb7 := ϕ (show w.heap.size ≤ b7 from hb7 ▸ HB.out.size); have Nb3_b7 := ϕ (show ¬ b3 = b7 from by have h1 := Hb3.out.lt; omega); have Nb7_b3 := ϕ (fun e : b7 = b3 => Nb3_b7.out e.symm); have Nb4_b7 := ϕ (show ¬ b4 = b7 from by have h1 := Hb4.out.lt; omega); have Nb7_b4 := ϕ (fun e : b7 = b4 => Nb4_b7.out e.symm); have Nb6_b7 := ϕ (show ¬ b6 = b7 from by have h1 := Hb6.out.lt; omega); have Nb7_b6 := ϕ (fun e : b7 = b6 => Nb6_b7.out e.symm); have Hb3 := ϕ (Hb3.out.below hbX Hb3.out.lt); have Hb4 := ϕ (Hb4.out.below hbX Hb4.out.lt); have Hb6 := ϕ (Hb6.out.below hbX Hb6.out.lt); have Hb7 := ϕ (show Rg.Blk X8 b7 49 (u64s (els [r16])) from hb7 ▸ hX); have HB := tm HB hbX; rw [hb7]; clear hb7 hX hbX; clear _t tk6_2; have tk6_3 := True.intro))
     clear tk6_3
     have x31 := Hb3.out.cell 31 (Cv.bytesV_get _ _ _ HX31.out)
     have o31 := A31.out
     go_upto_region 4 with fail
     clear x31 o31
     have tk9_0 := True.intro
     go_upto_region 5 with (first
      | (have _t := tk9_0; (with_reducible refine gate_ ?_); refine Cv.load_cells rfl 49 _ rfl b7 0 rfl (u64s r16.l) _ (el_part (Hb7.out) 0 0 r16 rfl rfl (by simp)) Tryz.underlying49 rfl (by kernel_rfl) ?_; clear _t tk9_0; have tk9_1 := True.intro)
      | (have _t := tk9_1; go_at_call 46; refine (Cv24.out X8).mono ?_; rintro e W10 ⟨rfl, hb9⟩; have Hb3 := ϕ (Hb3.out.below hb9 Hb3.out.lt); have Hb4 := ϕ (Hb4.out.below hb9 Hb4.out.lt); have Hb6 := ϕ (Hb6.out.below hb9 Hb6.out.lt); have Hb7 := ϕ (Hb7.out.below hb9 Hb7.out.lt); have HB := tm HB hb9; clear hb9; clear _t tk9_1; have tk9_2 := True.intro)
      | (have _t := tk9_2; (with_reducible refine gate_ ?_); refine Cv.store_blk rfl 49 _ _ rfl b7 (u64s (els [v24])) (u64s (els [r16])) 49 rfl (by first | rfl | (rw [els_one])) Hb7.out (by kernel_rfl) (by first | rfl | kernel_rfl) (els_all _) ?_; intro X11 hV hgV; have Hb3 := ϕ (blk_other Hb3.out hgV Nb7_b3.out); have Hb4 := ϕ (blk_other Hb4.out hgV Nb7_b4.out); have Hb6 := ϕ (blk_other Hb6.out hgV Nb7_b6.out); have Hb7 := ϕ hV; have HB := ϕ (HB.out.grown hgV HB.out.size (fun j e => by cases e; exact Gb7.out)); clear hV hgV; clear _t tk9_2; have tk9_3 := True.intro))
     clear tk9_3
     have tk12_0 := True.intro
     go_upto_region 6 with (first
      | (have _t := tk12_0; (with_reducible refine gate_ ?_); refine Cv.load_cells rfl 49 _ rfl b7 0 rfl (u64s v24.l) _ (el_part (Hb7.out) 0 0 v24 rfl rfl (by simp)) Tryz.underlying49 rfl (by kernel_rfl) ?_; clear _t tk12_0; have tk12_1 := True.intro)
      | (have _t := tk12_1; (with_reducible refine gate_ ?_); refine Cv.load_cells rfl 49 _ rfl b6 0 rfl (u64s v12.l) _ (el_part (Hb6.out) 0 0 v12 rfl rfl (by simp)) Tryz.underlying49 rfl (by kernel_rfl) ?_; clear _t tk12_1; have tk12_2 := True.intro)
      | (have _t := tk12_2; go_at_call 51; refine (Cv27.out X11).mono ?_; rintro e W13 ⟨rfl, hb9⟩; have Hb3 := ϕ (Hb3.out.below hb9 Hb3.out.lt); have Hb4 := ϕ (Hb4.out.below hb9 Hb4.out.lt); have HB := tm HB hb9; clear hb9; clear _t tk12_2; have tk12_3 := True.intro)
      | (have _t := tk12_3; refine Rg.store_fresh rfl 51 _ _ rfl (u64s (els [v24, v12, z27, t27])) _ 51 rfl (by first | rfl | (rw [els_one])) (by kernel_rfl) (by first | rfl | kernel_rfl) (els_all _) ?_; intro X14 hX hbX; obtain ⟨b9, hb9⟩ : ∃ n, W13.heap.size = n := ⟨_, rfl⟩; have Nb4_b9 := ϕ (show ¬ b4 = b9 from by have h1 := Hb4.out.lt; omega); have Nb9_b4 := ϕ (fun e : b9 = b4 => Nb4_b9.out e.symm); have Hb3 := ϕ (Hb3.out.below hbX Hb3.out.lt); have Hb4 := ϕ (Hb4.out.below hbX Hb4.out.lt); have Hb9 := ϕ (show Rg.Blk X14 b9 51 (u64s (els [v24, v12, z27, t27])) from hb9 ▸ hX); have HB := tm HB hbX; rw [hb9]; clear hb9 hX hbX; clear _t tk12_3; have tk12_4 := True.intro))
     clear tk12_4
     refine RL.start (fun W => Sp.Upd X14 W [b4]) (by kernel_rfl) (Sp.Upd.trans (Sp.Upd.refl _ _) (Sp.Upd.of_below (Below.drew (Below.refl _ _))) (by simp)) ?_
     refine RL.tw 0 (v := .agg (u64s (els [v24, v12, z27, t27]))) rfl (fun W hSW => run_at 51 _ rfl b9 0 rfl (u64s (els [v24, v12, z27, t27])) (els_at (upd_blk hSW Hb9.out (by simp; exact Nb9_b4.out)) 0 0 [v24, v12, z27, t27] rfl rfl (by simp)) Tryz.underlying51 rfl (by kernel_rfl)) ?_
     try go_frame
     refine' RL.tv 1 ?hk1 ?_
     case hk1 => (intro W hSW; go_simp; try with_reducible rfl)
     try go_frame
     refine' RL.tv 2 ?hk2 ?_
     case hk2 => (intro W hSW; go_simp; try with_reducible rfl)
     try go_frame
     refine RL.tw 3 (v := .agg (u64s (els [v24, v12, z27, t27]))) rfl (fun W hSW => run_at 51 _ rfl b9 0 rfl (u64s (els [v24, v12, z27, t27])) (els_at (upd_blk hSW Hb9.out (by simp; exact Nb9_b4.out)) 0 0 [v24, v12, z27, t27] rfl rfl (by simp)) Tryz.underlying51 rfl (by kernel_rfl)) ?_
     try go_frame
     refine' RL.tc 4 (v := (.agg (Cv.bytesV le))) 21 #[.agg (u64s (els [v24, v12, z27, t27]))] ?hk3 ?hc3 ?_
     case hk3 => (intro W; go_simp; try with_reducible rfl)
     case hc3 => (intro W hSW; exact (CBY.out W).mono (fun e w9 h9 => ⟨h9.1, h9.2, Sp.Upd.trans hSW (Sp.Upd.of_below h9.2) (by simp)⟩))
     try go_frame
     refine RL.tw 5 (v := .agg (Cv.bytesV l)) rfl (fun W hSW => run_at 22 _ rfl b3 0 rfl (Cv.bytesV l) (fun j v hv => by rw [Nat.zero_add]; exact Rg.Blk.cell (upd_blk hSW Hb3.out (by simp; exact Nb3_b4.out)) j hv) Tryz.underlying22 rfl (by rw [Cv.bytesV_size, HL.out]; kernel_rfl)) ?_
     try go_frame
     refine' RL.tw 6 (v := .bool eb) rfl ?hkq ?_
     case hkq => (intro W hSW; have x1 := HEQ.out W; go_simp; try (clear x1; cases eb <;> rfl))
     try go_frame
     refine' RL.tv 7 ?hk4 ?_
     case hk4 => (intro W hSW; go_simp; try with_reducible rfl)
     try go_frame
     refine RL.sk 8 (fun va hlva hsva K hK => ?_)
     have hO := (Hb4.out.below (Below.drew (Below.refl _ _)) Hb4.out.lt).below hlva (by have := Hb4.out.lt; simpa using this)
     refine store_blk_op 51 _ _ rfl b4 (u64s (els [v24, v12, z27, t27])) _ 51 rfl (by first | rfl | (rw [els_one])) hO (by kernel_rfl) (by first | rfl | kernel_rfl) (els_all _) ?_
     intro Y hY hgY
     have hsY : Sp.Upd X14 Y [b4] := Sp.Upd.trans hsva (Sp.Upd.of_grown1 hgY) (fun k hk => .inl (by simp at hk; simp [hk]))
     refine hK.out _ _ hsY ?_
     clear hK
     try go_frame
     refine' RL.tv 9 ?hk5 ?_
     case hk5 => (intro W hSW; go_simp; try with_reducible rfl)
     try go_frame
     refine RL.done (by kernel_rfl) (fun Zr hlZr hsZr => ?_)
     have Hb4 := ϕ (show Rg.Blk Zr b4 51 (u64s (els [v24, v12, z27, t27])) from Rg.Blk.below hY hlZr hY.lt)
     have HB := ϕ (below_upd HB.out hsZr (fun k hk => by simp at hk; rw [hk]; exact Gb4.out) HB.out.size)
     clear hsY hY hgY hlva hsva hlZr hsZr hO
     go_wp2_with fail
     refine bodyPost_ret (v := .tuple #[.agg (u64s (els [v24, v12, z27, t27])), .bool eb])
      (results_cell_slot Tryz.results27 _ _ b4 51 _ (0, 0) _ _ rfl rfl Hb4.out Tryz.underlying51 rfl (by kernel_rfl)) rfl ?_
     exact ⟨rfl, HB.out⟩
   · have A31 := ϕ (show bits .and .u8 (b31.toNat : Int) 128 = 0 from by rw [and128, and128_lo (h31d ▸ hsg)]; rfl)
     clear h31d
     obtain ⟨z27, t27, ezv27, etv27, cv27⟩ := flat_e Er16.out Ev12.out
     have Ez27 := ϕ ezv27
     have Et27 := ϕ etv27
     have Cv27 := ϕ cv27
     clear ezv27 etv27 cv27
     have EX := ϕ (show El r16 (sgn l q) from by rw [sgn_lo hsg]; exact Er16.out)
     obtain ⟨pp, hpp⟩ : ∃ p : Pt, ⟨sgn l q, yOf l, on_s (rt_sq hrt)⟩ = p := ⟨_, rfl⟩
     have hRq : Rq pp r16 v12 z27 t27 := by rw [← hpp]; exact ⟨_, _, _, _, EX.out, Ev12.out, Ez27.out, (show El t27 (sgn l q * yOf l) from by rw [sgn_lo hsg]; exact Et27.out), RepE.of _⟩
     have hby := bytes_q hRq
     obtain ⟨le, hle⟩ : ∃ e, enc pp = e := ⟨_, rfl⟩
     have hdec := dec_of hrt
     rw [hpp, hle] at hdec
     have HLE := ϕ (show le.length = 32 from hle ▸ enc_len pp)
     rw [hle] at hby
     have CBY := ϕ hby
     obtain ⟨eb, heb⟩ : ∃ b, (le == l) = b := ⟨_, rfl⟩
     have HEQ := ϕ (show ∀ W : World, (Op.equalIn 10000 22 (.agg (Cv.bytesV le)) (.agg (Cv.bytesV l))).run Tryz.prog W = .ok eb W from fun W => heb ▸ Cv.run_equalIn_bytes (P := Tryz.prog) W 22 5 32 Tryz.underlying22 Tryz.underlying5 (by kernel_rfl) le l HLE.out HL.out)
     refine ⟨⟨r16, v12, z27, t27⟩, eb, ?_, fun cb w hcb => ?_⟩
     · cases eb with
       | true => exact .inl ⟨rfl, pp, by rw [hdec, if_pos (beq_iff_eq.1 heb)], hRq⟩
       | false => exact .inr ⟨rfl, by rw [hdec, if_neg (beq_eq_false_iff_ne.1 heb)]⟩
     clear hRq hby hle hdec heb hpp EX hrt hsg h31
     have Hcb := ϕ hcb
     clear hcb
     go_enter Tryz.func27, Tryz.ntmps27
     have tb0 := True.intro
     go_upto_region 1 with (have _t := tb0; (with_reducible refine gate_ ?_); refine Rg.box_fresh rfl 22 _ rfl (Cv.bytesV l) (by first | rfl | (rw [els_one])) ?_; intro X1 hX hbX hnX; have J0 := ϕ hX; have K0 := ϕ hbX; have M0 := ϕ hnX; clear hX hbX hnX; clear _t tb0; have tb1 := True.intro)
     clear tb1
     have HB := ϕ (Below.refl w.heap.size w)
     obtain ⟨b3, hb3⟩ : ∃ n, w.heap.size = n := ⟨_, rfl⟩
     have Hcb := ϕ (Hcb.out.below K0.out Hcb.out.lt)
     have Hb3 := ϕ (show Rg.Blk X1 b3 22 (Cv.bytesV l) from hb3 ▸ J0.out)
     have HB := ϕ (HB.out.trans (K0.out.mono HB.out.size))
     rw [hb3]
     clear hb3 J0 K0 M0
     obtain ⟨b4, hb4⟩ : ∃ n, X1.heap.size = n := ⟨_, rfl⟩
     have Gb4 := ϕ (show w.heap.size ≤ b4 from hb4 ▸ HB.out.size)
     have Nb3_b4 := ϕ (show ¬ b3 = b4 from by have h1 := Hb3.out.lt; omega)
     have Hcb := ϕ (Hcb.out.alloc (.cells q20 51))
     have Hb3 := ϕ (Hb3.out.alloc (.cells q20 51))
     have Hb4 := ϕ (show Rg.Blk (X1.alloc (.cells q20 51)) b4 51 (u64s (els [zE, zE, zE, zE])) from Rg.Blk.newAt hb4.symm _ _)
     have HB := ϕ (HB.out.alloc HB.out.size (.cells q20 51))
     rw [hb4]
     clear hb4
     generalize (X1.alloc (.cells q20 51)) = Y2 at *
     have tk3_0 := True.intro
     go_upto_region 2 with (first
      | (have _t := tk3_0; go_at_call 60; refine (Cv12.out Y2).mono ?_; rintro e W4 ⟨rfl, hb9⟩; have Hcb := ϕ (Hcb.out.below hb9 Hcb.out.lt); have Hb3 := ϕ (Hb3.out.below hb9 Hb3.out.lt); have Hb4 := ϕ (Hb4.out.below hb9 Hb4.out.lt); have HB := tm HB hb9; clear hb9; clear _t tk3_0; have tk3_1 := True.intro)
      | (have _t := tk3_1; refine Rg.store_fresh rfl 49 _ _ rfl (u64s (els [v12])) _ 49 rfl (by first | rfl | (rw [els_one])) (by kernel_rfl) (by first | rfl | kernel_rfl) (els_all _) ?_; intro X5 hX hbX; obtain ⟨b6, hb6⟩ : ∃ n, W4.heap.size = n := ⟨_, rfl⟩; have Hcb := ϕ (Hcb.out.below hbX Hcb.out.lt); have Hb3 := ϕ (Hb3.out.below hbX Hb3.out.lt); have Hb4 := ϕ (Hb4.out.below hbX Hb4.out.lt); have Hb6 := ϕ (show Rg.Blk X5 b6 49 (u64s (els [v12])) from hb6 ▸ hX); have HB := tm HB hbX; rw [hb6]; clear hb6 hX hbX; clear _t tk3_1; have tk3_2 := True.intro)
      | ((with_reducible refine gate_ ?_); refine Cv.conv_string rfl 25 5 9 _ rfl Tryz.underlying25 Tryz.underlying5 Tryz.underlying9 b3 0 32 32 l rfl HL.out (Cv.Bytes.of_blk Hb3.out) ?_; skip))
     clear tk3_2
     have tk6_0 := True.intro
     go_upto_region 3 with (first
      | (have _t := tk6_0; (with_reducible refine gate_ ?_); refine Cv.load_cells rfl 49 _ rfl b6 0 rfl (u64s v12.l) _ (el_part (Hb6.out) 0 0 v12 rfl rfl (by simp)) Tryz.underlying49 rfl (by kernel_rfl) ?_; clear _t tk6_0; have tk6_1 := True.intro)
      | (have _t := tk6_1; go_at_call 50; refine (Cv16.out cb X5 (Hcb.out)).mono ?_; rintro e W7 ⟨rfl, hb9⟩; have Hb3 := ϕ (Hb3.out.below hb9 Hb3.out.lt); have Hb4 := ϕ (Hb4.out.below hb9 Hb4.out.lt); have Hb6 := ϕ (Hb6.out.below hb9 Hb6.out.lt); have HB := tm HB hb9; clear hb9; clear _t tk6_1; have tk6_2 := True.intro)
      | (have _t := tk6_2; refine Rg.store_fresh rfl 49 _ _ rfl (u64s (els [r16])) _ 49 rfl (by first | rfl | (rw [els_one])) (by kernel_rfl) (by first | rfl | kernel_rfl) (els_all _) ?_; intro X8 hX hbX; obtain ⟨b7, hb7⟩ : ∃ n, W7.heap.size = n := ⟨_, rfl⟩; have Hb3 := ϕ (Hb3.out.below hbX Hb3.out.lt); have Hb4 := ϕ (Hb4.out.below hbX Hb4.out.lt); have Hb6 := ϕ (Hb6.out.below hbX Hb6.out.lt); have Hb7 := ϕ (show Rg.Blk X8 b7 49 (u64s (els [r16])) from hb7 ▸ hX); have HB := tm HB hbX; rw [hb7]; clear hb7 hX hbX; clear _t tk6_2; have tk6_3 := True.intro))
     clear tk6_3
     have x31 := Hb3.out.cell 31 (Cv.bytesV_get _ _ _ HX31.out)
     have o31 := A31.out
     go_upto_region 5 with fail
     clear x31 o31
     have tk9_0 := True.intro
     go_upto_region 6 with (first
      | (have _t := tk9_0; (with_reducible refine gate_ ?_); refine Cv.load_cells rfl 49 _ rfl b7 0 rfl (u64s r16.l) _ (el_part (Hb7.out) 0 0 r16 rfl rfl (by simp)) Tryz.underlying49 rfl (by kernel_rfl) ?_; clear _t tk9_0; have tk9_1 := True.intro)
      | (have _t := tk9_1; (with_reducible refine gate_ ?_); refine Cv.load_cells rfl 49 _ rfl b6 0 rfl (u64s v12.l) _ (el_part (Hb6.out) 0 0 v12 rfl rfl (by simp)) Tryz.underlying49 rfl (by kernel_rfl) ?_; clear _t tk9_1; have tk9_2 := True.intro)
      | (have _t := tk9_2; go_at_call 51; refine (Cv27.out X8).mono ?_; rintro e W10 ⟨rfl, hb9⟩; have Hb3 := ϕ (Hb3.out.below hb9 Hb3.out.lt); have Hb4 := ϕ (Hb4.out.below hb9 Hb4.out.lt); have HB := tm HB hb9; clear hb9; clear _t tk9_2; have tk9_3 := True.intro)
      | (have _t := tk9_3; refine Rg.store_fresh rfl 51 _ _ rfl (u64s (els [r16, v12, z27, t27])) _ 51 rfl (by first | rfl | (rw [els_one])) (by kernel_rfl) (by first | rfl | kernel_rfl) (els_all _) ?_; intro X11 hX hbX; obtain ⟨b9, hb9⟩ : ∃ n, W10.heap.size = n := ⟨_, rfl⟩; have Nb4_b9 := ϕ (show ¬ b4 = b9 from by have h1 := Hb4.out.lt; omega); have Nb9_b4 := ϕ (fun e : b9 = b4 => Nb4_b9.out e.symm); have Hb3 := ϕ (Hb3.out.below hbX Hb3.out.lt); have Hb4 := ϕ (Hb4.out.below hbX Hb4.out.lt); have Hb9 := ϕ (show Rg.Blk X11 b9 51 (u64s (els [r16, v12, z27, t27])) from hb9 ▸ hX); have HB := tm HB hbX; rw [hb9]; clear hb9 hX hbX; clear _t tk9_3; have tk9_4 := True.intro))
     clear tk9_4
     refine RL.start (fun W => Sp.Upd X11 W [b4]) (by kernel_rfl) (Sp.Upd.trans (Sp.Upd.refl _ _) (Sp.Upd.of_below (Below.drew (Below.refl _ _))) (by simp)) ?_
     refine RL.tw 0 (v := .agg (u64s (els [r16, v12, z27, t27]))) rfl (fun W hSW => run_at 51 _ rfl b9 0 rfl (u64s (els [r16, v12, z27, t27])) (els_at (upd_blk hSW Hb9.out (by simp; exact Nb9_b4.out)) 0 0 [r16, v12, z27, t27] rfl rfl (by simp)) Tryz.underlying51 rfl (by kernel_rfl)) ?_
     try go_frame
     refine' RL.tv 1 ?hk10 ?_
     case hk10 => (intro W hSW; go_simp; try with_reducible rfl)
     try go_frame
     refine' RL.tv 2 ?hk11 ?_
     case hk11 => (intro W hSW; go_simp; try with_reducible rfl)
     try go_frame
     refine RL.tw 3 (v := .agg (u64s (els [r16, v12, z27, t27]))) rfl (fun W hSW => run_at 51 _ rfl b9 0 rfl (u64s (els [r16, v12, z27, t27])) (els_at (upd_blk hSW Hb9.out (by simp; exact Nb9_b4.out)) 0 0 [r16, v12, z27, t27] rfl rfl (by simp)) Tryz.underlying51 rfl (by kernel_rfl)) ?_
     try go_frame
     refine' RL.tc 4 (v := (.agg (Cv.bytesV le))) 21 #[.agg (u64s (els [r16, v12, z27, t27]))] ?hk12 ?hc12 ?_
     case hk12 => (intro W; go_simp; try with_reducible rfl)
     case hc12 => (intro W hSW; exact (CBY.out W).mono (fun e w9 h9 => ⟨h9.1, h9.2, Sp.Upd.trans hSW (Sp.Upd.of_below h9.2) (by simp)⟩))
     try go_frame
     refine RL.tw 5 (v := .agg (Cv.bytesV l)) rfl (fun W hSW => run_at 22 _ rfl b3 0 rfl (Cv.bytesV l) (fun j v hv => by rw [Nat.zero_add]; exact Rg.Blk.cell (upd_blk hSW Hb3.out (by simp; exact Nb3_b4.out)) j hv) Tryz.underlying22 rfl (by rw [Cv.bytesV_size, HL.out]; kernel_rfl)) ?_
     try go_frame
     refine' RL.tw 6 (v := .bool eb) rfl ?hkq ?_
     case hkq => (intro W hSW; have x1 := HEQ.out W; go_simp; try (clear x1; cases eb <;> rfl))
     try go_frame
     refine' RL.tv 7 ?hk13 ?_
     case hk13 => (intro W hSW; go_simp; try with_reducible rfl)
     try go_frame
     refine RL.sk 8 (fun va hlva hsva K hK => ?_)
     have hO := (Hb4.out.below (Below.drew (Below.refl _ _)) Hb4.out.lt).below hlva (by have := Hb4.out.lt; simpa using this)
     refine store_blk_op 51 _ _ rfl b4 (u64s (els [r16, v12, z27, t27])) _ 51 rfl (by first | rfl | (rw [els_one])) hO (by kernel_rfl) (by first | rfl | kernel_rfl) (els_all _) ?_
     intro Y hY hgY
     have hsY : Sp.Upd X11 Y [b4] := Sp.Upd.trans hsva (Sp.Upd.of_grown1 hgY) (fun k hk => .inl (by simp at hk; simp [hk]))
     refine hK.out _ _ hsY ?_
     clear hK
     try go_frame
     refine' RL.tv 9 ?hk14 ?_
     case hk14 => (intro W hSW; go_simp; try with_reducible rfl)
     try go_frame
     refine RL.done (by kernel_rfl) (fun Zr hlZr hsZr => ?_)
     have Hb4 := ϕ (show Rg.Blk Zr b4 51 (u64s (els [r16, v12, z27, t27])) from Rg.Blk.below hY hlZr hY.lt)
     have HB := ϕ (below_upd HB.out hsZr (fun k hk => by simp at hk; rw [hk]; exact Gb4.out) HB.out.size)
     clear hsY hY hgY hlva hsva hlZr hsZr hO
     go_wp2_with fail
     refine bodyPost_ret (v := .tuple #[.agg (u64s (els [r16, v12, z27, t27])), .bool eb])
      (results_cell_slot Tryz.results27 _ _ b4 51 _ (0, 0) _ _ rfl rfl Hb4.out Tryz.underlying51 rfl (by kernel_rfl)) rfl ?_
     exact ⟨rfl, HB.out⟩
 · subst hok
   have Er16 := ϕ hq
   clear hq
   by_cases hsg : 128 ≤ (l.getD 31 0).toNat
   · have A31 := ϕ (show bits .and .u8 (b31.toNat : Int) 128 = 128 from by rw [and128, and128_hi (h31d ▸ hsg)]; rfl)
     clear h31d
     obtain ⟨v24, ev24, cv24⟩ := neg_e Er16.out
     have Ev24 := ϕ ev24
     have Cv24 := ϕ cv24
     clear ev24 cv24
     obtain ⟨z27, t27, ezv27, etv27, cv27⟩ := flat_e Ev24.out Ev12.out
     have Ez27 := ϕ ezv27
     have Et27 := ϕ etv27
     have Cv27 := ϕ cv27
     clear ezv27 etv27 cv27
     refine ⟨⟨v24, v12, z27, t27⟩, false, .inr ⟨rfl, dec_none hrt⟩, fun cb w hcb => ?_⟩
     clear hrt hsg h31
     have Hcb := ϕ hcb
     clear hcb
     go_enter Tryz.func27, Tryz.ntmps27
     have tb0 := True.intro
     go_upto_region 1 with (have _t := tb0; (with_reducible refine gate_ ?_); refine Rg.box_fresh rfl 22 _ rfl (Cv.bytesV l) (by first | rfl | (rw [els_one])) ?_; intro X1 hX hbX hnX; have J0 := ϕ hX; have K0 := ϕ hbX; have M0 := ϕ hnX; clear hX hbX hnX; clear _t tb0; have tb1 := True.intro)
     clear tb1
     have HB := ϕ (Below.refl w.heap.size w)
     obtain ⟨b3, hb3⟩ : ∃ n, w.heap.size = n := ⟨_, rfl⟩
     have Hcb := ϕ (Hcb.out.below K0.out Hcb.out.lt)
     have Hb3 := ϕ (show Rg.Blk X1 b3 22 (Cv.bytesV l) from hb3 ▸ J0.out)
     have HB := ϕ (HB.out.trans (K0.out.mono HB.out.size))
     rw [hb3]
     clear hb3 J0 K0 M0
     obtain ⟨b4, hb4⟩ : ∃ n, X1.heap.size = n := ⟨_, rfl⟩
     have Gb4 := ϕ (show w.heap.size ≤ b4 from hb4 ▸ HB.out.size)
     have Hcb := ϕ (Hcb.out.alloc (.cells q20 51))
     have Hb3 := ϕ (Hb3.out.alloc (.cells q20 51))
     have Hb4 := ϕ (show Rg.Blk (X1.alloc (.cells q20 51)) b4 51 (u64s (els [zE, zE, zE, zE])) from Rg.Blk.newAt hb4.symm _ _)
     have HB := ϕ (HB.out.alloc HB.out.size (.cells q20 51))
     rw [hb4]
     clear hb4
     generalize (X1.alloc (.cells q20 51)) = Y2 at *
     have tk3_0 := True.intro
     go_upto_region 2 with (first
      | (have _t := tk3_0; go_at_call 60; refine (Cv12.out Y2).mono ?_; rintro e W4 ⟨rfl, hb9⟩; have Hcb := ϕ (Hcb.out.below hb9 Hcb.out.lt); have Hb3 := ϕ (Hb3.out.below hb9 Hb3.out.lt); have Hb4 := ϕ (Hb4.out.below hb9 Hb4.out.lt); have HB := tm HB hb9; clear hb9; clear _t tk3_0; have tk3_1 := True.intro)
      | (have _t := tk3_1; refine Rg.store_fresh rfl 49 _ _ rfl (u64s (els [v12])) _ 49 rfl (by first | rfl | (rw [els_one])) (by kernel_rfl) (by first | rfl | kernel_rfl) (els_all _) ?_; intro X5 hX hbX; obtain ⟨b6, hb6⟩ : ∃ n, W4.heap.size = n := ⟨_, rfl⟩; have Hcb := ϕ (Hcb.out.below hbX Hcb.out.lt); have Hb3 := ϕ (Hb3.out.below hbX Hb3.out.lt); have Hb4 := ϕ (Hb4.out.below hbX Hb4.out.lt); have Hb6 := ϕ (show Rg.Blk X5 b6 49 (u64s (els [v12])) from hb6 ▸ hX); have HB := tm HB hbX; rw [hb6]; clear hb6 hX hbX; clear _t tk3_1; have tk3_2 := True.intro)
      | ((with_reducible refine gate_ ?_); refine Cv.conv_string rfl 25 5 9 _ rfl Tryz.underlying25 Tryz.underlying5 Tryz.underlying9 b3 0 32 32 l rfl HL.out (Cv.Bytes.of_blk Hb3.out) ?_; skip))
     clear tk3_2
     have tk6_0 := True.intro
     go_upto_region 3 with (first
      | (have _t := tk6_0; (with_reducible refine gate_ ?_); refine Cv.load_cells rfl 49 _ rfl b6 0 rfl (u64s v12.l) _ (el_part (Hb6.out) 0 0 v12 rfl rfl (by simp)) Tryz.underlying49 rfl (by kernel_rfl) ?_; clear _t tk6_0; have tk6_1 := True.intro)
      | (have _t := tk6_1; go_at_call 50; refine (Cv16.out cb X5 (Hcb.out)).mono ?_; rintro e W7 ⟨rfl, hb9⟩; have Hb3 := ϕ (Hb3.out.below hb9 Hb3.out.lt); have Hb4 := ϕ (Hb4.out.below hb9 Hb4.out.lt); have Hb6 := ϕ (Hb6.out.below hb9 Hb6.out.lt); have HB := tm HB hb9; clear hb9; clear _t tk6_1; have tk6_2 := True.intro)
      | (have _t := tk6_2; refine Rg.store_fresh rfl 49 _ _ rfl (u64s (els [r16])) _ 49 rfl (by first | rfl | (rw [els_one])) (by kernel_rfl) (by first | rfl | kernel_rfl) (els_all _) ?_; intro X8 hX hbX; obtain ⟨b7, hb7⟩ : ∃ n, W7.heap.size = n := ⟨_, rfl⟩; have Gb7 := ϕ (show w.heap.size ≤ b7 from hb7 ▸ HB.out.size); have Nb4_b7 := ϕ (show ¬ b4 = b7 from by have h1 := Hb4.out.lt; omega); have Nb7_b4 := ϕ (fun e : b7 = b4 => Nb4_b7.out e.symm); have Nb6_b7 := ϕ (show ¬ b6 = b7 from by have h1 := Hb6.out.lt; omega); have Nb7_b6 := ϕ (fun e : b7 = b6 => Nb6_b7.out e.symm); have Hb3 := ϕ (Hb3.out.below hbX Hb3.out.lt); have Hb4 := ϕ (Hb4.out.below hbX Hb4.out.lt); have Hb6 := ϕ (Hb6.out.below hbX Hb6.out.lt); have Hb7 := ϕ (show Rg.Blk X8 b7 49 (u64s (els [r16])) from hb7 ▸ hX); have HB := tm HB hbX; rw [hb7]; clear hb7 hX hbX; clear _t tk6_2; have tk6_3 := True.intro))
     clear tk6_3
     have x31 := Hb3.out.cell 31 (Cv.bytesV_get _ _ _ HX31.out)
     have o31 := A31.out
     go_upto_region 4 with fail
     clear x31 o31
     have tk9_0 := True.intro
     go_upto_region 5 with (first
      | (have _t := tk9_0; (with_reducible refine gate_ ?_); refine Cv.load_cells rfl 49 _ rfl b7 0 rfl (u64s r16.l) _ (el_part (Hb7.out) 0 0 r16 rfl rfl (by simp)) Tryz.underlying49 rfl (by kernel_rfl) ?_; clear _t tk9_0; have tk9_1 := True.intro)
      | (have _t := tk9_1; go_at_call 46; refine (Cv24.out X8).mono ?_; rintro e W10 ⟨rfl, hb9⟩; have Hb4 := ϕ (Hb4.out.below hb9 Hb4.out.lt); have Hb6 := ϕ (Hb6.out.below hb9 Hb6.out.lt); have Hb7 := ϕ (Hb7.out.below hb9 Hb7.out.lt); have HB := tm HB hb9; clear hb9; clear _t tk9_1; have tk9_2 := True.intro)
      | (have _t := tk9_2; (with_reducible refine gate_ ?_); refine Cv.store_blk rfl 49 _ _ rfl b7 (u64s (els [v24])) (u64s (els [r16])) 49 rfl (by first | rfl | (rw [els_one])) Hb7.out (by kernel_rfl) (by first | rfl | kernel_rfl) (els_all _) ?_; intro X11 hV hgV; have Hb4 := ϕ (blk_other Hb4.out hgV Nb7_b4.out); have Hb6 := ϕ (blk_other Hb6.out hgV Nb7_b6.out); have Hb7 := ϕ hV; have HB := ϕ (HB.out.grown hgV HB.out.size (fun j e => by cases e; exact Gb7.out)); clear hV hgV; clear _t tk9_2; have tk9_3 := True.intro))
     clear tk9_3
     have tk12_0 := True.intro
     go_upto_region 6 with (first
      | (have _t := tk12_0; (with_reducible refine gate_ ?_); refine Cv.load_cells rfl 49 _ rfl b7 0 rfl (u64s v24.l) _ (el_part (Hb7.out) 0 0 v24 rfl rfl (by simp)) Tryz.underlying49 rfl (by kernel_rfl) ?_; clear _t tk12_0; have tk12_1 := True.intro)
      | (have _t := tk12_1; (with_reducible refine gate_ ?_); refine Cv.load_cells rfl 49 _ rfl b6 0 rfl (u64s v12.l) _ (el_part (Hb6.out) 0 0 v12 rfl rfl (by simp)) Tryz.underlying49 rfl (by kernel_rfl) ?_; clear _t tk12_1; have tk12_2 := True.intro)
      | (have _t := tk12_2; go_at_call 51; refine (Cv27.out X11).mono ?_; rintro e W13 ⟨rfl, hb9⟩; have Hb4 := ϕ (Hb4.out.below hb9 Hb4.out.lt); have HB := tm HB hb9; clear hb9; clear _t tk12_2; have tk12_3 := True.intro)
      | (have _t := tk12_3; refine Rg.store_fresh rfl 51 _ _ rfl (u64s (els [v24, v12, z27, t27])) _ 51 rfl (by first | rfl | (rw [els_one])) (by kernel_rfl) (by first | rfl | kernel_rfl) (els_all _) ?_; intro X14 hX hbX; obtain ⟨b9, hb9⟩ : ∃ n, W13.heap.size = n := ⟨_, rfl⟩; have Nb4_b9 := ϕ (show ¬ b4 = b9 from by have h1 := Hb4.out.lt; omega); have Nb9_b4 := ϕ (fun e : b9 = b4 => Nb4_b9.out e.symm); have Hb4 := ϕ (Hb4.out.below hbX Hb4.out.lt); have Hb9 := ϕ (show Rg.Blk X14 b9 51 (u64s (els [v24, v12, z27, t27])) from hb9 ▸ hX); have HB := tm HB hbX; rw [hb9]; clear hb9 hX hbX; clear _t tk12_3; have tk12_4 := True.intro))
     clear tk12_4
     refine RL.start (fun W => Sp.Upd X14 W [b4]) (by kernel_rfl) (Sp.Upd.trans (Sp.Upd.refl _ _) (Sp.Upd.of_below (Below.drew (Below.refl _ _))) (by simp)) ?_
     refine RL.tw 0 (v := .agg (u64s (els [v24, v12, z27, t27]))) rfl (fun W hSW => run_at 51 _ rfl b9 0 rfl (u64s (els [v24, v12, z27, t27])) (els_at (upd_blk hSW Hb9.out (by simp; exact Nb9_b4.out)) 0 0 [v24, v12, z27, t27] rfl rfl (by simp)) Tryz.underlying51 rfl (by kernel_rfl)) ?_
     try go_frame
     refine' RL.tv 1 ?hk6 ?_
     case hk6 => (intro W hSW; go_simp; try with_reducible rfl)
     try go_frame
     refine' RL.tv 2 ?hk7 ?_
     case hk7 => (intro W hSW; go_simp; try with_reducible rfl)
     try go_frame
     refine' RL.takeU (i := 3) rfl (by kernel_rfl) (by kernel_rfl) (by kernel_rfl) (fun _ _ _ h => h) (by rfl) ?_
     try go_frame
     refine' RL.takeU (i := 4) rfl (by kernel_rfl) (by kernel_rfl) (by kernel_rfl) (fun _ _ _ h => h) (by rfl) ?_
     try go_frame
     refine' RL.takeU (i := 5) rfl (by kernel_rfl) (by kernel_rfl) (by kernel_rfl) (fun _ _ _ h => h) (by rfl) ?_
     try go_frame
     refine' RL.takeU (i := 6) rfl (by kernel_rfl) (by kernel_rfl) (by kernel_rfl) (fun _ _ _ h => h) (by rfl) ?_
     try go_frame
     refine' RL.tv 7 ?hk8 ?_
     case hk8 => (intro W hSW; go_simp; try with_reducible rfl)
     try go_frame
     refine RL.sk 8 (fun va hlva hsva K hK => ?_)
     have hO := (Hb4.out.below (Below.drew (Below.refl _ _)) Hb4.out.lt).below hlva (by have := Hb4.out.lt; simpa using this)
     refine store_blk_op 51 _ _ rfl b4 (u64s (els [v24, v12, z27, t27])) _ 51 rfl (by first | rfl | (rw [els_one])) hO (by kernel_rfl) (by first | rfl | kernel_rfl) (els_all _) ?_
     intro Y hY hgY
     have hsY : Sp.Upd X14 Y [b4] := Sp.Upd.trans hsva (Sp.Upd.of_grown1 hgY) (fun k hk => .inl (by simp at hk; simp [hk]))
     refine hK.out _ _ hsY ?_
     clear hK
     try go_frame
     refine' RL.tv 9 ?hk9 ?_
     case hk9 => (intro W hSW; go_simp; try with_reducible rfl)
     try go_frame
     refine RL.done (by kernel_rfl) (fun Zr hlZr hsZr => ?_)
     have Hb4 := ϕ (show Rg.Blk Zr b4 51 (u64s (els [v24, v12, z27, t27])) from Rg.Blk.below hY hlZr hY.lt)
     have HB := ϕ (below_upd HB.out hsZr (fun k hk => by simp at hk; rw [hk]; exact Gb4.out) HB.out.size)
     clear hsY hY hgY hlva hsva hlZr hsZr hO
     go_wp2_with fail
     refine bodyPost_ret (v := .tuple #[.agg (u64s (els [v24, v12, z27, t27])), .bool false])
      (results_cell_slot Tryz.results27 _ _ b4 51 _ (0, 0) _ _ rfl rfl Hb4.out Tryz.underlying51 rfl (by kernel_rfl)) rfl ?_
     exact ⟨rfl, HB.out⟩
   · have A31 := ϕ (show bits .and .u8 (b31.toNat : Int) 128 = 0 from by rw [and128, and128_lo (h31d ▸ hsg)]; rfl)
     clear h31d
     obtain ⟨z27, t27, ezv27, etv27, cv27⟩ := flat_e Er16.out Ev12.out
     have Ez27 := ϕ ezv27
     have Et27 := ϕ etv27
     have Cv27 := ϕ cv27
     clear ezv27 etv27 cv27
     refine ⟨⟨r16, v12, z27, t27⟩, false, .inr ⟨rfl, dec_none hrt⟩, fun cb w hcb => ?_⟩
     clear hrt hsg h31
     have Hcb := ϕ hcb
     clear hcb
     go_enter Tryz.func27, Tryz.ntmps27
     have tb0 := True.intro
     go_upto_region 1 with (have _t := tb0; (with_reducible refine gate_ ?_); refine Rg.box_fresh rfl 22 _ rfl (Cv.bytesV l) (by first | rfl | (rw [els_one])) ?_; intro X1 hX hbX hnX; have J0 := ϕ hX; have K0 := ϕ hbX; have M0 := ϕ hnX; clear hX hbX hnX; clear _t tb0; have tb1 := True.intro)
     clear tb1
     have HB := ϕ (Below.refl w.heap.size w)
     obtain ⟨b3, hb3⟩ : ∃ n, w.heap.size = n := ⟨_, rfl⟩
     have Hcb := ϕ (Hcb.out.below K0.out Hcb.out.lt)
     have Hb3 := ϕ (show Rg.Blk X1 b3 22 (Cv.bytesV l) from hb3 ▸ J0.out)
     have HB := ϕ (HB.out.trans (K0.out.mono HB.out.size))
     rw [hb3]
     clear hb3 J0 K0 M0
     obtain ⟨b4, hb4⟩ : ∃ n, X1.heap.size = n := ⟨_, rfl⟩
     have Gb4 := ϕ (show w.heap.size ≤ b4 from hb4 ▸ HB.out.size)
     have Hcb := ϕ (Hcb.out.alloc (.cells q20 51))
     have Hb3 := ϕ (Hb3.out.alloc (.cells q20 51))
     have Hb4 := ϕ (show Rg.Blk (X1.alloc (.cells q20 51)) b4 51 (u64s (els [zE, zE, zE, zE])) from Rg.Blk.newAt hb4.symm _ _)
     have HB := ϕ (HB.out.alloc HB.out.size (.cells q20 51))
     rw [hb4]
     clear hb4
     generalize (X1.alloc (.cells q20 51)) = Y2 at *
     have tk3_0 := True.intro
     go_upto_region 2 with (first
      | (have _t := tk3_0; go_at_call 60; refine (Cv12.out Y2).mono ?_; rintro e W4 ⟨rfl, hb9⟩; have Hcb := ϕ (Hcb.out.below hb9 Hcb.out.lt); have Hb3 := ϕ (Hb3.out.below hb9 Hb3.out.lt); have Hb4 := ϕ (Hb4.out.below hb9 Hb4.out.lt); have HB := tm HB hb9; clear hb9; clear _t tk3_0; have tk3_1 := True.intro)
      | (have _t := tk3_1; refine Rg.store_fresh rfl 49 _ _ rfl (u64s (els [v12])) _ 49 rfl (by first | rfl | (rw [els_one])) (by kernel_rfl) (by first | rfl | kernel_rfl) (els_all _) ?_; intro X5 hX hbX; obtain ⟨b6, hb6⟩ : ∃ n, W4.heap.size = n := ⟨_, rfl⟩; have Hcb := ϕ (Hcb.out.below hbX Hcb.out.lt); have Hb3 := ϕ (Hb3.out.below hbX Hb3.out.lt); have Hb4 := ϕ (Hb4.out.below hbX Hb4.out.lt); have Hb6 := ϕ (show Rg.Blk X5 b6 49 (u64s (els [v12])) from hb6 ▸ hX); have HB := tm HB hbX; rw [hb6]; clear hb6 hX hbX; clear _t tk3_1; have tk3_2 := True.intro)
      | ((with_reducible refine gate_ ?_); refine Cv.conv_string rfl 25 5 9 _ rfl Tryz.underlying25 Tryz.underlying5 Tryz.underlying9 b3 0 32 32 l rfl HL.out (Cv.Bytes.of_blk Hb3.out) ?_; skip))
     clear tk3_2
     have tk6_0 := True.intro
     go_upto_region 3 with (first
      | (have _t := tk6_0; (with_reducible refine gate_ ?_); refine Cv.load_cells rfl 49 _ rfl b6 0 rfl (u64s v12.l) _ (el_part (Hb6.out) 0 0 v12 rfl rfl (by simp)) Tryz.underlying49 rfl (by kernel_rfl) ?_; clear _t tk6_0; have tk6_1 := True.intro)
      | (have _t := tk6_1; go_at_call 50; refine (Cv16.out cb X5 (Hcb.out)).mono ?_; rintro e W7 ⟨rfl, hb9⟩; have Hb3 := ϕ (Hb3.out.below hb9 Hb3.out.lt); have Hb4 := ϕ (Hb4.out.below hb9 Hb4.out.lt); have Hb6 := ϕ (Hb6.out.below hb9 Hb6.out.lt); have HB := tm HB hb9; clear hb9; clear _t tk6_1; have tk6_2 := True.intro)
      | (have _t := tk6_2; refine Rg.store_fresh rfl 49 _ _ rfl (u64s (els [r16])) _ 49 rfl (by first | rfl | (rw [els_one])) (by kernel_rfl) (by first | rfl | kernel_rfl) (els_all _) ?_; intro X8 hX hbX; obtain ⟨b7, hb7⟩ : ∃ n, W7.heap.size = n := ⟨_, rfl⟩; have Hb3 := ϕ (Hb3.out.below hbX Hb3.out.lt); have Hb4 := ϕ (Hb4.out.below hbX Hb4.out.lt); have Hb6 := ϕ (Hb6.out.below hbX Hb6.out.lt); have Hb7 := ϕ (show Rg.Blk X8 b7 49 (u64s (els [r16])) from hb7 ▸ hX); have HB := tm HB hbX; rw [hb7]; clear hb7 hX hbX; clear _t tk6_2; have tk6_3 := True.intro))
     clear tk6_3
     have x31 := Hb3.out.cell 31 (Cv.bytesV_get _ _ _ HX31.out)
     have o31 := A31.out
     go_upto_region 5 with fail
     clear x31 o31
     have tk9_0 := True.intro
     go_upto_region 6 with (first
      | (have _t := tk9_0; (with_reducible refine gate_ ?_); refine Cv.load_cells rfl 49 _ rfl b7 0 rfl (u64s r16.l) _ (el_part (Hb7.out) 0 0 r16 rfl rfl (by simp)) Tryz.underlying49 rfl (by kernel_rfl) ?_; clear _t tk9_0; have tk9_1 := True.intro)
      | (have _t := tk9_1; (with_reducible refine gate_ ?_); refine Cv.load_cells rfl 49 _ rfl b6 0 rfl (u64s v12.l) _ (el_part (Hb6.out) 0 0 v12 rfl rfl (by simp)) Tryz.underlying49 rfl (by kernel_rfl) ?_; clear _t tk9_1; have tk9_2 := True.intro)
      | (have _t := tk9_2; go_at_call 51; refine (Cv27.out X8).mono ?_; rintro e W10 ⟨rfl, hb9⟩; have Hb4 := ϕ (Hb4.out.below hb9 Hb4.out.lt); have HB := tm HB hb9; clear hb9; clear _t tk9_2; have tk9_3 := True.intro)
      | (have _t := tk9_3; refine Rg.store_fresh rfl 51 _ _ rfl (u64s (els [r16, v12, z27, t27])) _ 51 rfl (by first | rfl | (rw [els_one])) (by kernel_rfl) (by first | rfl | kernel_rfl) (els_all _) ?_; intro X11 hX hbX; obtain ⟨b9, hb9⟩ : ∃ n, W10.heap.size = n := ⟨_, rfl⟩; have Nb4_b9 := ϕ (show ¬ b4 = b9 from by have h1 := Hb4.out.lt; omega); have Nb9_b4 := ϕ (fun e : b9 = b4 => Nb4_b9.out e.symm); have Hb4 := ϕ (Hb4.out.below hbX Hb4.out.lt); have Hb9 := ϕ (show Rg.Blk X11 b9 51 (u64s (els [r16, v12, z27, t27])) from hb9 ▸ hX); have HB := tm HB hbX; rw [hb9]; clear hb9 hX hbX; clear _t tk9_3; have tk9_4 := True.intro))
     clear tk9_4
     refine RL.start (fun W => Sp.Upd X11 W [b4]) (by kernel_rfl) (Sp.Upd.trans (Sp.Upd.refl _ _) (Sp.Upd.of_below (Below.drew (Below.refl _ _))) (by simp)) ?_
     refine RL.tw 0 (v := .agg (u64s (els [r16, v12, z27, t27]))) rfl (fun W hSW => run_at 51 _ rfl b9 0 rfl (u64s (els [r16, v12, z27, t27])) (els_at (upd_blk hSW Hb9.out (by simp; exact Nb9_b4.out)) 0 0 [r16, v12, z27, t27] rfl rfl (by simp)) Tryz.underlying51 rfl (by kernel_rfl)) ?_
     try go_frame
     refine' RL.tv 1 ?hk15 ?_
     case hk15 => (intro W hSW; go_simp; try with_reducible rfl)
     try go_frame
     refine' RL.tv 2 ?hk16 ?_
     case hk16 => (intro W hSW; go_simp; try with_reducible rfl)
     try go_frame
     refine' RL.takeU (i := 3) rfl (by kernel_rfl) (by kernel_rfl) (by kernel_rfl) (fun _ _ _ h => h) (by rfl) ?_
     try go_frame
     refine' RL.takeU (i := 4) rfl (by kernel_rfl) (by kernel_rfl) (by kernel_rfl) (fun _ _ _ h => h) (by rfl) ?_
     try go_frame
     refine' RL.takeU (i := 5) rfl (by kernel_rfl) (by kernel_rfl) (by kernel_rfl) (fun _ _ _ h => h) (by rfl) ?_
     try go_frame
     refine' RL.takeU (i := 6) rfl (by kernel_rfl) (by kernel_rfl) (by kernel_rfl) (fun _ _ _ h => h) (by rfl) ?_
     try go_frame
     refine' RL.tv 7 ?hk17 ?_
     case hk17 => (intro W hSW; go_simp; try with_reducible rfl)
     try go_frame
     refine RL.sk 8 (fun va hlva hsva K hK => ?_)
     have hO := (Hb4.out.below (Below.drew (Below.refl _ _)) Hb4.out.lt).below hlva (by have := Hb4.out.lt; simpa using this)
     refine store_blk_op 51 _ _ rfl b4 (u64s (els [r16, v12, z27, t27])) _ 51 rfl (by first | rfl | (rw [els_one])) hO (by kernel_rfl) (by first | rfl | kernel_rfl) (els_all _) ?_
     intro Y hY hgY
     have hsY : Sp.Upd X11 Y [b4] := Sp.Upd.trans hsva (Sp.Upd.of_grown1 hgY) (fun k hk => .inl (by simp at hk; simp [hk]))
     refine hK.out _ _ hsY ?_
     clear hK
     try go_frame
     refine' RL.tv 9 ?hk18 ?_
     case hk18 => (intro W hSW; go_simp; try with_reducible rfl)
     try go_frame
     refine RL.done (by kernel_rfl) (fun Zr hlZr hsZr => ?_)
     have Hb4 := ϕ (show Rg.Blk Zr b4 51 (u64s (els [r16, v12, z27, t27])) from Rg.Blk.below hY hlZr hY.lt)
     have HB := ϕ (below_upd HB.out hsZr (fun k hk => by simp at hk; rw [hk]; exact Gb4.out) HB.out.size)
     clear hsY hY hgY hlva hsva hlZr hsZr hO
     go_wp2_with fail
     refine bodyPost_ret (v := .tuple #[.agg (u64s (els [r16, v12, z27, t27])), .bool false])
      (results_cell_slot Tryz.results27 _ _ b4 51 _ (0, 0) _ _ rfl rfl Hb4.out Tryz.underlying51 rfl (by kernel_rfl)) rfl ?_
     exact ⟨rfl, HB.out⟩
end Go.Proofs.YtfpcelmekfdafaaGreatDoor.Kx
namespace Go.Proofs.YtfpcelmekfdafaaGreatDoor.Dg
/-- the number of digits -/
def num : List Nat → Nat
 | [] => 0
 | d :: r => d + 65536 * num r
/-- a number's lowest digits -/
def lo : Nat → Nat → List Nat
 | 0, _ => []
 | k + 1, n => n % 65536 :: lo k (n / 65536)
/-- without digits 0 above -/
def trimL : List Nat → List Nat
 | [] => []
 | d :: r => if trimL r = [] then (if d = 0 then [] else [d]) else d :: trimL r
/-- a number's digits: none for 0 -/
def dig (n : Nat) : List Nat := if h : n = 0 then [] else n % 65536 :: dig (n / 65536)
termination_by n
decreasing_by omega
theorem dig_zero : dig 0 = [] := by rw [dig]; rfl
theorem dig_pos {n : Nat} (h : n ≠ 0) : dig n = n % 65536 :: dig (n / 65536) := by rw [dig, dif_neg h]
theorem dig_nil {n : Nat} (h : dig n = []) : n = 0 := by
 by_cases h0 : n = 0
 · exact h0
 · rw [dig_pos h0] at h; cases h
theorem lo_len : ∀ k n, (lo k n).length = k
 | 0, _ => rfl
 | k + 1, n => by rw [lo, List.length_cons, lo_len k]
theorem lo_get : ∀ (k n i : Nat), i < k → (lo k n)[i]? = some (n / 65536 ^ i % 65536)
 | 0, _, _, h => by omega
 | k + 1, n, 0, _ => by simp [lo]
 | k + 1, n, i + 1, h => by
  rw [lo, List.getElem?_cons_succ, lo_get k _ i (by omega), Nat.div_div_eq_div_mul, Nat.pow_succ, Nat.mul_comm]
theorem lo_snoc (k n : Nat) : lo (k + 1) n = lo k n ++ [n / 65536 ^ k % 65536] := by
 apply List.ext_getElem?
 intro i
 by_cases h : i < k
 · rw [lo_get (k + 1) n i (by omega), List.getElem?_append_left (by rw [lo_len]; exact h), lo_get k n i h]
 · by_cases h2 : i = k
   · subst h2
     rw [lo_get (i + 1) n i (by omega), List.getElem?_append_right (by rw [lo_len]; exact Nat.le_refl _), lo_len, Nat.sub_self]; rfl
   · rw [List.getElem?_eq_none (by rw [lo_len]; omega), List.getElem?_eq_none (by rw [List.length_append, lo_len]; simp; omega)]
theorem lo_mod (k n : Nat) : lo k (n % 65536 ^ k) = lo k n := by
 apply List.ext_getElem?
 intro i
 by_cases h : i < k
 · rw [lo_get _ _ _ h, lo_get _ _ _ h]
   congr 1
   rw [show 65536 ^ k = 65536 ^ i * (65536 * 65536 ^ (k - i - 1)) by rw [← Nat.pow_succ', ← Nat.pow_add]; congr 1; omega]
   rw [Nat.mod_mul_right_div_self, Nat.mod_mul_right_mod]
 · rw [List.getElem?_eq_none (by rw [lo_len]; omega), List.getElem?_eq_none (by rw [lo_len]; omega)]
theorem trim_lo : ∀ (k n : Nat), n < 65536 ^ k → trimL (lo k n) = dig n
 | 0, n, h => by
  have : n = 0 := by simpa using h
  subst this
  rw [dig_zero]; rfl
 | k + 1, n, h => by
  have h2 : n / 65536 < 65536 ^ k := by rw [Nat.pow_succ] at h; exact Nat.div_lt_of_lt_mul (by rw [Nat.mul_comm]; exact h)
  rw [lo, trimL, trim_lo k _ h2]
  by_cases h0 : n = 0
  · subst h0
    rw [dig_zero]; rfl
  · rw [dig_pos h0]
    split
    · next h3 =>
      have h4 := dig_nil h3
      rw [h3, if_neg (by omega)]
    · rfl
theorem dig_lt (n : Nat) : n < 65536 ^ (dig n).length := by
 induction n using Nat.strongRecOn with
 | ind n ih =>
  by_cases h0 : n = 0
  · subst h0; exact Nat.pos_of_ne_zero (by rw [dig_zero]; decide)
  · rw [dig_pos h0, List.length_cons, Nat.pow_succ]
    have := ih (n / 65536) (by omega)
    omega
theorem dig_ge {n : Nat} (h : n ≠ 0) : 65536 ^ ((dig n).length - 1) ≤ n := by
 induction n using Nat.strongRecOn with
 | ind n ih =>
  rw [dig_pos h, List.length_cons, Nat.add_sub_cancel]
  by_cases h1 : n / 65536 = 0
  · rw [h1, dig_zero]; simp; omega
  · have := ih (n / 65536) (by omega) h1
    have h2 : (dig (n / 65536)).length ≠ 0 := fun e => h1 (dig_nil (List.eq_nil_of_length_eq_zero e))
    obtain ⟨m, hm⟩ : ∃ m, (dig (n / 65536)).length = m + 1 := ⟨(dig (n / 65536)).length - 1, by omega⟩
    rw [hm] at this ⊢
    rw [Nat.add_sub_cancel] at this
    rw [Nat.pow_succ]
    omega
theorem dig_lo (n : Nat) : dig n = lo (dig n).length n := by
 induction n using Nat.strongRecOn with
 | ind n ih =>
  by_cases h0 : n = 0
  · subst h0; rw [dig_zero]; rfl
  · rw [dig_pos h0, List.length_cons, lo, ← ih (n / 65536) (by omega)]
theorem dig_get {n i : Nat} (h : i < (dig n).length) : (dig n)[i]? = some (n / 65536 ^ i % 65536) := by
 have h2 := lo_get (dig n).length n i h
 rwa [← dig_lo] at h2
theorem dig_len_le {n k : Nat} (h : n < 65536 ^ k) : (dig n).length ≤ k := by
 by_cases h0 : n = 0
 · subst h0; rw [dig_zero]; exact Nat.zero_le _
 · have h1 := dig_ge h0
   by_cases h2 : (dig n).length ≤ k
   · exact h2
   · have h3 : 65536 ^ k ≤ 65536 ^ ((dig n).length - 1) := Nat.pow_le_pow_right (by decide) (by omega)
     omega
theorem dig_len_lt {m n : Nat} (h : (dig m).length < (dig n).length) : m < n := by
 have h1 := dig_lt m
 by_cases h0 : n = 0
 · subst h0; rw [dig_zero] at h; simp at h
 · have h2 := dig_ge h0
   have h3 : 65536 ^ (dig m).length ≤ 65536 ^ ((dig n).length - 1) := Nat.pow_le_pow_right (by decide) (by omega)
   omega
theorem lo_zero : ∀ k, lo k 0 = List.replicate k 0
 | 0 => rfl
 | k + 1 => by rw [lo, Nat.zero_div, lo_zero k]; rfl
theorem trim_dig (n : Nat) : trimL (dig n) = dig n := by
 have h := trim_lo (dig n).length n (dig_lt n)
 rwa [← dig_lo] at h
/-- trimmed: the first n, behind which all are 0 -/
theorem trim_snoc0 : ∀ l : List Nat, trimL (l ++ [0]) = trimL l
 | [] => rfl
 | d :: r => by rw [List.cons_append, trimL, trimL, trim_snoc0 r]
theorem trim_snoc {d : Nat} (hd : d ≠ 0) : ∀ l : List Nat, trimL (l ++ [d]) = l ++ [d]
 | [] => by rw [List.nil_append, trimL]; simp [trimL, hd]
 | e :: r => by rw [List.cons_append, trimL, trim_snoc hd r, if_neg (by simp)]
/-- sums -/
theorem pow_split (n k : Nat) : n % 65536 ^ (k + 1) = n % 65536 ^ k + n / 65536 ^ k % 65536 * 65536 ^ k := by
 rw [Nat.pow_succ, Nat.mod_mul, Nat.mul_comm (65536 ^ k)]
theorem pow_pos (k : Nat) : 0 < 65536 ^ k := Nat.pow_pos (by decide)
/-- the carry into digit k -/
def car (a b k : Nat) : Nat := (a % 65536 ^ k + b % 65536 ^ k) / 65536 ^ k
theorem car_zero (a b : Nat) : car a b 0 = 0 := by unfold car; simp [Nat.mod_one]
theorem div_lin (x y p : Nat) (hp : 0 < p) : (x + y * p) / p = x / p + y := Nat.add_mul_div_right _ _ hp
theorem car_step (a b k : Nat) : car a b (k + 1) = (car a b k + a / 65536 ^ k % 65536 + b / 65536 ^ k % 65536) / 65536 := by
 have hp := pow_pos k
 unfold car
 rw [pow_split a k, pow_split b k, Nat.pow_succ, ← Nat.div_div_eq_div_mul]
 rw [show a % 65536 ^ k + a / 65536 ^ k % 65536 * 65536 ^ k + (b % 65536 ^ k + b / 65536 ^ k % 65536 * 65536 ^ k) = (a % 65536 ^ k + b % 65536 ^ k) + (a / 65536 ^ k % 65536 + b / 65536 ^ k % 65536) * 65536 ^ k by rw [Nat.add_mul]; omega]
 rw [div_lin _ _ _ hp, Nat.add_assoc]
theorem car_digit (a b k : Nat) : (a + b) / 65536 ^ k % 65536 = (car a b k + a / 65536 ^ k % 65536 + b / 65536 ^ k % 65536) % 65536 := by
 have hp := pow_pos k
 have h : (a + b) / 65536 ^ k = car a b k + a / 65536 ^ k + b / 65536 ^ k := by
  unfold car
  conv => lhs; rw [← Nat.mod_add_div a (65536 ^ k), ← Nat.mod_add_div b (65536 ^ k)]
  rw [show a % 65536 ^ k + 65536 ^ k * (a / 65536 ^ k) + (b % 65536 ^ k + 65536 ^ k * (b / 65536 ^ k)) = (a % 65536 ^ k + b % 65536 ^ k) + (a / 65536 ^ k + b / 65536 ^ k) * 65536 ^ k by rw [Nat.add_mul, Nat.mul_comm _ (65536 ^ k), Nat.mul_comm _ (65536 ^ k)]; omega]
  rw [div_lin _ _ _ hp, Nat.add_assoc]
 rw [h]
 omega
theorem car_end {a b k : Nat} (ha : a < 65536 ^ k) (hb : b < 65536 ^ k) (hc : car a b k = 0) : a + b < 65536 ^ k := by
 have hp := pow_pos k
 unfold car at hc
 rw [Nat.mod_eq_of_lt ha, Nat.mod_eq_of_lt hb] at hc
 exact (Nat.div_eq_zero_iff_lt hp).1 hc
theorem big_digit {n k : Nat} (h : n < 65536 ^ k) : n / 65536 ^ k % 65536 = 0 := by rw [Nat.div_eq_of_lt h]
/-- differences: what is borrowed of digit k -/
def bor (a b k : Nat) : Nat := if a % 65536 ^ k < b % 65536 ^ k then 1 else 0
theorem bor_zero (a b : Nat) : bor a b 0 = 0 := by unfold bor; simp [Nat.mod_one]
theorem lt_split (x y u v p : Nat) (hx : x < p) (hu : u < p) : x + y * p < u + v * p ↔ y < v ∨ (y = v ∧ x < u) := by
 constructor
 · intro h
   by_cases h1 : y < v
   · exact .inl h1
   · right
     by_cases h2 : y = v
     · subst h2; omega
     · have h3 : (v + 1) * p ≤ y * p := Nat.mul_le_mul_right p (by omega)
       rw [Nat.add_mul] at h3
       omega
 · rintro (h | ⟨rfl, h⟩)
   · have h3 : (y + 1) * p ≤ v * p := Nat.mul_le_mul_right p h
     rw [Nat.add_mul] at h3
     omega
   · omega
theorem bor_step (a b k : Nat) : bor a b (k + 1) = if a / 65536 ^ k % 65536 < bor a b k + b / 65536 ^ k % 65536 then 1 else 0 := by
 have hp := pow_pos k
 unfold bor
 rw [pow_split a k, pow_split b k]
 have h := lt_split (a % 65536 ^ k) (a / 65536 ^ k % 65536) (b % 65536 ^ k) (b / 65536 ^ k % 65536) (65536 ^ k) (Nat.mod_lt _ hp) (Nat.mod_lt _ hp)
 by_cases h1 : a % 65536 ^ k < b % 65536 ^ k
 · rw [if_pos h1]
   by_cases h2 : a / 65536 ^ k % 65536 < 1 + b / 65536 ^ k % 65536
   · rw [if_pos h2, if_pos (h.2 (by omega))]
   · rw [if_neg h2, if_neg (fun h3 => h2 (by rcases h.1 h3 with h4 | h4 <;> omega))]
 · rw [if_neg h1]
   by_cases h2 : a / 65536 ^ k % 65536 < 0 + b / 65536 ^ k % 65536
   · rw [if_pos h2, if_pos (h.2 (by omega))]
   · rw [if_neg h2, if_neg (fun h3 => h2 (by rcases h.1 h3 with h4 | h4 <;> omega))]
theorem bor_digit {a b : Nat} (h : b ≤ a) (k : Nat) : ((a - b) / 65536 ^ k % 65536 : Nat) = (a / 65536 ^ k % 65536 + 65536 * bor a b (k + 1)) - bor a b k - b / 65536 ^ k % 65536 := by
 have hp := pow_pos k
 have hd : (a - b) / 65536 ^ k + bor a b k + b / 65536 ^ k = a / 65536 ^ k := by
  have ea := Nat.mod_add_div a (65536 ^ k)
  have eb := Nat.mod_add_div b (65536 ^ k)
  have la := Nat.mod_lt a hp
  have lb := Nat.mod_lt b hp
  unfold bor
  generalize a / 65536 ^ k = qa at *
  generalize b / 65536 ^ k = qb at *
  generalize a % 65536 ^ k = ra at *
  generalize b % 65536 ^ k = rb at *
  generalize 65536 ^ k = p at *
  have hq : qb ≤ qa := by
   by_cases hq : qb ≤ qa
   · exact hq
   · have h3 : p * (qa + 1) ≤ p * qb := Nat.mul_le_mul_left p (by omega)
     rw [Nat.mul_add] at h3
     omega
  obtain ⟨m, rfl⟩ : ∃ m, qa = qb + m := ⟨qa - qb, by omega⟩
  rw [Nat.mul_add] at ea
  split
  · next h1 =>
    have hm : m ≠ 0 := fun e => by subst e; omega
    obtain ⟨j, rfl⟩ : ∃ j, m = j + 1 := ⟨m - 1, by omega⟩
    rw [Nat.mul_add] at ea
    have : a - b = (p + ra - rb) + p * j := by omega
    rw [this, Nat.add_mul_div_left _ _ hp, Nat.div_eq_of_lt (by omega)]
    omega
  · next h1 =>
    have : a - b = (ra - rb) + p * m := by omega
    rw [this, Nat.add_mul_div_left _ _ hp, Nat.div_eq_of_lt (by omega)]
    omega
 rw [bor_step]
 have hb1 : bor a b k ≤ 1 := by unfold bor; split <;> omega
 generalize (a - b) / 65536 ^ k = x at *
 generalize a / 65536 ^ k = y at *
 generalize b / 65536 ^ k = z at *
 generalize bor a b k = c at *
 split <;> omega
open Go.RowKit Go.Proofs.YtfpcelmekfdafaaGreatDoor.Ow
def iv (l : List Nat) : List Value := l.map fun (d : Nat) => Value.int .i64 (d : Int)
theorem iv_len (l : List Nat) : (iv l).length = l.length := by unfold iv; simp
theorem iv_get {l : List Nat} {j d : Nat} (h : l[j]? = some d) : (iv l)[j]? = some (.int .i64 (d : Int)) := by unfold iv; simp [h]
theorem iv_snoc (l : List Nat) (d : Nat) : iv l ++ [Value.int .i64 (d : Int)] = iv (l ++ [d]) := by unfold iv; simp
theorem iv_one (l : List Nat) : ∀ u ∈ iv l, u.oneCell' = true := by
 intro u hu
 unfold iv at hu
 obtain ⟨x, _, rfl⟩ := List.mem_map.1 hu
 rfl
/-- v is a slice of ints that reads as l -/
def Ns (w : World) (v : Value) (l : List Nat) : Prop := ∃ (A : Option Addr) (c : Nat), v = .slice A l.length c ∧ Rd w A (iv l) ∧ l.length ≤ c
theorem Ns.below {w w' : World} {v : Value} {l : List Nat} (h : Ns w v l) (hb : Below w.heap.size w w') : Ns w' v l := by
 obtain ⟨A, c, h1, h2, h3⟩ := h
 exact ⟨A, c, h1, h2.below hb, h3⟩
theorem Ns.nil (w : World) : Ns w (.slice none 0 0) [] := ⟨none, 0, rfl, Rd.nil _ _, Nat.le_refl _⟩
theorem Ns.owns {w : World} {B : Nat} {E : TypeId} {v : Value} {l : List Nat} (h : Owns w B E v (iv l)) : Ns w v l := by
 obtain ⟨A, c, h1, h2, h3⟩ := h.form
 rw [iv_len] at h1 h3
 exact ⟨A, c, h1, h2, h3⟩
theorem Ns.at_ {w : World} {A : Option Addr} {l : List Nat} (h : Rd w A (iv l)) {j : Nat} (hj : j < l.length) : ∃ b o, A = some ⟨b, o, none⟩ ∧ b < w.heap.size ∧ w.cell? ⟨b, o + j, none⟩ = some (.int .i64 (l[j] : Nat)) := by
 obtain ⟨b, o, h1, h2, h3⟩ := h j _ (iv_get (List.getElem?_eq_getElem hj))
 exact ⟨b, o, h1, h2, h3⟩
theorem Rd.take {w : World} {A : Option Addr} {l : List Nat} (h : Rd w A (iv l)) (k : Nat) : Rd w A (iv (l.take k)) := fun j x hx => by
 refine h j x ?_
 unfold iv at *
 rw [List.map_take, List.getElem?_take] at hx
 split at hx
 · exact hx
 · cases hx
theorem own_grown {w w1 w2 : World} {E : TypeId} {v : Value} {xs : List Value} (h : Below w.heap.size w w1) (ho : Owns w1 w.heap.size E v xs) (hg : w1.grownBy w2 v.ownBlock) : Below w.heap.size w w2 :=
 Below.grown h hg h.size (fun k hk => (ho.lt k hk).1)
theorem own_g {w : World} {B : Nat} {E : TypeId} {g n c : Nat} {xs : List Value} (h : Owns w B E (.slice (some ⟨g, 0, none⟩) n c) xs) : B ≤ g ∧ g < w.heap.size ∧ xs.length = n := by
 obtain ⟨hl, h⟩ := h
 rcases h with ⟨h0, _⟩ | ⟨g', cap, cur, hv, hb, hg, hc, hm, hsz, htk⟩
 · cases h0
 · cases hv
   exact ⟨hb, (Array.getElem?_eq_some_iff.1 hg).1, rfl⟩
theorem own_cell {w : World} {B : Nat} {E : TypeId} {g n c : Nat} {xs : List Value} (h : Owns w B E (.slice (some ⟨g, 0, none⟩) n c) xs) {j : Nat} {x : Value} (hx : xs[j]? = some x) : w.cell? ⟨g, j, none⟩ = some x ∧ w.frozen? ⟨g, j, none⟩ = false := by
 obtain ⟨hl, h⟩ := h
 rcases h with ⟨h0, _⟩ | ⟨g', cap, cur, hv, hb, hg, hc, hm, hsz, htk⟩
 · cases h0
 · cases hv
   refine ⟨?_, frozen_of_row w g j _ _ hg⟩
   rw [cell_of_row w g j _ _ _ hg]
   have := hx
   rw [← htk, List.getElem?_take] at this
   split at this
   · rw [← this, Array.getElem?_toList]
   · cases this
theorem own_set {w : World} {B : Nat} {E : TypeId} {g n c : Nat} {xs : List Value} (h : Owns w B E (.slice (some ⟨g, 0, none⟩) n c) xs) (j : Nat) (y : Value) : Owns (w.setCell ⟨g, j, none⟩ y) B E (.slice (some ⟨g, 0, none⟩) n c) (xs.set j y) := by
 obtain ⟨hl, h⟩ := h
 rcases h with ⟨h0, _⟩ | ⟨g', cap, cur, hv, hb, hg, hc, hm, hsz, htk⟩
 · cases h0
 · cases hv
   refine ⟨by rw [List.length_set]; exact hl, .inr ⟨g, c, cur.setIfInBounds j y, by rw [List.length_set], hb, ?_, by rw [List.length_set]; exact hc, hm, by rw [Array.size_setIfInBounds]; exact hsz, ?_⟩⟩
   · rw [heap_setCell_same w g j _ _ _ hg]
   · rw [List.length_set, Array.toList_setIfInBounds, List.take_set, htk]
theorem own_set_below {w w1 : World} {B : Nat} {E : TypeId} {g n c : Nat} {xs : List Value} (h : Owns w1 B E (.slice (some ⟨g, 0, none⟩) n c) xs) (hb : Below B w w1) (hB : B ≤ w1.heap.size) (j : Nat) (y : Value) : Below B w (w1.setCell ⟨g, j, none⟩ y) :=
 Below.grown hb (Cl.grown_setCell w1 g j y) hB (fun k hk => by cases hk; exact (own_g h).1)
theorem iv_set (l : List Nat) (j d : Nat) : (iv l).set j (.int .i64 (d : Int)) = iv (l.set j d) := by unfold iv; rw [List.map_set]
/-- a slice of n zeros, made -/
theorem make0 {ops : Array Oper} {rest : List Oper} {o : Oper} {a : Act} {w : World} {Q : Exit → Act → World → Prop} (hg : o.guard = none) (l c : Operand) (hop : o.op = Op.makeSlice 38 l c)
 (L C : Int) (n : Nat) (hl : a.eval l = .int .i64 L) (hc : a.eval c = .int .i64 C) (hL : L = (n : Int)) (hC : C = (n : Int)) (hn : n ≤ 1000000)
 (hK : ∀ w', Owns w' w.heap.size 3 (.slice (some ⟨w.heap.size, 0, none⟩) n n) (iv (lo n 0)) → w.grownBy w' none → wpList Tryz.prog ops Q rest (a.put o.dst (.slice (some ⟨w.heap.size, 0, none⟩) n n)) w') :
 wpList Tryz.prog ops Q (o :: rest) a w := by
 obtain ⟨i, hi, hz, hs, hb⟩ := info_parts (show (Tryz.prog.info? 3).map (fun i => (i.zero, i.size, i.bytes)) = some (some (.int .i64 0), 1, 8) by kernel_rfl)
 refine wpList_make_full w hg l c 38 hop w.heap.size 3 i (.int .i64 0) 1 Tryz.underlying38 hi hz hs .i64 .i64 L C n hl hc hL hC (by rw [hb]; omega) (by unfold maxLen; omega) (Nat.le_refl _) ?_
 intro w' h1 h2
 refine hK w' ?_ h2
 have e : (madeCells (Value.int .i64 0).cells (n * 1)).toList = iv (lo n 0) := by
  rw [lo_zero, Nat.mul_one]
  unfold iv madeCells
  apply List.ext_getElem?
  intro j
  by_cases hj : j < n
  · simp [Value.cells, hj, Nat.mod_one]
  · simp [Value.cells, hj]
 rw [e] at h1
 have hl2 : (iv (lo n 0)).length = n := by rw [iv_len, lo_len]
 unfold Owns
 rw [hl2]
 exact h1
theorem trim_take0 {l : List Nat} {k : Nat} (hk : k < l.length) (h0 : l[k] = 0) : trimL (l.take (k + 1)) = trimL (l.take k) := by
 rw [List.take_add_one, List.getElem?_eq_getElem hk, h0]
 exact trim_snoc0 _
theorem trim_take1 {l : List Nat} {k : Nat} (hk : k < l.length) (h0 : l[k] ≠ 0) : trimL (l.take (k + 1)) = l.take (k + 1) := by
 rw [List.take_add_one, List.getElem?_eq_getElem hk]
 exact trim_snoc h0 _
theorem trim_any (w : World) (v : Value) (l : List Nat) (h : Ns w v l) (hn : l.length ≤ 1000000) :
 Calls Tryz.prog 59 #[v] w fun e w' => (∃ u, e = .returned u ∧ Ns w u (trimL l)) ∧ w = w' := by
 obtain ⟨A, c, rfl, hR, hc⟩ := h
 obtain ⟨n, hnl⟩ : ∃ n, l.length = n := ⟨_, rfl⟩
 have HR := ϕ hR
 have HLN := ϕ hnl
 have HT := ϕ (show trimL l = trimL (l.take n) by rw [← hnl, List.take_length])
 rw [hnl] at hc hn ⊢
 clear hR hnl
 go_enter Tryz.func59, Tryz.ntmps59
 go_wp2
 go_loopw [3] (fun i wr => ∃ k : Nat, k ≤ n ∧ i = .int .i64 k ∧ trimL l = trimL (l.take k) ∧ w = wr) (fun i _ => (intOf i).toNat)
 case atStart => exact ⟨n, Nat.le_refl _, rfl, HT.out, rfl⟩
 case round =>
  obtain ⟨k, hk, rfl, ht, rfl⟩ := hrel
  clear HT
  have HT := ϕ ht
  clear ht
  by_cases h0 : k = 0
  · subst h0
    have HN := ϕ (show Ns w (.slice A 0 c) (trimL l) from by rw [HT.out]; exact ⟨A, c, rfl, Rd.nil _ _, Nat.zero_le _⟩)
    go_wp2
    go_ret
    exact ⟨⟨_, rfl, HN.out⟩, rfl⟩
  · obtain ⟨m, rfl⟩ : ∃ m, k = m + 1 := ⟨k - 1, by omega⟩
    have hmk : m < l.length := by have := HLN.out; omega
    obtain ⟨b, o, hA, hl, hcell⟩ := Ns.at_ HR.out hmk
    subst hA
    by_cases hd : l[m] = 0
    · have HN := ϕ (show trimL l = trimL (l.take m) by rw [HT.out, trim_take0 hmk hd])
      have hz : ((l[m] : Nat) : Int) = 0 := by omega
      rw [hz] at hcell
      have hgt : (0 : Int) < (m : Int) + 1 := by omega
      clear HT hz hd
      go_wp2_with fail
      go_roundw
      case rel =>
       have REL := ϕ (show ∃ k' : Nat, k' ≤ n ∧ Value.int .i64 (m : Int) = .int .i64 k' ∧ trimL l = trimL (l.take k') ∧ w = w from ⟨m, by omega, rfl, HN.out, rfl⟩)
       first
        | exact REL.out
        | exact ⟨m, by omega, rfl, HN.out, trivial⟩
        | ((repeat apply Exists.intro); refine ⟨?_, rfl⟩; exact REL.out)
      case measure => (first | (simp [intOf]; done) | (simp [intOf]; omega))
    · have HN := ϕ (show Ns w (.slice (some ⟨b, o, none⟩) (m + 1) c) (trimL l) from by
       have e : trimL l = l.take (m + 1) := by rw [HT.out]; exact trim_take1 hmk hd
       have e2 : (l.take (m + 1)).length = m + 1 := by rw [List.length_take]; omega
       rw [e]
       exact ⟨some ⟨b, o, none⟩, c, by rw [e2], Rd.take HR.out (m + 1), by rw [e2]; omega⟩)
      have hz : (((l[m] : Nat) : Int) == 0) = false := by rw [beq_eq_false_iff_ne]; omega
      have hgt : (0 : Int) < (m : Int) + 1 := by omega
      clear HT hd
      go_wp2_with fail
      go_ret
      exact ⟨⟨_, rfl, HN.out⟩, rfl⟩
theorem Small_any (w : World) (n : Nat) (hn : n < 9223372036854775808) :
 Calls Tryz.prog 41 #[.int .i64 n] w fun e w' => (∃ u, e = .returned u ∧ Ns w' u (dig n)) ∧ Below w.heap.size w w' := by
 have HON := ϕ (show Owns (w.alloc (.cells #[] 3)) w.heap.size 3 (.slice (some ⟨w.heap.size, 0, none⟩) 0 0) (iv []) from Owns.new w w.heap.size 3 [] (Nat.le_refl _) (by decide))
 have HBA := ϕ (show Below w.heap.size w (w.alloc (.cells #[] 3)) from (Below.refl _ _).alloc (Nat.le_refl _) _)
 have HDL := ϕ (show (dig n).length ≤ 4 from dig_len_le (by omega))
 go_enter Tryz.func41, Tryz.ntmps41
 go_wp2
 go_loopw [0, 3] (fun x v wr => ∃ (y : Nat) (l : List Nat), x = .int .i64 y ∧ y ≤ n ∧ Owns wr w.heap.size 3 v (iv l) ∧ dig n = l ++ dig y ∧ Below w.heap.size w wr) (fun x _ _ => (intOf x).toNat)
 case atStart => exact ⟨n, [], rfl, Nat.le_refl _, HON.out, rfl, HBA.out⟩
 case round =>
  obtain ⟨y, l, rfl, hy, hO, hD, hB⟩ := hrel
  clear HON HBA
  have HO := ϕ hO
  have HD := ϕ hD
  have HB := ϕ hB
  have HSB := ϕ hB.size
  clear hO hD hB
  by_cases h0 : y = 0
  · subst h0
    have HN := ϕ (show Ns wr u3 (dig n) from by rw [HD.out, dig_zero, List.append_nil]; exact Ns.owns HO.out)
    go_wp2_with fail
    go_ret
    exact ⟨⟨_, rfl, HN.out⟩, HB.out⟩
  · have hgt : (0 : Int) < (y : Int) := by omega
    have hrm : IntKind.i64.wrap ((y : Int) % 65536) = ((y % 65536 : Nat) : Int) := by simp [IntKind.wrap, IntKind.bits, IntKind.signed]; omega
    have HD2 := ϕ (show dig n = (l ++ [y % 65536]) ++ dig (y / 65536) by rw [HD.out, dig_pos h0, List.append_assoc]; rfl)
    have HLE := ϕ (show (iv l).length ≤ 4 by rw [iv_len]; have h1 := HDL.out; rw [HD.out, List.length_append] at h1; omega)
    clear HD
    go_wp2_with (refine app1 rfl _ _ 38 rfl (E := 3) (z := .int .i64 0) (by' := 8) rfl rfl rfl (by decide) HO.out rfl rfl rfl (by have h1 := HLE.out; omega) HSB.out ?_; rintro v6 w6 h2 h3 h4; have HO6 := ϕ h2; have HB6 := ϕ (own_grown HB.out HO.out h3); clear h2 h3 h4)
    go_roundw
    case rel =>
     have REL := ϕ (show ∃ (y2 : Nat) (l2 : List Nat), Value.int .i64 ((y : Int) / 65536) = .int .i64 y2 ∧ y2 ≤ n ∧ Owns w6 w.heap.size 3 v6 (iv l2) ∧ dig n = l2 ++ dig y2 ∧ Below w.heap.size w w6 from ⟨y / 65536, l ++ [y % 65536], by congr 1, by omega, by rw [← iv_snoc]; exact HO6.out, HD2.out, HB6.out⟩)
     first
      | exact REL.out
      | ((repeat apply Exists.intro); refine ⟨?_, rfl⟩; exact REL.out)
    case measure => (first | (simp [intOf]; done) | (simp [intOf]; omega))
theorem car_big (a b k n1 n2 : Nat) (e1 : a < 65536 ^ n1) (e2 : b < 65536 ^ n2) : n1 + n2 + 1 ≤ k → car a b k = 0 := fun hk => by
 obtain ⟨m, hm⟩ : ∃ m, m = n1 + n2 := ⟨_, rfl⟩
 have g1 : a < 65536 ^ m := Nat.lt_of_lt_of_le e1 (Nat.pow_le_pow_right (by decide) (by omega))
 have g2 : b < 65536 ^ m := Nat.lt_of_lt_of_le e2 (Nat.pow_le_pow_right (by decide) (by omega))
 have g3 : 65536 ^ (m + 1) ≤ 65536 ^ k := Nat.pow_le_pow_right (by decide) (by omega)
 rw [Nat.pow_succ] at g3
 unfold car
 rw [Nat.mod_eq_of_lt (by omega), Nat.mod_eq_of_lt (by omega)]
 exact Nat.div_eq_of_lt (by omega)
theorem Add_gen (w : World) (v1 v2 : Value) (a b n1 n2 : Nat) (h1 : Ns w v1 (lo n1 a)) (h2 : Ns w v2 (lo n2 b)) (ea : a < 65536 ^ n1) (eb : b < 65536 ^ n2) (ha : n1 ≤ 10000) (hb : n2 ≤ 10000) :
 Calls Tryz.prog 67 #[v1, v2] w fun e w' => (∃ u, e = .returned u ∧ Ns w' u (dig (a + b))) ∧ Below w.heap.size w w' := by
 obtain ⟨A1, c1, rfl, hR1, hc1⟩ := h1
 obtain ⟨A2, c2, rfl, hR2, hc2⟩ := h2
 have HR1 := ϕ hR1
 have HR2 := ϕ hR2
 have HL1 := ϕ (lo_len n1 a)
 have HL2 := ϕ (lo_len n2 b)
 have HA := ϕ ea
 have HBB := ϕ eb
 rw [lo_len] at hc1 hc2 ⊢
 rw [lo_len]
 have HON := ϕ (show Owns (w.alloc (.cells #[] 3)) w.heap.size 3 (.slice (some ⟨w.heap.size, 0, none⟩) 0 0) (iv (lo 0 (a + b))) from Owns.new w w.heap.size 3 [] (Nat.le_refl _) (by decide))
 have HBA := ϕ (show Below w.heap.size w (w.alloc (.cells #[] 3)) from (Below.refl _ _).alloc (Nat.le_refl _) _)
 clear hR1 hR2 ea eb
 go_enter Tryz.func67, Tryz.ntmps67
 go_wp2
 go_loopw [5, 6, 7] (fun v c i wr => ∃ k cc : Nat, i = .int .i64 k ∧ c = .int .i64 cc ∧ k ≤ n1 + n2 + 2 ∧ cc ≤ 1 ∧ car a b k = cc ∧ Owns wr w.heap.size 3 v (iv (lo k (a + b))) ∧ Below w.heap.size w wr) (fun _ _ i _ => n1 + n2 + 2 - (intOf i).toNat)
 case atStart => exact ⟨0, 0, rfl, rfl, by omega, by omega, car_zero a b, HON.out, HBA.out⟩
 case round =>
  obtain ⟨k, cc, rfl, rfl, hk, hcc, hC, hO, hB⟩ := hrel
  clear HON HBA
  have HC := ϕ hC
  have HO := ϕ hO
  have HB := ϕ hB
  have HSB := ϕ hB.size
  have HLE := ϕ (show (iv (lo k (a + b))).length ≤ 30000 by rw [iv_len, lo_len]; omega)
  clear hC hO hB
  by_cases g1 : k < n1
  · by_cases g2 : k < n2
    · have hd1 : decide ((k : Int) < (n1 : Int)) = true := by rw [decide_eq_true_iff]; omega
      have hi1 : (k : Int) < (n1 : Int) := by omega
      have hd2 : decide ((k : Int) < (n2 : Int)) = true := by rw [decide_eq_true_iff]; omega
      have hi2 : (k : Int) < (n2 : Int) := by omega
      obtain ⟨b1, o1, hA1, hl1, hcell1⟩ := Ns.at_ HR1.out (show k < (lo n1 a).length by have := HL1.out; omega)
      obtain ⟨x1, hx1⟩ : ∃ x, x = (a / 65536 ^ k % 65536) := ⟨_, rfl⟩
      have hxl1 : x1 < 65536 := by omega
      have HX1 := ϕ hx1
      rw [show (lo n1 a)[k]'(by have := HL1.out; omega) = x1 from by have := lo_get n1 a k (by omega); rw [List.getElem?_eq_getElem (by have := HL1.out; omega)] at this; rw [hx1]; exact Option.some.inj this] at hcell1
      replace hcell1 : wr.cell? ⟨b1, o1 + k, none⟩ = some (.int .i64 (x1 : Nat)) := by rw [← hcell1]; exact HB.out.cell (p := ⟨b1, o1 + k, none⟩) hl1
      subst hA1
      clear hx1
      obtain ⟨b2, o2, hA2, hl2, hcell2⟩ := Ns.at_ HR2.out (show k < (lo n2 b).length by have := HL2.out; omega)
      obtain ⟨x2, hx2⟩ : ∃ x, x = (b / 65536 ^ k % 65536) := ⟨_, rfl⟩
      have hxl2 : x2 < 65536 := by omega
      have HX2 := ϕ hx2
      rw [show (lo n2 b)[k]'(by have := HL2.out; omega) = x2 from by have := lo_get n2 b k (by omega); rw [List.getElem?_eq_getElem (by have := HL2.out; omega)] at this; rw [hx2]; exact Option.some.inj this] at hcell2
      replace hcell2 : wr.cell? ⟨b2, o2 + k, none⟩ = some (.int .i64 (x2 : Nat)) := by rw [← hcell2]; exact HB.out.cell (p := ⟨b2, o2 + k, none⟩) hl2
      subst hA2
      clear hx2
      have HN := ϕ (show lo (k + 1) (a + b) = lo k (a + b) ++ [(cc + x1 + x2) % 65536] ∧ car a b (k + 1) = (cc + x1 + x2) / 65536 by
       refine ⟨?_, ?_⟩
       · rw [lo_snoc, car_digit, HC.out, ← HX1.out, ← HX2.out]
         try rfl
       · rw [car_step, HC.out, ← HX1.out, ← HX2.out]
         try rfl)
      have hms : k < n1 + n2 + 2 := by omega
      clear HC HX1 HX2
      go_wp2_with (refine app1 rfl _ _ 38 rfl (E := 3) (z := .int .i64 0) (by' := 8) rfl rfl rfl (by decide) HO.out rfl rfl rfl (by have h1 := HLE.out; omega) HSB.out ?_; rintro v6 w6 h2 h3 h4; have HO6 := ϕ h2; have HB6 := ϕ (own_grown HB.out HO.out h3); clear h2 h3 h4)
      go_roundw
      case rel =>
       have REL := ϕ (show ∃ k2 c2 : Nat, Value.int .i64 ((k : Int) + 1) = .int .i64 k2 ∧ Value.int .i64 (((cc : Int) + (x1 : Int) + (x2 : Int)) / 65536) = .int .i64 c2 ∧ k2 ≤ n1 + n2 + 2 ∧ c2 ≤ 1 ∧ car a b k2 = c2 ∧ Owns w6 w.heap.size 3 v6 (iv (lo k2 (a + b))) ∧ Below w.heap.size w w6 from ⟨k + 1, (cc + x1 + x2) / 65536, by go_num, by congr 1, by omega, by omega, HN.out.2, by rw [HN.out.1, ← iv_snoc]; exact HO6.out, HB6.out⟩)
       first
        | exact REL.out
        | ((repeat apply Exists.intro); refine ⟨?_, rfl⟩; exact REL.out)
      case measure => (first | (simp [intOf]; done) | (simp [intOf]; omega))
    · have hd1 : decide ((k : Int) < (n1 : Int)) = true := by rw [decide_eq_true_iff]; omega
      have hi1 : (k : Int) < (n1 : Int) := by omega
      have hd2 : decide ((k : Int) < (n2 : Int)) = false := by rw [decide_eq_false_iff_not]; omega
      have hi2 : ¬ (k : Int) < (n2 : Int) := by omega
      obtain ⟨b1, o1, hA1, hl1, hcell1⟩ := Ns.at_ HR1.out (show k < (lo n1 a).length by have := HL1.out; omega)
      obtain ⟨x1, hx1⟩ : ∃ x, x = (a / 65536 ^ k % 65536) := ⟨_, rfl⟩
      have hxl1 : x1 < 65536 := by omega
      have HX1 := ϕ hx1
      rw [show (lo n1 a)[k]'(by have := HL1.out; omega) = x1 from by have := lo_get n1 a k (by omega); rw [List.getElem?_eq_getElem (by have := HL1.out; omega)] at this; rw [hx1]; exact Option.some.inj this] at hcell1
      replace hcell1 : wr.cell? ⟨b1, o1 + k, none⟩ = some (.int .i64 (x1 : Nat)) := by rw [← hcell1]; exact HB.out.cell (p := ⟨b1, o1 + k, none⟩) hl1
      subst hA1
      clear hx1
      obtain ⟨x2, hx2⟩ : ∃ x, x = (b / 65536 ^ k % 65536) := ⟨_, rfl⟩
      have hx02 : x2 = 0 := by rw [hx2]; exact big_digit (Nat.lt_of_lt_of_le HBB.out (Nat.pow_le_pow_right (by decide) (by omega)))
      have HX2 := ϕ hx2
      clear hx2
      have HN := ϕ (show lo (k + 1) (a + b) = lo k (a + b) ++ [(cc + x1) % 65536] ∧ car a b (k + 1) = (cc + x1) / 65536 by
       refine ⟨?_, ?_⟩
       · rw [lo_snoc, car_digit, HC.out, ← HX1.out, ← HX2.out]
         try simp only [hx02, Nat.add_zero]
       · rw [car_step, HC.out, ← HX1.out, ← HX2.out]
         try simp only [hx02, Nat.add_zero])
      have hms : k < n1 + n2 + 2 := by omega
      clear hx02
      clear HC HX1 HX2
      go_wp2_with (refine app1 rfl _ _ 38 rfl (E := 3) (z := .int .i64 0) (by' := 8) rfl rfl rfl (by decide) HO.out rfl rfl rfl (by have h1 := HLE.out; omega) HSB.out ?_; rintro v6 w6 h2 h3 h4; have HO6 := ϕ h2; have HB6 := ϕ (own_grown HB.out HO.out h3); clear h2 h3 h4)
      go_roundw
      case rel =>
       have REL := ϕ (show ∃ k2 c2 : Nat, Value.int .i64 ((k : Int) + 1) = .int .i64 k2 ∧ Value.int .i64 (((cc : Int) + (x1 : Int)) / 65536) = .int .i64 c2 ∧ k2 ≤ n1 + n2 + 2 ∧ c2 ≤ 1 ∧ car a b k2 = c2 ∧ Owns w6 w.heap.size 3 v6 (iv (lo k2 (a + b))) ∧ Below w.heap.size w w6 from ⟨k + 1, (cc + x1) / 65536, by go_num, by congr 1, by omega, by omega, HN.out.2, by rw [HN.out.1, ← iv_snoc]; exact HO6.out, HB6.out⟩)
       first
        | exact REL.out
        | ((repeat apply Exists.intro); refine ⟨?_, rfl⟩; exact REL.out)
      case measure => (first | (simp [intOf]; done) | (simp [intOf]; omega))
  · by_cases g2 : k < n2
    · have hd1 : decide ((k : Int) < (n1 : Int)) = false := by rw [decide_eq_false_iff_not]; omega
      have hi1 : ¬ (k : Int) < (n1 : Int) := by omega
      have hd2 : decide ((k : Int) < (n2 : Int)) = true := by rw [decide_eq_true_iff]; omega
      have hi2 : (k : Int) < (n2 : Int) := by omega
      obtain ⟨x1, hx1⟩ : ∃ x, x = (a / 65536 ^ k % 65536) := ⟨_, rfl⟩
      have hx01 : x1 = 0 := by rw [hx1]; exact big_digit (Nat.lt_of_lt_of_le HA.out (Nat.pow_le_pow_right (by decide) (by omega)))
      have HX1 := ϕ hx1
      clear hx1
      obtain ⟨b2, o2, hA2, hl2, hcell2⟩ := Ns.at_ HR2.out (show k < (lo n2 b).length by have := HL2.out; omega)
      obtain ⟨x2, hx2⟩ : ∃ x, x = (b / 65536 ^ k % 65536) := ⟨_, rfl⟩
      have hxl2 : x2 < 65536 := by omega
      have HX2 := ϕ hx2
      rw [show (lo n2 b)[k]'(by have := HL2.out; omega) = x2 from by have := lo_get n2 b k (by omega); rw [List.getElem?_eq_getElem (by have := HL2.out; omega)] at this; rw [hx2]; exact Option.some.inj this] at hcell2
      replace hcell2 : wr.cell? ⟨b2, o2 + k, none⟩ = some (.int .i64 (x2 : Nat)) := by rw [← hcell2]; exact HB.out.cell (p := ⟨b2, o2 + k, none⟩) hl2
      subst hA2
      clear hx2
      have HN := ϕ (show lo (k + 1) (a + b) = lo k (a + b) ++ [(cc + x2) % 65536] ∧ car a b (k + 1) = (cc + x2) / 65536 by
       refine ⟨?_, ?_⟩
       · rw [lo_snoc, car_digit, HC.out, ← HX1.out, ← HX2.out]
         try simp only [hx01, Nat.add_zero]
       · rw [car_step, HC.out, ← HX1.out, ← HX2.out]
         try simp only [hx01, Nat.add_zero])
      have hms : k < n1 + n2 + 2 := by omega
      clear hx01
      clear HC HX1 HX2
      go_wp2_with (refine app1 rfl _ _ 38 rfl (E := 3) (z := .int .i64 0) (by' := 8) rfl rfl rfl (by decide) HO.out rfl rfl rfl (by have h1 := HLE.out; omega) HSB.out ?_; rintro v6 w6 h2 h3 h4; have HO6 := ϕ h2; have HB6 := ϕ (own_grown HB.out HO.out h3); clear h2 h3 h4)
      go_roundw
      case rel =>
       have REL := ϕ (show ∃ k2 c2 : Nat, Value.int .i64 ((k : Int) + 1) = .int .i64 k2 ∧ Value.int .i64 (((cc : Int) + (x2 : Int)) / 65536) = .int .i64 c2 ∧ k2 ≤ n1 + n2 + 2 ∧ c2 ≤ 1 ∧ car a b k2 = c2 ∧ Owns w6 w.heap.size 3 v6 (iv (lo k2 (a + b))) ∧ Below w.heap.size w w6 from ⟨k + 1, (cc + x2) / 65536, by go_num, by congr 1, by omega, by omega, HN.out.2, by rw [HN.out.1, ← iv_snoc]; exact HO6.out, HB6.out⟩)
       first
        | exact REL.out
        | ((repeat apply Exists.intro); refine ⟨?_, rfl⟩; exact REL.out)
      case measure => (first | (simp [intOf]; done) | (simp [intOf]; omega))
    · by_cases g3 : cc = 0
      · subst g3
        have hd1 : decide ((k : Int) < (n1 : Int)) = false := by rw [decide_eq_false_iff_not]; omega
        have hi1 : ¬ (k : Int) < (n1 : Int) := by omega
        have hd2 : decide ((k : Int) < (n2 : Int)) = false := by rw [decide_eq_false_iff_not]; omega
        have hi2 : ¬ (k : Int) < (n2 : Int) := by omega
        have HNS := ϕ (Ns.owns HO.out)
        have HT := ϕ (show trimL (lo k (a + b)) = dig (a + b) from by
         have e1 := HA.out
         have e2 := HBB.out
         exact trim_lo _ _ (car_end (Nat.lt_of_lt_of_le e1 (Nat.pow_le_pow_right (by decide) (by omega))) (Nat.lt_of_lt_of_le e2 (Nat.pow_le_pow_right (by decide) (by omega))) HC.out))
        have HTR := ϕ (trim_any wr u5 _ HNS.out (by rw [lo_len]; omega))
        clear HC
        go_wp2_with (go_at_call 59; refine HTR.out.mono ?_; rintro e w7 ⟨⟨u, rfl, h7⟩, rfl⟩; have H7 := ϕ h7; clear h7)
        go_ret
        exact ⟨⟨_, rfl, HT.out ▸ H7.out⟩, HB.out⟩
      · have hd1 : decide ((k : Int) < (n1 : Int)) = false := by rw [decide_eq_false_iff_not]; omega
        have hi1 : ¬ (k : Int) < (n1 : Int) := by omega
        have hd2 : decide ((k : Int) < (n2 : Int)) = false := by rw [decide_eq_false_iff_not]; omega
        have hi2 : ¬ (k : Int) < (n2 : Int) := by omega
        obtain ⟨x1, hx1⟩ : ∃ x, x = (a / 65536 ^ k % 65536) := ⟨_, rfl⟩
        have hx01 : x1 = 0 := by rw [hx1]; exact big_digit (Nat.lt_of_lt_of_le HA.out (Nat.pow_le_pow_right (by decide) (by omega)))
        have HX1 := ϕ hx1
        clear hx1
        obtain ⟨x2, hx2⟩ : ∃ x, x = (b / 65536 ^ k % 65536) := ⟨_, rfl⟩
        have hx02 : x2 = 0 := by rw [hx2]; exact big_digit (Nat.lt_of_lt_of_le HBB.out (Nat.pow_le_pow_right (by decide) (by omega)))
        have HX2 := ϕ hx2
        clear hx2
        have hc0 : (0 : Int) < (cc : Int) := by omega
        have hcd : decide ((0 : Int) < (cc : Int)) = true := by rw [decide_eq_true_iff]; omega
        have HN := ϕ (show lo (k + 1) (a + b) = lo k (a + b) ++ [(cc) % 65536] ∧ car a b (k + 1) = (cc) / 65536 by
         refine ⟨?_, ?_⟩
         · rw [lo_snoc, car_digit, HC.out, ← HX1.out, ← HX2.out]
           try simp only [hx01, hx02, Nat.add_zero]
         · rw [car_step, HC.out, ← HX1.out, ← HX2.out]
           try simp only [hx01, hx02, Nat.add_zero])
        have hms : k < n1 + n2 + 2 := by have := car_big a b k n1 n2 HA.out HBB.out; rw [HC.out] at this; omega
        clear hx01
        clear hx02
        clear HC HX1 HX2
        go_wp2_with (refine app1 rfl _ _ 38 rfl (E := 3) (z := .int .i64 0) (by' := 8) rfl rfl rfl (by decide) HO.out rfl rfl rfl (by have h1 := HLE.out; omega) HSB.out ?_; rintro v6 w6 h2 h3 h4; have HO6 := ϕ h2; have HB6 := ϕ (own_grown HB.out HO.out h3); clear h2 h3 h4)
        go_roundw
        case rel =>
         have REL := ϕ (show ∃ k2 c2 : Nat, Value.int .i64 ((k : Int) + 1) = .int .i64 k2 ∧ Value.int .i64 (((cc : Int)) / 65536) = .int .i64 c2 ∧ k2 ≤ n1 + n2 + 2 ∧ c2 ≤ 1 ∧ car a b k2 = c2 ∧ Owns w6 w.heap.size 3 v6 (iv (lo k2 (a + b))) ∧ Below w.heap.size w w6 from ⟨k + 1, (cc) / 65536, by go_num, by congr 1, by omega, by omega, HN.out.2, by rw [HN.out.1, ← iv_snoc]; exact HO6.out, HB6.out⟩)
         first
          | exact REL.out
          | ((repeat apply Exists.intro); refine ⟨?_, rfl⟩; exact REL.out)
        case measure => (first | (simp [intOf]; done) | (simp [intOf]; omega))
theorem Add_any (w : World) (v1 v2 : Value) (a b : Nat) (h1 : Ns w v1 (dig a)) (h2 : Ns w v2 (dig b)) (ha : (dig a).length ≤ 10000) (hb : (dig b).length ≤ 10000) :
 Calls Tryz.prog 67 #[v1, v2] w fun e w' => (∃ u, e = .returned u ∧ Ns w' u (dig (a + b))) ∧ Below w.heap.size w w' := by
 rw [dig_lo a] at h1
 rw [dig_lo b] at h2
 exact Add_gen w v1 v2 a b _ _ h1 h2 (dig_lt a) (dig_lt b) ha hb
theorem Sub_any (w : World) (v1 v2 : Value) (a b : Nat) (h1 : Ns w v1 (dig a)) (h2 : Ns w v2 (dig b)) (hab : b ≤ a) (ha : (dig a).length ≤ 10000) :
 Calls Tryz.prog 73 #[v1, v2] w fun e w' => (∃ u, e = .returned u ∧ Ns w' u (dig (a - b))) ∧ Below w.heap.size w w' := by
 have hlb : (dig b).length ≤ (dig a).length := Nat.le_of_not_lt fun h => by have := dig_len_lt h; omega
 obtain ⟨A1, c1, rfl, hR1, hc1⟩ := h1
 obtain ⟨A2, c2, rfl, hR2, hc2⟩ := h2
 obtain ⟨n1, hn1⟩ : ∃ n, (dig a).length = n := ⟨_, rfl⟩
 obtain ⟨n2, hn2⟩ : ∃ n, (dig b).length = n := ⟨_, rfl⟩
 have HR1 := ϕ hR1
 have HR2 := ϕ hR2
 have HL1 := ϕ hn1
 have HL2 := ϕ hn2
 have HAB := ϕ hab
 rw [hn1] at hc1 ha hlb ⊢
 rw [hn2] at hc2 hlb ⊢
 have HON := ϕ (show Owns (w.alloc (.cells #[] 3)) w.heap.size 3 (.slice (some ⟨w.heap.size, 0, none⟩) 0 0) (iv (lo 0 (a - b))) from Owns.new w w.heap.size 3 [] (Nat.le_refl _) (by decide))
 have HBA := ϕ (show Below w.heap.size w (w.alloc (.cells #[] 3)) from (Below.refl _ _).alloc (Nat.le_refl _) _)
 clear hR1 hR2 hn1 hn2 hab
 go_enter Tryz.func73, Tryz.ntmps73
 go_wp2
 go_loopw [5, 6, 7, 8, 12] (fun v c _ _ i wr => ∃ k cc : Nat, i = .int .i64 k ∧ c = .int .i64 cc ∧ k ≤ n1 ∧ cc ≤ 1 ∧ bor a b k = cc ∧ Owns wr w.heap.size 3 v (iv (lo k (a - b))) ∧ Below w.heap.size w wr) (fun _ _ _ _ i _ => n1 - (intOf i).toNat)
 case atStart => exact ⟨0, 0, rfl, rfl, by omega, by omega, bor_zero a b, HON.out, HBA.out⟩
 case round =>
  obtain ⟨k, cc, rfl, rfl, hk, hcc, hC, hO, hB⟩ := hrel
  clear HON HBA
  have HC := ϕ hC
  have HO := ϕ hO
  have HB := ϕ hB
  have HSB := ϕ hB.size
  have HLE := ϕ (show (iv (lo k (a - b))).length ≤ 30000 by rw [iv_len, lo_len]; omega)
  clear hC hO hB
  by_cases g1 : k < n1
  · by_cases g2 : k < n2
    · have hik : (k : Int) < (n1 : Int) := by omega
      have hdk : decide ((k : Int) < (n1 : Int)) = true := by rw [decide_eq_true_iff]; omega
      obtain ⟨b1, o1, hA1, hl1, hcell1⟩ := Ns.at_ HR1.out (show k < (dig a).length by have := HL1.out; omega)
      obtain ⟨x1, hx1⟩ : ∃ x, x = a / 65536 ^ k % 65536 := ⟨_, rfl⟩
      have hxl1 : x1 < 65536 := by omega
      have HX1 := ϕ hx1
      rw [show (dig a)[k]'(by have := HL1.out; omega) = x1 from by have := dig_get (n := a) (i := k) (by have := HL1.out; omega); rw [List.getElem?_eq_getElem (by have := HL1.out; omega)] at this; rw [hx1]; exact Option.some.inj this] at hcell1
      replace hcell1 : wr.cell? ⟨b1, o1 + k, none⟩ = some (.int .i64 (x1 : Nat)) := by rw [← hcell1]; exact HB.out.cell (p := ⟨b1, o1 + k, none⟩) hl1
      subst hA1
      clear hx1
      have hd2 : decide ((k : Int) < (n2 : Int)) = true := by rw [decide_eq_true_iff]; omega
      have hi2 : (k : Int) < (n2 : Int) := by omega
      obtain ⟨b2, o2, hA2, hl2, hcell2⟩ := Ns.at_ HR2.out (show k < (dig b).length by have := HL2.out; omega)
      obtain ⟨x2, hx2⟩ : ∃ x, x = b / 65536 ^ k % 65536 := ⟨_, rfl⟩
      have hxl2 : x2 < 65536 := by omega
      have HX2 := ϕ hx2
      rw [show (dig b)[k]'(by have := HL2.out; omega) = x2 from by have := dig_get (n := b) (i := k) (by have := HL2.out; omega); rw [List.getElem?_eq_getElem (by have := HL2.out; omega)] at this; rw [hx2]; exact Option.some.inj this] at hcell2
      replace hcell2 : wr.cell? ⟨b2, o2 + k, none⟩ = some (.int .i64 (x2 : Nat)) := by rw [← hcell2]; exact HB.out.cell (p := ⟨b2, o2 + k, none⟩) hl2
      subst hA2
      clear hx2
      by_cases hneg : (x1 : Int) - (cc : Int) - (x2 : Int) < 0
      · have hdn : decide ((x1 : Int) - (cc : Int) - (x2 : Int) < 0) = true := by rw [decide_eq_true_iff]; exact hneg
        have HN := ϕ (show lo (k + 1) (a - b) = lo k (a - b) ++ [x1 + 65536 - cc - x2] ∧ bor a b (k + 1) = 1 by
         have h1 : bor a b (k + 1) = 1 := by rw [bor_step, HC.out, ← HX1.out, ← HX2.out, if_pos (by omega)]
         refine ⟨?_, h1⟩
         rw [lo_snoc, bor_digit HAB.out, h1, HC.out, ← HX1.out, ← HX2.out, Nat.mul_one])
        have HG := ϕ (show (x1 : Int) - (cc : Int) - (x2 : Int) + 65536 = ((x1 + 65536 - cc - x2 : Nat) : Int) by omega)
        clear HC HX1 HX2
        go_wp2_with (refine app1 rfl _ _ 38 rfl (E := 3) (z := .int .i64 0) (by' := 8) rfl rfl rfl (by decide) HO.out rfl rfl rfl (by have h1 := HLE.out; omega) HSB.out ?_; rintro v6 w6 h2 h3 h4; have HO6 := ϕ h2; have HB6 := ϕ (own_grown HB.out HO.out h3); clear h2 h3 h4)
        go_roundw
        case rel =>
         have REL := ϕ (show ∃ k2 c2 : Nat, Value.int .i64 ((k : Int) + 1) = .int .i64 k2 ∧ Value.int .i64 1 = .int .i64 c2 ∧ k2 ≤ n1 ∧ c2 ≤ 1 ∧ bor a b k2 = c2 ∧ Owns w6 w.heap.size 3 v6 (iv (lo k2 (a - b))) ∧ Below w.heap.size w w6 from ⟨k + 1, 1, by go_num, rfl, by omega, by omega, HN.out.2, by rw [HN.out.1, ← iv_snoc, ← HG.out]; exact HO6.out, HB6.out⟩)
         first
          | exact REL.out
          | ((repeat apply Exists.intro); refine ⟨?_, rfl⟩; exact REL.out)
        case measure => (first | (simp [intOf]; done) | (simp [intOf]; omega))
      · have hdn : decide ((x1 : Int) - (cc : Int) - (x2 : Int) < 0) = false := by rw [decide_eq_false_iff_not]; exact hneg
        have HN := ϕ (show lo (k + 1) (a - b) = lo k (a - b) ++ [x1 - cc - x2] ∧ bor a b (k + 1) = 0 by
         have h1 : bor a b (k + 1) = 0 := by rw [bor_step, HC.out, ← HX1.out, ← HX2.out, if_neg (by omega)]
         refine ⟨?_, h1⟩
         rw [lo_snoc, bor_digit HAB.out, h1, HC.out, ← HX1.out, ← HX2.out, Nat.mul_zero, Nat.add_zero])
        have HG := ϕ (show (x1 : Int) - (cc : Int) - (x2 : Int) = ((x1 - cc - x2 : Nat) : Int) by omega)
        clear HC HX1 HX2
        go_wp2_with (refine app1 rfl _ _ 38 rfl (E := 3) (z := .int .i64 0) (by' := 8) rfl rfl rfl (by decide) HO.out rfl rfl rfl (by have h1 := HLE.out; omega) HSB.out ?_; rintro v6 w6 h2 h3 h4; have HO6 := ϕ h2; have HB6 := ϕ (own_grown HB.out HO.out h3); clear h2 h3 h4)
        go_roundw
        case rel =>
         have REL := ϕ (show ∃ k2 c2 : Nat, Value.int .i64 ((k : Int) + 1) = .int .i64 k2 ∧ Value.int .i64 0 = .int .i64 c2 ∧ k2 ≤ n1 ∧ c2 ≤ 1 ∧ bor a b k2 = c2 ∧ Owns w6 w.heap.size 3 v6 (iv (lo k2 (a - b))) ∧ Below w.heap.size w w6 from ⟨k + 1, 0, by go_num, rfl, by omega, by omega, HN.out.2, by rw [HN.out.1, ← iv_snoc, ← HG.out]; exact HO6.out, HB6.out⟩)
         first
          | exact REL.out
          | ((repeat apply Exists.intro); refine ⟨?_, rfl⟩; exact REL.out)
        case measure => (first | (simp [intOf]; done) | (simp [intOf]; omega))
    · have hik : (k : Int) < (n1 : Int) := by omega
      have hdk : decide ((k : Int) < (n1 : Int)) = true := by rw [decide_eq_true_iff]; omega
      obtain ⟨b1, o1, hA1, hl1, hcell1⟩ := Ns.at_ HR1.out (show k < (dig a).length by have := HL1.out; omega)
      obtain ⟨x1, hx1⟩ : ∃ x, x = a / 65536 ^ k % 65536 := ⟨_, rfl⟩
      have hxl1 : x1 < 65536 := by omega
      have HX1 := ϕ hx1
      rw [show (dig a)[k]'(by have := HL1.out; omega) = x1 from by have := dig_get (n := a) (i := k) (by have := HL1.out; omega); rw [List.getElem?_eq_getElem (by have := HL1.out; omega)] at this; rw [hx1]; exact Option.some.inj this] at hcell1
      replace hcell1 : wr.cell? ⟨b1, o1 + k, none⟩ = some (.int .i64 (x1 : Nat)) := by rw [← hcell1]; exact HB.out.cell (p := ⟨b1, o1 + k, none⟩) hl1
      subst hA1
      clear hx1
      have hd2 : decide ((k : Int) < (n2 : Int)) = false := by rw [decide_eq_false_iff_not]; omega
      have hi2 : ¬ (k : Int) < (n2 : Int) := by omega
      obtain ⟨x2, hx2⟩ : ∃ x, x = b / 65536 ^ k % 65536 := ⟨_, rfl⟩
      have hx02 : x2 = 0 := by rw [hx2]; exact big_digit (Nat.lt_of_lt_of_le (dig_lt b) (Nat.pow_le_pow_right (by decide) (by have := HL2.out; omega)))
      have HX2 := ϕ hx2
      clear hx2
      by_cases hneg : (x1 : Int) - (cc : Int) < 0
      · have hdn : decide ((x1 : Int) - (cc : Int) < 0) = true := by rw [decide_eq_true_iff]; exact hneg
        have HN := ϕ (show lo (k + 1) (a - b) = lo k (a - b) ++ [x1 + 65536 - cc - x2] ∧ bor a b (k + 1) = 1 by
         have h1 : bor a b (k + 1) = 1 := by rw [bor_step, HC.out, ← HX1.out, ← HX2.out, if_pos (by omega)]
         refine ⟨?_, h1⟩
         rw [lo_snoc, bor_digit HAB.out, h1, HC.out, ← HX1.out, ← HX2.out, Nat.mul_one])
        have HG := ϕ (show (x1 : Int) - (cc : Int) + 65536 = ((x1 + 65536 - cc - x2 : Nat) : Int) by omega)
        clear HC HX1 HX2
        go_wp2_with (refine app1 rfl _ _ 38 rfl (E := 3) (z := .int .i64 0) (by' := 8) rfl rfl rfl (by decide) HO.out rfl rfl rfl (by have h1 := HLE.out; omega) HSB.out ?_; rintro v6 w6 h2 h3 h4; have HO6 := ϕ h2; have HB6 := ϕ (own_grown HB.out HO.out h3); clear h2 h3 h4)
        go_roundw
        case rel =>
         have REL := ϕ (show ∃ k2 c2 : Nat, Value.int .i64 ((k : Int) + 1) = .int .i64 k2 ∧ Value.int .i64 1 = .int .i64 c2 ∧ k2 ≤ n1 ∧ c2 ≤ 1 ∧ bor a b k2 = c2 ∧ Owns w6 w.heap.size 3 v6 (iv (lo k2 (a - b))) ∧ Below w.heap.size w w6 from ⟨k + 1, 1, by go_num, rfl, by omega, by omega, HN.out.2, by rw [HN.out.1, ← iv_snoc, ← HG.out]; exact HO6.out, HB6.out⟩)
         first
          | exact REL.out
          | ((repeat apply Exists.intro); refine ⟨?_, rfl⟩; exact REL.out)
        case measure => (first | (simp [intOf]; done) | (simp [intOf]; omega))
      · have hdn : decide ((x1 : Int) - (cc : Int) < 0) = false := by rw [decide_eq_false_iff_not]; exact hneg
        have HN := ϕ (show lo (k + 1) (a - b) = lo k (a - b) ++ [x1 - cc - x2] ∧ bor a b (k + 1) = 0 by
         have h1 : bor a b (k + 1) = 0 := by rw [bor_step, HC.out, ← HX1.out, ← HX2.out, if_neg (by omega)]
         refine ⟨?_, h1⟩
         rw [lo_snoc, bor_digit HAB.out, h1, HC.out, ← HX1.out, ← HX2.out, Nat.mul_zero, Nat.add_zero])
        have HG := ϕ (show (x1 : Int) - (cc : Int) = ((x1 - cc - x2 : Nat) : Int) by omega)
        clear HC HX1 HX2
        go_wp2_with (refine app1 rfl _ _ 38 rfl (E := 3) (z := .int .i64 0) (by' := 8) rfl rfl rfl (by decide) HO.out rfl rfl rfl (by have h1 := HLE.out; omega) HSB.out ?_; rintro v6 w6 h2 h3 h4; have HO6 := ϕ h2; have HB6 := ϕ (own_grown HB.out HO.out h3); clear h2 h3 h4)
        go_roundw
        case rel =>
         have REL := ϕ (show ∃ k2 c2 : Nat, Value.int .i64 ((k : Int) + 1) = .int .i64 k2 ∧ Value.int .i64 0 = .int .i64 c2 ∧ k2 ≤ n1 ∧ c2 ≤ 1 ∧ bor a b k2 = c2 ∧ Owns w6 w.heap.size 3 v6 (iv (lo k2 (a - b))) ∧ Below w.heap.size w w6 from ⟨k + 1, 0, by go_num, rfl, by omega, by omega, HN.out.2, by rw [HN.out.1, ← iv_snoc, ← HG.out]; exact HO6.out, HB6.out⟩)
         first
          | exact REL.out
          | ((repeat apply Exists.intro); refine ⟨?_, rfl⟩; exact REL.out)
        case measure => (first | (simp [intOf]; done) | (simp [intOf]; omega))
  · have hik : ¬ (k : Int) < (n1 : Int) := by omega
    have hdk : decide ((k : Int) < (n1 : Int)) = false := by rw [decide_eq_false_iff_not]; omega
    have HNS := ϕ (Ns.owns HO.out)
    have HT := ϕ (show trimL (lo k (a - b)) = dig (a - b) from by
     have e1 := dig_lt a
     rw [HL1.out] at e1
     refine trim_lo _ _ (Nat.lt_of_lt_of_le (Nat.lt_of_le_of_lt (Nat.sub_le _ _) e1) (Nat.pow_le_pow_right (by decide) (by omega))))
    have HTR := ϕ (trim_any wr u5 _ HNS.out (by rw [lo_len]; omega))
    clear HC
    go_wp2_with (go_at_call 59; refine HTR.out.mono ?_; rintro e w7 ⟨⟨u, rfl, h7⟩, rfl⟩; have H7 := ϕ h7; clear h7)
    go_ret
    exact ⟨⟨_, rfl, HT.out ▸ H7.out⟩, HB.out⟩
theorem half_digit (a m r k : Nat) (hr : r < 16) : a / 2 ^ (16 * m + r) / 65536 ^ k % 65536 = (a / 65536 ^ (m + k) % 65536 + a / 65536 ^ (m + k + 1) % 65536 * 65536) / 2 ^ r % 65536 := by
 have e1 : a / 2 ^ (16 * m + r) / 65536 ^ k = a / 65536 ^ (m + k) / 2 ^ r := by
  rw [Nat.div_div_eq_div_mul, Nat.div_div_eq_div_mul, show (65536 : Nat) = 2 ^ 16 from rfl, ← Nat.pow_mul, ← Nat.pow_mul, ← Nat.pow_add, ← Nat.pow_add]
  congr 2; omega
 have e2 : a / 65536 ^ (m + k + 1) = a / 65536 ^ (m + k) / 65536 := by rw [Nat.pow_succ, Nat.div_div_eq_div_mul]
 rw [e1, e2]
 generalize a / 65536 ^ (m + k) = q
 have hr2 : r = 0 ∨ r = 1 ∨ r = 2 ∨ r = 3 ∨ r = 4 ∨ r = 5 ∨ r = 6 ∨ r = 7 ∨ r = 8 ∨ r = 9 ∨ r = 10 ∨ r = 11 ∨ r = 12 ∨ r = 13 ∨ r = 14 ∨ r = 15 := by omega
 rcases hr2 with rfl | rfl | rfl | rfl | rfl | rfl | rfl | rfl | rfl | rfl | rfl | rfl | rfl | rfl | rfl | rfl <;> simp only [Nat.reducePow] <;> omega
theorem shr_fact (t r : Nat) (ht : t < 4294967296) (hr : r < 16) : ((t : Int) / 2 ^ r % 65536 = ((t / 2 ^ r % 65536 : Nat) : Int)) ∧ True := by
 refine ⟨?_, trivial⟩
 rw [Int.natCast_emod, Int.natCast_ediv, Int.natCast_pow]; rfl
theorem Half_any (w : World) (v : Value) (a n m r : Nat) (hnm : n = 16 * m + r) (hr : r < 16) (hm : m ≤ 1000) (h1 : Ns w v (dig a)) (ha : (dig a).length ≤ 10000) :
 Calls Tryz.prog 78 #[v, .int .i64 n] w fun e w' => (∃ u, e = .returned u ∧ Ns w' u (dig (a / 2 ^ n))) ∧ Below w.heap.size w w' := by
 obtain ⟨A1, c1, rfl, hR1, hc1⟩ := h1
 obtain ⟨n0, hn0⟩ : ∃ n, (dig a).length = n := ⟨_, rfl⟩
 have HR1 := ϕ hR1
 have HL1 := ϕ hn0
 have HNM := ϕ hnm
 have HRL := ϕ hr
 rw [hn0] at hc1 ha ⊢
 have hq : (n : Int) / 16 = (m : Int) := by omega
 have hrr : (n : Int) % 16 = (r : Int) := by omega
 clear hR1
 by_cases hge : n0 ≤ m
 · have hd : decide ((n0 : Int) ≤ (m : Int)) = true := by rw [decide_eq_true_iff]; omega
   have hdi : (n0 : Int) ≤ (m : Int) := by omega
   have HZ := ϕ (show dig (a / 2 ^ n) = [] by
    have e1 := dig_lt a
    rw [hn0] at e1
    have e2 : 65536 ^ n0 ≤ 2 ^ n := by
     rw [show (65536 : Nat) = 2 ^ 16 from rfl, ← Nat.pow_mul]
     exact Nat.pow_le_pow_right (by decide) (by omega)
    rw [Nat.div_eq_of_lt (by omega), dig_zero])
   clear hnm hr hn0
   go_enter Tryz.func78, Tryz.ntmps78
   go_wp2_with fail
   go_ret
   exact ⟨⟨_, rfl, by rw [HZ.out]; exact ⟨_, _, rfl, Rd.nil _ _, by simp⟩⟩, (Below.refl _ _).alloc (Nat.le_refl _) _⟩
 · have hd : decide ((n0 : Int) ≤ (m : Int)) = false := by rw [decide_eq_false_iff_not]; omega
   have hdi : ¬ (n0 : Int) ≤ (m : Int) := by omega
   obtain ⟨b1, o1, hA1, hl1, hcx⟩ := Ns.at_ HR1.out (show 0 < (dig a).length by omega)
   clear hcx
   subst hA1
   have HLT := ϕ hl1
   have HCE := ϕ (show ∀ k, m + k < n0 → w.cell? ⟨b1, o1 + m + k, none⟩ = some (.int .i64 ((a / 65536 ^ (m + k) % 65536 : Nat) : Int)) ∧ True from fun k hk => by
    obtain ⟨b', o', e, _, hc⟩ := Ns.at_ HR1.out (show m + k < (dig a).length by omega)
    cases e
    have h2 := dig_get (n := a) (i := m + k) (by omega)
    rw [List.getElem?_eq_getElem (by omega)] at h2
    rw [Option.some.inj h2, show o1 + (m + k) = o1 + m + k by omega] at hc
    exact ⟨hc, trivial⟩)
   obtain ⟨n1, hn1⟩ : ∃ k, n0 = m + k := ⟨n0 - m, by omega⟩
   subst hn1
   have HON := ϕ (show Owns (w.alloc (.cells #[] 3)) w.heap.size 3 (.slice (some ⟨w.heap.size, 0, none⟩) 0 0) (iv (lo 0 (a / 2 ^ n))) from Owns.new w w.heap.size 3 [] (Nat.le_refl _) (by decide))
   have HBA := ϕ (show Below w.heap.size w (w.alloc (.cells #[] 3)) from (Below.refl _ _).alloc (Nat.le_refl _) _)
   have hm0 : (0 : Int) ≤ (m : Int) := by omega
   clear hnm hr hn0
   go_enter Tryz.func78, Tryz.ntmps78
   go_wp2_with fail
   clear hd hdi hq
   have hn1k : n1 ≤ 10000 := by omega
   have HL1 := ϕ (show (dig a).length = m + n1 from HL1.out)
   clear hge ha hm hc1
   go_loopw [5, 6, 7, 21] (fun v _ _ i wr => ∃ k : Nat, i = .int .i64 k ∧ k ≤ n1 ∧ Owns wr w.heap.size 3 v (iv (lo k (a / 2 ^ n))) ∧ Below w.heap.size w wr) (fun _ _ _ i _ => n1 - (intOf i).toNat)
   case atStart => exact ⟨0, rfl, by omega, HON.out, HBA.out⟩
   case round =>
    obtain ⟨k, rfl, hk, hO, hB⟩ := hrel
    clear HON HBA
    have HO := ϕ hO
    have HB := ϕ hB
    have HSB := ϕ hB.size
    have HLE := ϕ (show (iv (lo k (a / 2 ^ n))).length ≤ 30000 by rw [iv_len, lo_len]; omega)
    clear hO hB
    by_cases g1 : k < n1
    · by_cases g2 : k + 1 < n1
      · have hik : (k : Int) < (n1 : Int) := by omega
        have hdk : decide ((k : Int) < (n1 : Int)) = true := by rw [decide_eq_true_iff]; omega
        obtain ⟨x1, hx1⟩ : ∃ x, x = a / 65536 ^ (m + k) % 65536 := ⟨_, rfl⟩
        have hxl1 : x1 < 65536 := by omega
        have HX1 := ϕ hx1
        have hcell1 := (HCE.out k (by omega)).1
        rw [← hx1] at hcell1
        replace hcell1 : wr.cell? ⟨b1, o1 + m + k, none⟩ = some (.int .i64 (x1 : Nat)) := by rw [← hcell1]; exact HB.out.cell (p := ⟨b1, o1 + m + k, none⟩) HLT.out
        clear hx1
        have hd2 : decide ((k : Int) + 1 < (n1 : Int)) = true := by rw [decide_eq_true_iff]; omega
        have hi2 : (k : Int) + 1 < (n1 : Int) := by omega
        obtain ⟨x2, hx2⟩ : ∃ x, x = a / 65536 ^ (m + k + 1) % 65536 := ⟨_, rfl⟩
        have hxl2 : x2 < 65536 := by omega
        have HX2 := ϕ hx2
        have hcell2 := (HCE.out (k + 1) (by omega)).1
        rw [show m + (k + 1) = m + k + 1 by omega, ← hx2] at hcell2
        replace hcell2 : wr.cell? ⟨b1, o1 + m + (k + 1), none⟩ = some (.int .i64 (x2 : Nat)) := by rw [← hcell2]; exact HB.out.cell (p := ⟨b1, o1 + m + (k + 1), none⟩) HLT.out
        clear hx2
        have HN := ϕ (show lo (k + 1) (a / 2 ^ n) = lo k (a / 2 ^ n) ++ [(x1 + x2 * 65536) / 2 ^ r % 65536] by
         rw [lo_snoc, HNM.out, half_digit a m r k HRL.out, ← HX1.out, ← HX2.out])
        have HSH := ϕ (shr_fact (x1 + x2 * 65536) r (by omega) HRL.out)
        clear HX1 HX2
        have hsh := HSH.out.1
        go_wp2_with (refine app1 rfl _ _ 38 rfl (E := 3) (z := .int .i64 0) (by' := 8) rfl rfl rfl (by decide) HO.out rfl rfl rfl (by have h1 := HLE.out; omega) HSB.out ?_; rintro v6 w6 h2 h3 h4; have HO6 := ϕ h2; have HB6 := ϕ (own_grown HB.out HO.out h3); clear h2 h3 h4)
        go_roundw
        case rel =>
         have REL := ϕ (show ∃ k2 : Nat, Value.int .i64 ((k : Int) + 1) = .int .i64 k2 ∧ k2 ≤ n1 ∧ Owns w6 w.heap.size 3 v6 (iv (lo k2 (a / 2 ^ n))) ∧ Below w.heap.size w w6 from ⟨k + 1, by go_num, by omega, by rw [HN.out, ← iv_snoc]; exact HO6.out, HB6.out⟩)
         first
          | exact REL.out
          | ((repeat apply Exists.intro); refine ⟨?_, rfl⟩; exact REL.out)
        case measure => (first | (simp [intOf]; done) | (simp [intOf]; omega))
      · have hik : (k : Int) < (n1 : Int) := by omega
        have hdk : decide ((k : Int) < (n1 : Int)) = true := by rw [decide_eq_true_iff]; omega
        obtain ⟨x1, hx1⟩ : ∃ x, x = a / 65536 ^ (m + k) % 65536 := ⟨_, rfl⟩
        have hxl1 : x1 < 65536 := by omega
        have HX1 := ϕ hx1
        have hcell1 := (HCE.out k (by omega)).1
        rw [← hx1] at hcell1
        replace hcell1 : wr.cell? ⟨b1, o1 + m + k, none⟩ = some (.int .i64 (x1 : Nat)) := by rw [← hcell1]; exact HB.out.cell (p := ⟨b1, o1 + m + k, none⟩) HLT.out
        clear hx1
        have hd2 : decide ((k : Int) + 1 < (n1 : Int)) = false := by rw [decide_eq_false_iff_not]; omega
        have hi2 : ¬ (k : Int) + 1 < (n1 : Int) := by omega
        obtain ⟨x2, hx2⟩ : ∃ x, x = a / 65536 ^ (m + k + 1) % 65536 := ⟨_, rfl⟩
        have hx02 : x2 = 0 := by rw [hx2]; exact big_digit (Nat.lt_of_lt_of_le (dig_lt a) (Nat.pow_le_pow_right (by decide) (by have := HL1.out; omega)))
        have HX2 := ϕ hx2
        clear hx2
        have HN := ϕ (show lo (k + 1) (a / 2 ^ n) = lo k (a / 2 ^ n) ++ [(x1) / 2 ^ r % 65536] by
         rw [lo_snoc, HNM.out, half_digit a m r k HRL.out, ← HX1.out, ← HX2.out]; rw [hx02, Nat.zero_mul, Nat.add_zero])
        have HSH := ϕ (shr_fact (x1) r (by omega) HRL.out)
        clear hx02
        clear HX1 HX2
        have hsh := HSH.out.1
        go_wp2_with (refine app1 rfl _ _ 38 rfl (E := 3) (z := .int .i64 0) (by' := 8) rfl rfl rfl (by decide) HO.out rfl rfl rfl (by have h1 := HLE.out; omega) HSB.out ?_; rintro v6 w6 h2 h3 h4; have HO6 := ϕ h2; have HB6 := ϕ (own_grown HB.out HO.out h3); clear h2 h3 h4)
        go_roundw
        case rel =>
         have REL := ϕ (show ∃ k2 : Nat, Value.int .i64 ((k : Int) + 1) = .int .i64 k2 ∧ k2 ≤ n1 ∧ Owns w6 w.heap.size 3 v6 (iv (lo k2 (a / 2 ^ n))) ∧ Below w.heap.size w w6 from ⟨k + 1, by go_num, by omega, by rw [HN.out, ← iv_snoc]; exact HO6.out, HB6.out⟩)
         first
          | exact REL.out
          | ((repeat apply Exists.intro); refine ⟨?_, rfl⟩; exact REL.out)
        case measure => (first | (simp [intOf]; done) | (simp [intOf]; omega))
    · have hik : ¬ (k : Int) < (n1 : Int) := by omega
      have hdk : decide ((k : Int) < (n1 : Int)) = false := by rw [decide_eq_false_iff_not]; omega
      have HNS := ϕ (Ns.owns HO.out)
      have HT := ϕ (show trimL (lo k (a / 2 ^ n)) = dig (a / 2 ^ n) from by
       have e1 := dig_lt a
       rw [HL1.out] at e1
       refine trim_lo _ _ (Nat.div_lt_of_lt_mul ?_)
       refine Nat.lt_of_lt_of_le e1 ?_
       rw [show (65536 : Nat) = 2 ^ 16 from rfl, ← Nat.pow_mul, ← Nat.pow_mul, ← Nat.pow_add, HNM.out]
       exact Nat.pow_le_pow_right (by decide) (by omega))
      have HTR := ϕ (trim_any wr u5 _ HNS.out (by rw [lo_len]; omega))
      go_wp2_with (go_at_call 59; refine HTR.out.mono ?_; rintro e w7 ⟨⟨u, rfl, h7⟩, rfl⟩; have H7 := ϕ h7; clear h7)
      go_ret
      exact ⟨⟨_, rfl, HT.out ▸ H7.out⟩, HB.out⟩
end Go.Proofs.YtfpcelmekfdafaaGreatDoor.Dg
namespace Go.Proofs.YtfpcelmekfdafaaGreatDoor.Sha
open Go.Proofs.YtfpcelmekfdafaaGreatDoor.Cl (nth nth_getD)
/-- turned to the right, in words of W bits -/
def rot (W x n : Nat) : Nat := (x / 2 ^ n ||| x * 2 ^ (W - n)) % 2 ^ W
theorem rot_lt (W x n : Nat) : rot W x n < 2 ^ W := Nat.mod_lt _ (Nat.two_pow_pos W)
theorem rot_left (W x n : Nat) (hx : x < 2 ^ W) : (x * 2 ^ (W - n) % 2 ^ W) ||| (x / 2 ^ n) = rot W x n := by
 unfold rot
 rw [Nat.or_mod_two_pow, Nat.mod_eq_of_lt (Nat.lt_of_le_of_lt (Nat.div_le_self x _) hx), Nat.or_comm]
/-- two turns and a third thing -/
def three (W x a b c : Nat) : Nat := rot W x a ^^^ rot W x b ^^^ rot W x c
def threeS (W x a b c : Nat) : Nat := rot W x a ^^^ rot W x b ^^^ (x / 2 ^ c)
/-- bytes as a number, the first the highest -/
def beN (l : List UInt8) : Nat := l.foldl (fun a b => a * 256 + b.toNat) 0
theorem beN_snoc (l : List UInt8) (b : UInt8) : beN (l ++ [b]) = beN l * 256 + b.toNat := by simp [beN]
theorem beN_lt : ∀ (l : List UInt8), beN l < 256 ^ l.length := by
 suffices ∀ (l : List UInt8) (m : Nat), l.reverse.length = m → beN l.reverse < 256 ^ m by
  intro l; have := this l.reverse l.length (by simp); rwa [List.reverse_reverse] at this
 intro l
 induction l with
 | nil => intro m h; simp at h; subst h; decide
 | cons b l ih =>
  intro m h
  simp at h
  subst h
  rw [List.reverse_cons, beN_snoc]
  have := ih l.length (by simp)
  have hb : b.toNat < 256 := b.toNat_lt
  rw [Nat.pow_succ]
  omega
/-- the functions on words, at either width -/
def sg0 (W x : Nat) : Nat := if W = 32 then threeS 32 x 7 18 3 else threeS 64 x 1 8 7
def sg1 (W x : Nat) : Nat := if W = 32 then threeS 32 x 17 19 10 else threeS 64 x 19 61 6
def ep0 (W x : Nat) : Nat := if W = 32 then three 32 x 2 13 22 else three 64 x 28 34 39
def ep1 (W x : Nat) : Nat := if W = 32 then three 32 x 6 11 25 else three 64 x 14 18 41
/-- the first t words of a block -/
def sched (W : Nat) (blk : List UInt8) : Nat → List Nat
 | 0 => []
 | t + 1 =>
  let l := sched W blk t
  l ++ [if t < 16 then beN ((blk.drop (t * (W / 8))).take (W / 8))
   else (sg1 W (nth l (t - 2)) + nth l (t - 7) + sg0 W (nth l (t - 15)) + nth l (t - 16)) % 2 ^ W]
theorem sched_length (W : Nat) (blk : List UInt8) (t : Nat) : (sched W blk t).length = t := by
 induction t with
 | zero => rfl
 | succ t ih => simp [sched, ih]
theorem sched_lt (W : Nat) (hW : W = 32 ∨ W = 64) (blk : List UInt8) (t : Nat) : ∀ x ∈ sched W blk t, x < 2 ^ W := by
 induction t with
 | zero => simp [sched]
 | succ t ih =>
  intro x hx
  simp only [sched, List.mem_append, List.mem_singleton] at hx
  rcases hx with hx | rfl
  · exact ih x hx
  · split
    · have h1 := beN_lt ((blk.drop (t * (W / 8))).take (W / 8))
      have h2 : ((blk.drop (t * (W / 8))).take (W / 8)).length ≤ W / 8 := List.length_take_le _ _
      refine Nat.lt_of_lt_of_le h1 (Nat.le_trans (Nat.pow_le_pow_right (by decide) h2) ?_)
      rcases hW with rfl | rfl <;> decide
    · exact Nat.mod_lt _ (Nat.two_pow_pos W)
theorem getD_lt {l : List Nat} {b : Nat} (h : ∀ x ∈ l, x < b) (hb : 0 < b) (i : Nat) : nth l i < b := by
 rw [nth_getD, List.getD_eq_getElem?_getD]
 cases hi : l[i]? with
 | none => simpa using hb
 | some x => simpa using h x (List.mem_of_getElem? hi)
/-- 80 places -/
def pad80 (l : List Nat) : List Nat := l ++ List.replicate (80 - l.length) 0
theorem pad80_length (l : List Nat) (h : l.length ≤ 80) : (pad80 l).length = 80 := by simp [pad80]; omega
theorem pad80_getD (l : List Nat) (i : Nat) (h : i < l.length) : nth (pad80 l) i = nth l i := by
 simp [nth, pad80, List.getElem?_append_left h]
theorem pad80_set (l : List Nat) (x : Nat) (h : l.length < 80) : (pad80 l).set l.length x = pad80 (l ++ [x]) := by
 obtain ⟨m, hm⟩ : ∃ m, 80 - l.length = m + 1 := ⟨80 - l.length - 1, by omega⟩
 have h2 : 80 - (l.length + 1) = m := by omega
 simp [pad80, hm, h2, List.replicate_succ]
theorem pad80_at (l : List Nat) (h : l.length < 80) : nth (pad80 l) l.length = 0 := by
 simp only [nth, pad80, List.getD_eq_getElem?_getD, List.getElem?_append_right (Nat.le_refl _), List.getElem?_replicate]
 split <;> rfl
/-- partial word -/
def part (W : Nat) (blk : List UInt8) (t j : Nat) : Nat := beN ((blk.drop (t * (W / 8))).take j)
theorem part_succ (W : Nat) (blk : List UInt8) (t j : Nat) (h : t * (W / 8) + j < blk.length) : part W blk t (j + 1) = part W blk t j * 256 + (blk[t * (W / 8) + j]).toNat := by
 unfold part
 rw [List.take_add_one, List.getElem?_drop, List.getElem?_eq_getElem h]
 exact beN_snoc _ _
theorem part_lt (W : Nat) (blk : List UInt8) (t j : Nat) : part W blk t j < 256 ^ j :=
 Nat.lt_of_lt_of_le (beN_lt _) (Nat.pow_le_pow_right (by decide) (List.length_take_le _ _))
theorem or_byte (a : Nat) (b : UInt8) : a * 256 ||| b.toNat = a * 256 + b.toNat :=
 nat_join 8 (a * 256) b.toNat (by omega) (by have := b.toNat_lt; omega)
open Go.Proofs.YtfpcelmekfdafaaGreatDoor.Cl (nth nth_getD)
def wordsL : List Nat := [4794697086780616226, 8158064640168781261, 13096744586834688815, 16840607885511220156, 4131703408338449720, 6480981068601479193, 10538285296894168987, 12329834152419229976, 15566598209576043074, 1334009975649890238, 2608012711638119052, 6128411473006802146, 8268148722764581231, 9286055187155687089, 11230858885718282805, 13951009754708518548, 16472876342353939154, 17275323862435702243, 1135362057144423861, 2597628984639134821, 3308224258029322869, 5365058923640841347, 6679025012923562964, 8573033837759648693, 10970295158949994411, 12119686244451234320, 12683024718118986047, 13788192230050041572, 14330467153632333762, 15395433587784984357, 489312712824947311, 1452737877330783856, 2861767655752347644, 3322285676063803686, 5560940570517711597, 5996557281743188959, 7280758554555802590, 8532644243296465576, 9350256976987008742, 10552545826968843579, 11727347734174303076, 12113106623233404929, 14000437183269869457, 14369950271660146224, 15101387698204529176, 15463397548674623760, 17586052441742319658, 1182934255886127544, 1847814050463011016, 2177327727835720531, 2830643537854262169, 3796741975233480872, 4115178125766777443, 5681478168544905931, 6601373596472566643, 7507060721942968483, 8399075790359081724, 8693463985226723168, 9568029438360202098, 10144078919501101548, 10430055236837252648, 11840083180663258601, 13761210420658862357, 14299343276471374635, 14566680578165727644, 15097957966210449927, 16922976911328602910, 17689382322260857208, 500013540394364858, 748580250866718886, 1242879168328830382, 1977374033974150939, 2944078676154940804, 3659926193048069267, 4368137639120453308, 4836135668995329356, 5532061633213252278, 6448918945643986474, 6902733635092675308, 7801388544844847127]
def firstL : List Nat := [7640891576956012808, 13503953896175478587, 4354685564936845355, 11912009170470909681, 5840696475078001361, 11170449401992604703, 2270897969802886507, 6620516959819538809]
/-- all words of a block, in 80 places; the name is not opened by unification -/
@[irreducible] def msg (W : Nat) (blk : List UInt8) : List Nat := pad80 (sched W blk (if W = 32 then 64 else 80))
theorem msg64 (blk : List UInt8) : msg 64 blk = pad80 (sched 64 blk 80) := by unfold msg; rfl
theorem msg_length (W : Nat) (blk : List UInt8) : (msg W blk).length = 80 := by
 unfold msg; split <;> exact pad80_length _ (by rw [sched_length]; decide)
/-- the constant of round t -/
def hi32 (x : Nat) : Nat := x / 4294967296
def kw (W t : Nat) : Nat := if W = 32 then hi32 (nth wordsL t) else nth wordsL t
def add64 (a b : Nat) : Nat := (a + b) % 18446744073709551616
def not64 (a : Nat) : Nat := 18446744073709551615 - a
def ch (a b c : Nat) : Nat := (a &&& b) ^^^ (not64 a &&& c)
def mj (a b c : Nat) : Nat := ((a &&& b) ^^^ (a &&& c)) ^^^ (b &&& c)
def t1 (W : Nat) (x : List Nat) (k w : Nat) : Nat := add64 (add64 (add64 (add64 (nth x 7) (ep1 W (nth x 4))) (ch (nth x 4) (nth x 5) (nth x 6))) k) w
def t2 (W : Nat) (x : List Nat) : Nat := add64 (ep0 W (nth x 0)) (mj (nth x 0) (nth x 1) (nth x 2))
theorem add64_lt (a b : Nat) : add64 a b < 18446744073709551616 := by unfold add64; omega
theorem wrap_add64 (a b : Nat) : IntKind.u64.wrap ((a : Int) + (b : Int)) = (add64 a b : Int) := by
 rw [IntKind.wrap_u64]; unfold add64; omega
theorem and_lt64 {a : Nat} (b : Nat) (h : a < 18446744073709551616) : a &&& b < 18446744073709551616 := Nat.lt_of_le_of_lt Nat.and_le_left h
theorem xor_lt64 {a b : Nat} (h : a < 18446744073709551616) (h' : b < 18446744073709551616) : a ^^^ b < 18446744073709551616 := Nat.xor_lt_two_pow (n := 64) h h'
theorem not64_lt (a : Nat) : not64 a < 18446744073709551616 := by unfold not64; omega
theorem not_u64 (a : Nat) (h : a < 18446744073709551616) : bits .xor .u64 IntKind.u64.max (a : Int) = (not64 a : Int) := by
 have e : IntKind.u64.max = ((18446744073709551615 : Nat) : Int) := rfl
 rw [e, u64_xor_nat _ _ (by decide) h]
 congr 1
 have : (18446744073709551615 : Nat) = 2 ^ 64 - 1 := by decide
 unfold not64
 rw [this]
 apply Nat.eq_of_testBit_eq
 intro i
 rw [Nat.testBit_xor, Nat.testBit_two_pow_sub_one, show 2 ^ 64 - 1 - a = 2 ^ 64 - (a + 1) by omega, Nat.testBit_two_pow_sub_succ h]
 by_cases hi : i < 64
 · simp [hi]
 · have : a.testBit i = false := Nat.testBit_lt_two_pow (Nat.lt_of_lt_of_le h (Nat.pow_le_pow_right (n := 2) (by decide) (by omega : 64 ≤ i)))
   simp [hi, this]
theorem ch_e1 (a b : Nat) (ha : a < 18446744073709551616) (hb : b < 18446744073709551616) : bits .and .u64 (a : Int) (b : Int) = ((a &&& b : Nat) : Int) := u64_and_nat a b ha hb
theorem ch_e3 (a c : Nat) (hc : c < 18446744073709551616) : bits .and .u64 (not64 a : Int) (c : Int) = ((not64 a &&& c : Nat) : Int) := u64_and_nat _ _ (not64_lt a) hc
theorem ch_e4 (a b c : Nat) (ha : a < 18446744073709551616) : bits .xor .u64 ((a &&& b : Nat) : Int) ((not64 a &&& c : Nat) : Int) = (ch a b c : Int) :=
 u64_xor_nat _ _ (and_lt64 _ ha) (and_lt64 _ (not64_lt a))
theorem mj_e1 (a b c : Nat) (ha : a < 18446744073709551616) : bits .xor .u64 ((a &&& b : Nat) : Int) ((a &&& c : Nat) : Int) = (((a &&& b) ^^^ (a &&& c) : Nat) : Int) :=
 u64_xor_nat _ _ (and_lt64 _ ha) (and_lt64 _ ha)
theorem mj_e2 (a b c : Nat) (ha : a < 18446744073709551616) (hb : b < 18446744073709551616) : bits .xor .u64 (((a &&& b) ^^^ (a &&& c) : Nat) : Int) ((b &&& c : Nat) : Int) = (mj a b c : Int) :=
 u64_xor_nat _ _ (xor_lt64 (and_lt64 _ ha) (and_lt64 _ ha)) (and_lt64 _ hb)
def mixRound (W : Nat) (x : List Nat) (k w : Nat) : List Nat :=
 [(t1 W x k w + t2 W x) % 2 ^ W, nth x 0, nth x 1, nth x 2, (nth x 3 + t1 W x k w) % 2 ^ W, nth x 4, nth x 5, nth x 6]
/-- the eight words after t rounds -/
def mixTo (W : Nat) (ws h : List Nat) : Nat → List Nat
 | 0 => h
 | t + 1 => mixRound W (mixTo W ws h t) (kw W t) (nth ws t)
@[irreducible] def mixAll (W : Nat) (blk : List UInt8) (h : List Nat) : List Nat := mixTo W (msg W blk) h (if W = 32 then 64 else 80)
theorem mixAll64 (blk : List UInt8) (h : List Nat) : mixAll 64 blk h = mixTo 64 (msg 64 blk) h 80 := by unfold mixAll; rfl
/-- a block mixed into the words h -/
def mixed (W : Nat) (blk : List UInt8) (h : List Nat) : List Nat :=
 let x := mixAll W blk h
 (List.range 8).map fun i => (nth h i + nth x i) % 2 ^ W
theorem mixTo_length (W : Nat) (ws h : List Nat) (hh : h.length = 8) (t : Nat) : (mixTo W ws h t).length = 8 := by
 cases t with
 | zero => exact hh
 | succ t => rfl
theorem mixTo_lt (W : Nat) (ws h : List Nat) (hh : ∀ i, nth h i < 2 ^ W) (t : Nat) : ∀ i, nth (mixTo W ws h t) i < 2 ^ W := by
 have hW : 0 < 2 ^ W := Nat.two_pow_pos W
 induction t with
 | zero => exact hh
 | succ t ih =>
  intro i
  have h0 := Nat.mod_lt (t1 W (mixTo W ws h t) (kw W t) (nth ws t) + t2 W (mixTo W ws h t)) hW
  have h4 := Nat.mod_lt (nth (mixTo W ws h t) 3 + t1 W (mixTo W ws h t) (kw W t) (nth ws t)) hW
  match i with
  | 0 => exact h0
  | 1 => exact ih 0
  | 2 => exact ih 1
  | 3 => exact ih 2
  | 4 => exact h4
  | 5 => exact ih 4
  | 6 => exact ih 5
  | 7 => exact ih 6
  | i + 8 => exact hW
open Go.Proofs.YtfpcelmekfdafaaGreatDoor.Cl (nth nth_getD)
/-- a number's bytes, n of them, the highest first -/
def beBytes : Nat → Nat → List UInt8
 | 0, _ => []
 | n + 1, x => UInt8.ofNat (x / 256 ^ n) :: beBytes n x
theorem beBytes_length (n x : Nat) : (beBytes n x).length = n := by
 induction n with
 | zero => rfl
 | succ n ih => simp [beBytes, ih]
theorem beBytes_get : ∀ (m x k : Nat) (h : k < m), (beBytes m x)[k]? = some (UInt8.ofNat (x / 256 ^ (m - 1 - k)))
 | m + 1, x, 0, _ => by simp [beBytes]
 | m + 1, x, k + 1, h => by
  have := beBytes_get m x k (by omega)
  rw [show m + 1 - 1 - (k + 1) = m - 1 - k by omega, ← this]; rfl
theorem beBytes_take (m x k : Nat) (h : k < m) : (beBytes m x).take (k + 1) = (beBytes m x).take k ++ [UInt8.ofNat (x / 256 ^ (m - 1 - k))] := by
 rw [List.take_add_one, beBytes_get m x k h]; rfl
theorem be_cells (m x k : Nat) (h : k < m) (e : Nat) (he : e = 8 * (m - 1 - k)) :
 Lib.byteCells ((beBytes m x).take (k + 1)) = Lib.byteCells ((beBytes m x).take k) ++ [.int .u8 ((x : Int) / 2 ^ e % 256)] := by
 rw [beBytes_take m x k h]
 have e2 : (2 : Nat) ^ e = 256 ^ (m - 1 - k) := by rw [he, Nat.pow_mul]
 have e3 : ((UInt8.ofNat (x / 256 ^ (m - 1 - k))).toNat : Int) = (x : Int) / 2 ^ e % 256 := by
  rw [UInt8.toNat_ofNat', ← e2, Int.natCast_emod, Int.natCast_ediv, Int.natCast_pow]; rfl
 unfold Lib.byteCells
 rw [List.map_append, List.map_singleton, e3]
def h0 (W : Nat) : List Nat := (List.range 8).map fun i => if W = 32 then hi32 (nth firstL i) else nth firstL i
def zeros (W n : Nat) : Nat := (2 * W - (n + 1 + W / 4) % (2 * W)) % (2 * W) + W / 4 - 8
@[irreducible] def padded (W : Nat) (bs : List UInt8) : List UInt8 := bs ++ ([128] ++ List.replicate (zeros W bs.length) 0) ++ beBytes 8 (bs.length * 8)
/-- the words after k blocks -/
def hashTo (W : Nat) (m : List UInt8) : Nat → List Nat
 | 0 => h0 W
 | k + 1 => mixed W ((m.drop (k * (2 * W))).take (2 * W)) (hashTo W m k)
def outBytes (W : Nat) (h : List Nat) : List UInt8 := h.flatMap (beBytes (W / 8))
@[irreducible] def sha (W : Nat) (bs : List UInt8) : List UInt8 := outBytes W (hashTo W (padded W bs) ((padded W bs).length / (2 * W)))
theorem padded_length64 (bs : List UInt8) : (padded 64 bs).length % 128 = 0 := by
 unfold padded zeros
 simp only [List.length_append, List.length_cons, List.length_nil, List.length_replicate, beBytes_length]
 omega
theorem h0_length (W : Nat) : (h0 W).length = 8 := by simp [h0]
theorem mixed_length (W : Nat) (blk : List UInt8) (h : List Nat) : (mixed W blk h).length = 8 := by simp [mixed]
theorem hashTo_length (W : Nat) (m : List UInt8) (k : Nat) : (hashTo W m k).length = 8 := by
 cases k with
 | zero => exact h0_length W
 | succ k => exact mixed_length _ _ _
theorem first_lt (i : Nat) : nth firstL i < 18446744073709551616 := getD_lt (l := firstL) (by decide) (by decide) i
theorem h0_lt (W : Nat) (hW : W = 32 ∨ W = 64) (i : Nat) : nth (h0 W) i < 2 ^ W := by
 refine getD_lt (l := h0 W) ?_ (Nat.two_pow_pos W) i
 intro x hx
 simp only [h0, List.mem_map, List.mem_range] at hx
 obtain ⟨j, _, rfl⟩ := hx
 have := first_lt j
 rcases hW with rfl | rfl
 · simp only [if_true, hi32]; omega
 · simp only [Nat.reduceEqDiff, if_false]; omega
theorem hashTo_lt (W : Nat) (hW : W = 32 ∨ W = 64) (m : List UInt8) (k i : Nat) : nth (hashTo W m k) i < 2 ^ W := by
 cases k with
 | zero => exact h0_lt W hW i
 | succ k =>
  refine getD_lt (l := hashTo W m (k + 1)) ?_ (Nat.two_pow_pos W) i
  intro x hx
  simp only [hashTo, mixed, List.mem_map] at hx
  obtain ⟨j, _, rfl⟩ := hx
  exact Nat.mod_lt _ (Nat.two_pow_pos W)
theorem outBytes_length (W : Nat) (h : List Nat) : (outBytes W h).length = h.length * (W / 8) := by
 induction h with
 | nil => simp [outBytes]
 | cons x h ih =>
  have e : outBytes W (x :: h) = beBytes (W / 8) x ++ outBytes W h := by simp [outBytes]
  rw [e, List.length_append, ih, beBytes_length, List.length_cons, Nat.add_mul]; omega
theorem sha_length (W : Nat) (hW : W = 32 ∨ W = 64) (bs : List UInt8) : (sha W bs).length = W := by
 unfold sha
 rw [outBytes_length, hashTo_length]
 rcases hW with rfl | rfl <;> rfl
open Go.RowKit
def k512c : Array Value := #[.int .i64 64, .int .i64 80, .int .i64 1, .int .i64 8, .int .i64 7, .int .i64 19, .int .i64 61, .int .i64 6, .int .i64 28, .int .i64 34, .int .i64 39, .int .i64 14, .int .i64 18, .int .i64 41]
abbrev K512 : Value := .agg k512c
theorem _root_.Go.RowKit.Below.drewN' {B : Nat} {a w : World} (h : Below B a w) (n : Nat) : Below B a (w.drewN n) := by
 induction n with
 | zero => exact h
 | succ n ih => exact ⟨h.os, h.tape, h.output, h.size, h.block⟩
theorem wrap_u64_lt {x : Nat} (h : x < 2 ^ 64) : IntKind.u64.wrap (x : Int) = x := by rw [IntKind.wrap_u64]; omega
theorem wrap_u64_rot32 (x n : Nat) : IntKind.u64.wrap (rot 32 x n : Int) = (rot 32 x n : Int) := wrap_u64_lt (Nat.lt_trans (rot_lt _ _ _) (by decide))
theorem wrap_u64_rot64 (x n : Nat) : IntKind.u64.wrap (rot 64 x n : Int) = (rot 64 x n : Int) := wrap_u64_lt (rot_lt _ _ _)
attribute [local go_sem] wrap_u64_rot32 wrap_u64_rot64
theorem word512_any (w : World) (x : Nat) : Calls Tryz.prog 98 #[K512, .int .u64 x] w fun e w' => e = .returned (.int .u64 x) ∧ Below w.heap.size w w' := by
 unfold K512 k512c
 go_enter Tryz.func98, Tryz.ntmps98
 go_wp2
 go_ret
 exact ⟨by simp, (Below.refl _ _).alloc (Nat.le_refl _) _⟩
theorem cut512_any (w : World) (x : Nat) (hx : x < 18446744073709551616) : Calls Tryz.prog 116 #[K512, .int .u64 x] w fun e w' => e = .returned (.int .u64 x) ∧ Below w.heap.size w w' := by
 have e : IntKind.u64.wrap (x : Int) = x := by rw [IntKind.wrap_u64]; omega
 unfold K512 k512c
 go_enter Tryz.func116, Tryz.ntmps116
 go_wp2
 go_quiet (fail)
 go_wp2
 go_ret
 exact ⟨by simp, (((Below.refl _ _).alloc (Nat.le_refl _) _).drewN' _)⟩
theorem neg_and (n m k : Nat) (hn : 0 < n) (hn' : n < 2 ^ k) (hm : m = 2 ^ k - 1) (hk : k ≤ 32) : bits .and .u64 (IntKind.u64.wrap (-(n:Int))) (m : Int) = ((2 ^ k - n : Nat) : Int) := by
 have hp : 2 ^ k ≤ 2 ^ 32 := Nat.pow_le_pow_right (by decide) hk
 have e2 : 2 ^ 64 = 2 ^ k * 2 ^ (64 - k) := by rw [← Nat.pow_add]; congr 1; omega
 have h1 : IntKind.u64.wrap (-(n:Int)) = ((18446744073709551616 - n : Nat) : Int) := by
  rw [IntKind.wrap_u64]; omega
 have h0 : 0 < 2 ^ (64 - k) := Nat.two_pow_pos _
 rw [h1, u64_and_nat _ _ (by omega) (by omega), hm, Nat.and_two_pow_sub_one_eq_mod]
 congr 1
 obtain ⟨c, hc⟩ : ∃ c, 2 ^ (64 - k) = c + 1 := ⟨2 ^ (64 - k) - 1, by omega⟩
 have e3 : 18446744073709551616 = 2 ^ k * c + 2 ^ k := by
  have : (18446744073709551616 : Nat) = 2 ^ 64 := by decide
  rw [this, e2, hc, Nat.mul_succ]
 have e4 : 18446744073709551616 - n = (2 ^ k - n) + 2 ^ k * c := by omega
 rw [e4, Nat.add_mul_mod_self_left, Nat.mod_eq_of_lt (by omega)]
theorem rotl64_any (w : World) (x n : Nat) (hx : x < 18446744073709551616) (hn : 0 < n) (hn' : n < 64) : Calls Tryz.prog 126 #[.int .u64 x, .int .i64 (-(n:Int))] w fun e w' => e = .returned (.int .u64 (rot 64 x n : Nat)) ∧ w = w' := by
 have e : bits .and .u64 (IntKind.u64.wrap (-(n:Int))) 63 = ((64 - n : Nat) : Int) := neg_and n 63 6 hn (by omega) (by decide) (by decide)
 go_enter Tryz.func126, Tryz.ntmps126
 go_wp2
 go_ret
 refine ⟨?_, rfl⟩
 have h := rot_left 64 x n hx
 have h3 : 64 - (64 - n) = n := by omega
 simp only [Array.getD_eq_getD_getElem?, List.getElem?_toArray, List.getElem?_cons_succ, List.getElem?_cons_zero, Option.getD_some]
 rw [h3]
 have h4 : IntKind.u64.wrap ((x : Int) * 2 ^ (64 - n)) = ((x * 2 ^ (64 - n) % 2 ^ 64 : Nat) : Int) := by rw [IntKind.wrap_u64, Int.natCast_emod, Int.natCast_mul, Int.natCast_pow]; rfl
 have h5 : (x : Int) / 2 ^ n = ((x / 2 ^ n : Nat) : Int) := by rw [Int.natCast_ediv, Int.natCast_pow]; rfl
 rw [h4, h5, u64_or_nat _ _ (Nat.mod_lt _ (by decide)) (Nat.lt_of_le_of_lt (Nat.div_le_self x _) hx), h]
theorem turn512_any (w : World) (x n : Nat) (hx : x < 18446744073709551616) (hn : 0 < n) (hn' : n < 64) : Calls Tryz.prog 123 #[K512, .int .u64 x, .int .i64 n] w fun e w' => e = .returned (.int .u64 (rot 64 x n : Nat)) ∧ Below w.heap.size w w' := by
 unfold K512 k512c
 go_enter Tryz.func123, Tryz.ntmps123
 go_wp2_with (go_at_call 126; refine (rotl64_any _ _ _ hx hn hn').mono ?_; rintro e w' ⟨rfl, rfl⟩)
 go_ret
 exact ⟨by simp, (((Below.refl _ _).alloc (Nat.le_refl _) _))⟩
theorem turn512_int (w : World) (x : Nat) (n : Int) (hx : x < 18446744073709551616) (hn : 0 < n) (hn' : n < 64) : Calls Tryz.prog 123 #[K512, .int .u64 x, .int .i64 n] w fun e w' => e = .returned (.int .u64 (rot 64 x n.toNat : Nat)) ∧ Below w.heap.size w w' := by
 obtain ⟨m, rfl⟩ := Int.eq_ofNat_of_zero_le (Int.le_of_lt hn)
 exact turn512_any w x m hx (by omega) (by omega)
end Go.Proofs.YtfpcelmekfdafaaGreatDoor.Sha
namespace Go.Proofs.YtfpcelmekfdafaaGreatDoor.Sha
open Go.RowKit
theorem xor_rot (W x a b : Nat) (hW : W = 32 ∨ W = 64) : bits .xor .u64 (rot W x a : Int) (rot W x b : Int) = ((rot W x a ^^^ rot W x b : Nat) : Int) := by
 have h : 2 ^ W ≤ 18446744073709551616 := by rcases hW with rfl | rfl <;> decide
 exact u64_xor_nat _ _ (Nat.lt_of_lt_of_le (rot_lt _ _ _) h) (Nat.lt_of_lt_of_le (rot_lt _ _ _) h)
theorem xor_rot2_lt (W x a b : Nat) : rot W x a ^^^ rot W x b < 2 ^ W := Nat.xor_lt_two_pow (rot_lt _ _ _) (rot_lt _ _ _)
theorem xor_three (W x a b c : Nat) (hW : W = 32 ∨ W = 64) : bits .xor .u64 ((rot W x a ^^^ rot W x b : Nat) : Int) (rot W x c : Int) = ((three W x a b c : Nat) : Int) := by
 have h : 2 ^ W ≤ 18446744073709551616 := by rcases hW with rfl | rfl <;> decide
 exact u64_xor_nat _ _ (Nat.lt_of_lt_of_le (xor_rot2_lt _ _ _ _) h) (Nat.lt_of_lt_of_le (rot_lt _ _ _) h)
theorem xor_threeS (W x a b c : Nat) (hW : W = 32 ∨ W = 64) (hx : x < 2 ^ W) : bits .xor .u64 ((rot W x a ^^^ rot W x b : Nat) : Int) ((x / 2 ^ c : Nat) : Int) = ((threeS W x a b c : Nat) : Int) := by
 have h : 2 ^ W ≤ 18446744073709551616 := by rcases hW with rfl | rfl <;> decide
 exact u64_xor_nat _ _ (Nat.lt_of_lt_of_le (xor_rot2_lt _ _ _ _) h) (Nat.lt_of_lt_of_le (Nat.lt_of_le_of_lt (Nat.div_le_self x _) hx) h)
theorem small512_any (w : World) (x : Nat) (a b c : Int) (hx : x < 18446744073709551616) (ha : 0 < a) (ha2 : a < 64) (hb : 0 < b) (hb2 : b < 64) (hc : 0 ≤ c) (hc2 : c < 64) : Calls Tryz.prog 122 #[K512, .int .u64 x, .agg #[.int .i64 a, .int .i64 b, .int .i64 c]] w fun e w' => e = .returned (.int .u64 (threeS 64 x a.toNat b.toNat c.toNat : Nat)) ∧ Below w.heap.size w w' := by
 unfold K512
 have hm : min c.toNat 64 = c.toNat := by omega
 go_enter Tryz.func122, Tryz.ntmps122
 go_wp2_with fail
 generalize hW : World.alloc (World.alloc w _) _ = W
 have L := Rg.Later.cellOf (B := w.heap.size + 2) hW
 have hB : w.heap.size + 2 ≤ W.heap.size := by subst hW; simp
 have hBW : Below w.heap.size w W := by subst hW; exact ((Below.refl _ _).alloc (Nat.le_refl _) _).alloc (by simp) _
 have HK := ϕ (show Rg.Blk W w.heap.size 113 k512c by subst hW; exact (Rg.Blk.new _ _ _).alloc _)
 clear hW
 refine Rg.wp_region_later_all (w.heap.size + 2) (by kernel_rfl) (by kernel_rfl) ?_
 repeat (first | (go_big_quiet_want; refine Rg.quiet_load_row 113 _ rfl _ rfl _ _ _ (HK.out.later (by omega)) Tryz.underlying113 rfl (by kernel_rfl) ?_; simp only [Act.put, List.setIfInBounds_toArray, List.set_cons_succ, List.set_cons_zero]; go_big_quiet_on) | go_big_quiet_step (exact Rg.later_of hB (turn512_int _ _ _ hx (by assumption) (by assumption))))
 refine wpQuiet_nil ?_
 rintro _ ⟨s, rfl⟩
 go_wp2
 go_ret
 have hb : Below w.heap.size w s.val := hBW.trans (s.is.mono (by omega))
 refine ⟨?_, hb⟩
 show Ending.returned (.int .u64 (bits .xor .u64 (bits .xor .u64 (rot 64 x a.toNat : Int) (rot 64 x b.toNat : Int)) ((x : Int) / 2 ^ c.toNat))) = _
 rw [xor_rot 64 x _ _ (by decide), show (x : Int) / 2 ^ c.toNat = ((x / 2 ^ c.toNat : Nat) : Int) by rw [Int.natCast_ediv, Int.natCast_pow]; rfl, xor_threeS 64 x _ _ _ (by decide) hx]
theorem large512_any (w : World) (x : Nat) (a b c : Int) (hx : x < 18446744073709551616) (ha : 0 < a) (ha2 : a < 64) (hb : 0 < b) (hb2 : b < 64) (hc : 0 < c) (hc2 : c < 64) : Calls Tryz.prog 115 #[K512, .int .u64 x, .agg #[.int .i64 a, .int .i64 b, .int .i64 c]] w fun e w' => e = .returned (.int .u64 (three 64 x a.toNat b.toNat c.toNat : Nat)) ∧ Below w.heap.size w w' := by
 unfold K512
 have hm : min c.toNat 64 = c.toNat := by omega
 go_enter Tryz.func115, Tryz.ntmps115
 go_wp2_with fail
 generalize hW : World.alloc (World.alloc w _) _ = W
 have L := Rg.Later.cellOf (B := w.heap.size + 2) hW
 have hB : w.heap.size + 2 ≤ W.heap.size := by subst hW; simp
 have hBW : Below w.heap.size w W := by subst hW; exact ((Below.refl _ _).alloc (Nat.le_refl _) _).alloc (by simp) _
 have HK := ϕ (show Rg.Blk W w.heap.size 113 k512c by subst hW; exact (Rg.Blk.new _ _ _).alloc _)
 clear hW
 refine Rg.wp_region_later_all (w.heap.size + 2) (by kernel_rfl) (by kernel_rfl) ?_
 repeat (first | (go_big_quiet_want; refine Rg.quiet_load_row 113 _ rfl _ rfl _ _ _ (HK.out.later (by omega)) Tryz.underlying113 rfl (by kernel_rfl) ?_; simp only [Act.put, List.setIfInBounds_toArray, List.set_cons_succ, List.set_cons_zero]; go_big_quiet_on) | go_big_quiet_step (exact Rg.later_of hB (turn512_int _ _ _ hx (by assumption) (by assumption))))
 refine wpQuiet_nil ?_
 rintro _ ⟨s, rfl⟩
 go_wp2
 go_ret
 have hb : Below w.heap.size w s.val := hBW.trans (s.is.mono (by omega))
 refine ⟨?_, hb⟩
 show Ending.returned (.int .u64 (bits .xor .u64 (bits .xor .u64 (rot 64 x a.toNat : Int) (rot 64 x b.toNat : Int)) (rot 64 x c.toNat : Int))) = _
 rw [xor_rot 64 x _ _ (by decide), xor_three 64 x _ _ _ (by decide)]
open Go.Proofs.YtfpcelmekfdafaaGreatDoor.Cl
/-- the world holds both tables -/
structure Tables (w : World) : Prop where
 words : ∀ t, t < 80 → w.cell? ⟨2, t, none⟩ = some (.int .u64 (nth wordsL t : Nat))
 first : ∀ t, t < 8 → w.cell? ⟨1, t, none⟩ = some (.int .u64 (nth firstL t : Nat))
 size : 3 ≤ w.heap.size
theorem Tables.below {w w' : World} {B : Nat} (h : Tables w) (hb : Below B w w') (hB : 3 ≤ B) : Tables w' :=
 ⟨fun t ht => (hb.cell (p := ⟨2, t, none⟩) (Nat.lt_of_lt_of_le (by dsimp only; decide) hB)).trans (h.words t ht),
  fun t ht => (hb.cell (p := ⟨1, t, none⟩) (Nat.lt_of_lt_of_le (by dsimp only; decide) hB)).trans (h.first t ht),
  Nat.le_trans h.size hb.size⟩
end Go.Proofs.YtfpcelmekfdafaaGreatDoor.Sha
namespace Go.Proofs.YtfpcelmekfdafaaGreatDoor.Dg
open Go.RowKit Go.Proofs.YtfpcelmekfdafaaGreatDoor.Ow
theorem lo_split : ∀ (p q N : Nat), lo (p + 1 + q) N = lo p N ++ (N / 65536 ^ p % 65536) :: lo q (N / 65536 ^ (p + 1))
 | 0, q, N => by rw [show 0 + 1 + q = q + 1 by omega, lo, Nat.pow_zero, Nat.div_one, Nat.zero_add, Nat.pow_one]; rfl
 | p + 1, q, N => by
  rw [show p + 1 + 1 + q = (p + 1 + q) + 1 by omega, lo, lo_split p q, lo, Nat.div_div_eq_div_mul, Nat.div_div_eq_div_mul, ← Nat.pow_succ', ← Nat.pow_succ']; rfl
/-- a digit set -/
def put (N p d : Nat) : Nat := N % 65536 ^ p + d * 65536 ^ p + N / 65536 ^ (p + 1) * 65536 ^ (p + 1)
theorem set_lo {n p d : Nat} (N : Nat) (hp : p < n) (hd : d < 65536) : (lo n N).set p d = lo n (put N p d) := by
 obtain ⟨q, rfl⟩ : ∃ q, n = p + 1 + q := ⟨n - p - 1, by omega⟩
 have hpos := pow_pos p
 have hN : N % 65536 ^ p < 65536 ^ p := Nat.mod_lt _ hpos
 have e0 : put N p d = N % 65536 ^ p + (d + N / 65536 ^ (p + 1) * 65536) * 65536 ^ p := by
  unfold put
  rw [Nat.add_mul, Nat.mul_assoc, show 65536 * 65536 ^ p = 65536 ^ (p + 1) by rw [Nat.pow_succ, Nat.mul_comm]]; omega
 have e1 : put N p d / 65536 ^ p = d + N / 65536 ^ (p + 1) * 65536 := by
  rw [e0, Nat.add_mul_div_right _ _ hpos, Nat.div_eq_of_lt hN, Nat.zero_add]
 have e2 : put N p d % 65536 ^ p = N % 65536 ^ p := by rw [e0, Nat.add_mul_mod_self_right, Nat.mod_mod]
 have e3 : put N p d / 65536 ^ (p + 1) = N / 65536 ^ (p + 1) := by
  have e4 : put N p d / 65536 ^ (p + 1) = put N p d / 65536 ^ p / 65536 := by rw [Nat.div_div_eq_div_mul, ← Nat.pow_succ]
  rw [e4, e1]
  generalize N / 65536 ^ (p + 1) = z
  omega
 rw [lo_split, lo_split, e3, e1, ← lo_mod p (put N p d), e2, lo_mod, List.set_append_right _ _ (by rw [lo_len]; exact Nat.le_refl _), lo_len, Nat.sub_self, List.set_cons_zero]
 congr 2
 omega
theorem put_eq (N p d : Nat) : put N p d + (N / 65536 ^ p % 65536) * 65536 ^ p = N + d * 65536 ^ p := by
 have h := pow_split N p
 have h2 := Nat.mod_add_div N (65536 ^ (p + 1))
 unfold put
 rw [Nat.mul_comm (65536 ^ (p + 1))] at h2
 omega
theorem dig_top {d m : Nat} (h0 : d ≠ 0) (hd : d < 65536) : dig (d * 65536 ^ m) = lo (m + 1) (d * 65536 ^ m) := by
 have hp := pow_pos m
 have h1 : (dig (d * 65536 ^ m)).length ≤ m + 1 := dig_len_le (by rw [Nat.pow_succ, Nat.mul_comm (65536 ^ m)]; exact Nat.mul_lt_mul_of_pos_right hd hp)
 have h2 := dig_lt (d * 65536 ^ m)
 have h3 : m < (dig (d * 65536 ^ m)).length := by
  refine Nat.lt_of_not_le fun h => ?_
  have h4 : 65536 ^ (dig (d * 65536 ^ m)).length ≤ 65536 ^ m := Nat.pow_le_pow_right (by decide) h
  have h5 : 1 * 65536 ^ m ≤ d * 65536 ^ m := Nat.mul_le_mul_right _ (by omega)
  omega
 have h4 : (dig (d * 65536 ^ m)).length = m + 1 := by omega
 have h5 := dig_lo (d * 65536 ^ m)
 rwa [h4] at h5
theorem dig_two (n m r : Nat) (hn : n = 16 * m + r) (hr : r < 16) : (lo (m + 1) 0).set m (2 ^ r) = dig (2 ^ n) := by
 have h1 : 2 ^ r < 65536 := by
  have : 2 ^ r < 2 ^ 16 := Nat.pow_lt_pow_right (by decide) hr
  omega
 have h2 : 2 ^ n = 2 ^ r * 65536 ^ m := by
  rw [show (65536 : Nat) = 2 ^ 16 from rfl, ← Nat.pow_mul, ← Nat.pow_add, hn]; congr 1; omega
 rw [set_lo 0 (by omega) h1, h2, dig_top (by have := Nat.two_pow_pos r; omega) h1]
 unfold put
 simp
theorem Power_any (w : World) (n m r : Nat) (hnm : n = 16 * m + r) (hr : r < 16) (hm : m ≤ 10000) :
 Calls Tryz.prog 92 #[.int .i64 n] w fun e w' => (∃ u, e = .returned u ∧ Ns w' u (dig (2 ^ n))) ∧ Below w.heap.size w w' := by
 have HD := ϕ (dig_two n m r hnm hr)
 have hq : (n : Int) / 16 = (m : Int) := by omega
 have hrr : (n : Int) % 16 = (r : Int) := by omega
 have hm0 : (0 : Int) ≤ (m : Int) := by omega
 have hmm : (m : Int) < (m : Int) + 1 := by omega
 have hr0 : (r : Int) < 16 := by omega
 have hr1 : (0 : Int) ≤ (r : Int) := by omega
 have h2r : 2 ^ r < 65536 := by
  have : 2 ^ r < 2 ^ 16 := Nat.pow_lt_pow_right (by decide) hr
  omega
 have hws : IntKind.i64.wrap ((2 : Int) ^ r) = ((2 ^ r : Nat) : Int) := by
  rw [show ((2 : Int) ^ r) = ((2 ^ r : Nat) : Int) by rw [Int.natCast_pow]; rfl]
  generalize 2 ^ r = t at *
  simp [IntKind.wrap, IntKind.bits, IntKind.signed]
  omega
 clear hnm hr
 go_enter Tryz.func92, Tryz.ntmps92
 go_upto_region 2 with (refine make0 rfl _ _ rfl _ _ (m + 1) rfl rfl (by omega) (by omega) (by omega) ?_; intro V hO hG; have HO := ϕ hO; have HG := ϕ hG; clear hO hG)
 obtain ⟨g, hg⟩ : ∃ n, w.heap.size = n := ⟨_, rfl⟩
 rw [hg] at HO
 try rw [hg]
 have HGB := ϕ hg
 obtain ⟨hc, hf⟩ := own_cell HO.out (iv_get (lo_get (m + 1) 0 m (by omega)))
 rw [Nat.zero_div, Nat.zero_mod] at hc
 clear hg
 have hc2 : ((2 ^ r : Nat) : Int) = (2 : Int) ^ r := by rw [Int.natCast_pow]; rfl
 have HS := ϕ (show Owns (V.setCell ⟨g, m, none⟩ (.int .i64 ((2 : Int) ^ r))) g 3 (.slice (some ⟨g, 0, none⟩) (m + 1) (m + 1)) (iv (dig (2 ^ n))) from by
  have h := own_set HO.out m (.int .i64 ((2 ^ r : Nat) : Int))
  rw [iv_set, HD.out, hc2] at h
  exact h)
 have HB := ϕ (show Below w.heap.size w (V.setCell ⟨g, m, none⟩ (.int .i64 ((2 : Int) ^ r))) from by rw [HGB.out]; exact own_set_below HO.out (by have h := (Sp.Upd.of_grown0 HG.out).below; rwa [HGB.out] at h) (by have h := (own_g HO.out).2.1; omega) m _)
 clear hc2
 go_wp2_with fail
 go_ret
 exact ⟨⟨_, rfl, Ns.owns HS.out⟩, HB.out⟩
theorem below_drewN (w : World) (n : Nat) : Below w.heap.size w (w.drewN n) := Below.drewN' (Below.refl _ _) n
theorem below_2 {w w1 : World} {B : Nat} (h : Below B w w1) (n m : Nat) : Below B w ((w1.drewN n).drewN m) := Below.drewN' (Below.drewN' h n) m
def cmpZ (a b : Nat) : Int := if a < b then -1 else if b < a then 1 else 0
theorem cmp_lt {a b : Nat} (h : a < b) : cmpZ a b = -1 := by unfold cmpZ; rw [if_pos h]
theorem cmp_gt {a b : Nat} (h : b < a) : cmpZ a b = 1 := by unfold cmpZ; rw [if_neg (by omega), if_pos h]
theorem cmp_eq {a b : Nat} (h : a = b) : cmpZ a b = 0 := by unfold cmpZ; rw [if_neg (by omega), if_neg (by omega)]
theorem top_lt {a b k x y : Nat} (h : a / 65536 ^ (k + 1) = b / 65536 ^ (k + 1)) (hx : x = a / 65536 ^ k % 65536) (hy : y = b / 65536 ^ k % 65536) (hxy : x < y) : a < b := by
 rw [Nat.pow_succ, ← Nat.div_div_eq_div_mul, ← Nat.div_div_eq_div_mul] at h
 have h2 : a / 65536 ^ k < b / 65536 ^ k := by omega
 refine Nat.lt_of_not_le fun h3 => ?_
 have := Nat.div_le_div_right (c := 65536 ^ k) h3
 omega
theorem top_eq {a b k x y : Nat} (h : a / 65536 ^ (k + 1) = b / 65536 ^ (k + 1)) (hx : x = a / 65536 ^ k % 65536) (hy : y = b / 65536 ^ k % 65536) (hxy : x = y) : a / 65536 ^ k = b / 65536 ^ k := by
 rw [Nat.pow_succ, ← Nat.div_div_eq_div_mul, ← Nat.div_div_eq_div_mul] at h
 omega
theorem Cmp_any (w : World) (v1 v2 : Value) (a b : Nat) (h1 : Ns w v1 (dig a)) (h2 : Ns w v2 (dig b)) (ha : (dig a).length ≤ 10000) (hb : (dig b).length ≤ 10000) :
 Calls Tryz.prog 71 #[v1, v2] w fun e w' => e = .returned (.int .i64 (cmpZ a b)) ∧ Below w.heap.size w w' := by
 have HT1 := ϕ (trim_any w v1 (dig a) h1 (by omega))
 have HT2 := ϕ (trim_any w v2 (dig b) h2 (by omega))
 obtain ⟨n1, hn1⟩ : ∃ n, (dig a).length = n := ⟨_, rfl⟩
 obtain ⟨n2, hn2⟩ : ∃ n, (dig b).length = n := ⟨_, rfl⟩
 have HL1 := ϕ hn1
 have HL2 := ϕ hn2
 rw [hn1] at ha
 rw [hn2] at hb
 clear h1 h2
 go_enter Tryz.func71, Tryz.ntmps71
 have tok1 := True.intro
 go_upto_region 3 with (first
  | (have _t := tok1; go_at_call 59; refine HT1.out.mono ?_; rintro e w7 ⟨⟨u1, rfl, h7⟩, rfl⟩; have H1 := ϕ h7; clear h7 _t tok1; have tok2 := True.intro)
  | (have _t := tok2; go_at_call 59; refine HT2.out.mono ?_; rintro e w7 ⟨⟨u2, rfl, h7⟩, rfl⟩; have H2 := ϕ h7; clear h7 _t tok2))
 have h1 := H1.out
 have h2 := H2.out
 rw [trim_dig] at h1 h2
 clear H1 H2 HT1 HT2
 obtain ⟨A1, c1, rfl, hR1, hc1⟩ := h1
 obtain ⟨A2, c2, rfl, hR2, hc2⟩ := h2
 have HR1 := ϕ hR1
 have HR2 := ϕ hR2
 rw [hn1] at hc1
 rw [hn2] at hc2
 simp only [hn1, hn2]
 clear hR1 hR2 hn1 hn2
 by_cases hne : n1 = n2
 · subst hne
   have hnn : ((n1 : Int) != (n1 : Int)) = false := by simp
   go_wp2_with fail
   go_loopw [4, 5] (fun _ i wr => ∃ k : Nat, i = .int .i64 ((k : Int) - 1) ∧ k ≤ n1 ∧ a / 65536 ^ k = b / 65536 ^ k ∧ Below w.heap.size w wr) (fun _ i _ => (intOf i + 1).toNat)
   case atStart =>
    have e1 := dig_lt a
    have e2 := dig_lt b
    rw [HL1.out] at e1
    rw [HL2.out] at e2
    exact ⟨n1, rfl, Nat.le_refl _, by rw [Nat.div_eq_of_lt e1, Nat.div_eq_of_lt e2], Below.refl _ _⟩
   case round =>
    obtain ⟨k0, rfl, hk, hE, hB⟩ := hrel
    have HB := ϕ hB
    clear hB
    by_cases h0 : k0 = 0
    · subst h0
      have HZ := ϕ (cmp_eq (show a = b by simpa using hE))
      have e1 : ((0 : Nat) : Int) - 1 = -1 := by omega
      rw [e1]
      clear hE e1
      go_wp2_with fail
      go_ret
      exact ⟨by rw [HZ.out]; rfl, HB.out⟩
    · obtain ⟨k, rfl⟩ : ∃ k, k0 = k + 1 := ⟨k0 - 1, by omega⟩
      have hge : (0 : Int) ≤ (k : Int) := by omega
      have hgd : decide ((0 : Int) ≤ (k : Int)) = true := by rw [decide_eq_true_iff]; omega
      have hkl : (k : Int) < (n1 : Int) := by omega
      have hke : ((k + 1 : Nat) : Int) - 1 = (k : Int) := by omega
      rw [hke]
      obtain ⟨b1, o1, hA1, hl1, hcell1⟩ := Ns.at_ HR1.out (show k < (dig a).length by have := HL1.out; omega)
      obtain ⟨x1, hx1⟩ : ∃ x, x = a / 65536 ^ k % 65536 := ⟨_, rfl⟩
      have hxl1 : x1 < 65536 := by omega
      rw [show (dig a)[k]'(by have := HL1.out; omega) = x1 from by have := dig_get (n := a) (i := k) (by have := HL1.out; omega); rw [List.getElem?_eq_getElem (by have := HL1.out; omega)] at this; rw [hx1]; exact Option.some.inj this] at hcell1
      subst hA1
      obtain ⟨b2, o2, hA2, hl2, hcell2⟩ := Ns.at_ HR2.out (show k < (dig b).length by have := HL2.out; omega)
      obtain ⟨x2, hx2⟩ : ∃ x, x = b / 65536 ^ k % 65536 := ⟨_, rfl⟩
      have hxl2 : x2 < 65536 := by omega
      rw [show (dig b)[k]'(by have := HL2.out; omega) = x2 from by have := dig_get (n := b) (i := k) (by have := HL2.out; omega); rw [List.getElem?_eq_getElem (by have := HL2.out; omega)] at this; rw [hx2]; exact Option.some.inj this] at hcell2
      subst hA2
      replace hcell1 : wr.cell? ⟨b1, o1 + k, none⟩ = some (.int .i64 (x1 : Nat)) := by rw [← hcell1]; exact HB.out.cell (p := ⟨b1, o1 + k, none⟩) hl1
      replace hcell2 : wr.cell? ⟨b2, o2 + k, none⟩ = some (.int .i64 (x2 : Nat)) := by rw [← hcell2]; exact HB.out.cell (p := ⟨b2, o2 + k, none⟩) hl2
      have HE := ϕ hE
      have HX1 := ϕ hx1
      have HX2 := ϕ hx2
      clear hE hx1 hx2 hke
      by_cases g1 : x1 < x2
      · have HZ := ϕ (cmp_lt (top_lt HE.out HX1.out HX2.out g1))
        have gd : decide ((x1 : Int) < (x2 : Int)) = true := by rw [decide_eq_true_iff]; omega
        go_wp2_with fail
        go_quiet (fail)
        go_wp2_with fail
        go_ret
        exact ⟨by rw [HZ.out]; rfl, Below.drewN' HB.out _⟩
      · by_cases g2 : x2 < x1
        · have HZ := ϕ (cmp_gt (top_lt HE.out.symm HX2.out HX1.out g2))
          have gd : decide ((x1 : Int) < (x2 : Int)) = false := by rw [decide_eq_false_iff_not]; omega
          have gd2 : decide ((x2 : Int) < (x1 : Int)) = true := by rw [decide_eq_true_iff]; omega
          go_wp2_with fail
          go_quiet (fail)
          go_wp2_with fail
          go_quiet (fail)
          go_wp2_with fail
          go_ret
          exact ⟨by rw [HZ.out]; rfl, below_2 HB.out _ _⟩
        · have HZ := ϕ (top_eq HE.out HX1.out HX2.out (by omega))
          have gd : decide ((x1 : Int) < (x2 : Int)) = false := by rw [decide_eq_false_iff_not]; omega
          have gd2 : decide ((x2 : Int) < (x1 : Int)) = false := by rw [decide_eq_false_iff_not]; omega
          go_wp2_with fail
          go_quiet (fail)
          go_wp2_with fail
          go_quiet (fail)
          go_wp2_with fail
          go_roundw
          case rel =>
           first
            | exact ⟨k, rfl, by omega, HZ.out, Below.drewN' HB.out _⟩
            | ((repeat apply Exists.intro); refine ⟨?_, rfl⟩; exact ⟨k, rfl, by omega, HZ.out, Below.drewN' HB.out _⟩)
          case measure => (first | (simp [intOf]; done) | (simp [intOf]; omega))
 · have hnn : ((n1 : Int) != (n2 : Int)) = true := by simp; omega
   by_cases hlt : n1 < n2
   · have HZ := ϕ (cmp_lt (dig_len_lt (show (dig a).length < (dig b).length by rw [HL1.out, HL2.out]; exact hlt)))
     have gd : decide ((n1 : Int) < (n2 : Int)) = true := by rw [decide_eq_true_iff]; omega
     go_wp2_with fail
     go_ret
     exact ⟨by rw [HZ.out]; rfl, Below.refl _ _⟩
   · have HZ := ϕ (cmp_gt (dig_len_lt (show (dig b).length < (dig a).length by rw [HL1.out, HL2.out]; omega)))
     have gd : decide ((n1 : Int) < (n2 : Int)) = false := by rw [decide_eq_false_iff_not]; omega
     go_wp2_with fail
     go_ret
     exact ⟨by rw [HZ.out]; rfl, Below.refl _ _⟩
open Go.Proofs.YtfpcelmekfdafaaGreatDoor.Kx
/-- a slice of its own that is not empty: where it lies, and what a store does -/
theorem owns_at {w : World} {B : Nat} {E : TypeId} {v : Value} {xs : List Value} (h : Owns w B E v xs) (hn : xs ≠ []) :
 ∃ g c, v = .slice (some ⟨g, 0, none⟩) xs.length c ∧ B ≤ g ∧ g < w.heap.size ∧ (∀ j x, xs[j]? = some x → w.cell? ⟨g, j, none⟩ = some x ∧ w.frozen? ⟨g, j, none⟩ = false) ∧
  ∀ W' : World, Below w.heap.size w W' → ∀ (j : Nat) (y : Value), Owns (W'.setCell ⟨g, j, none⟩ y) B E v (xs.set j y) := by
 obtain ⟨A, c, hv, _, _⟩ := h.form
 subst hv
 have h2 := h
 obtain ⟨hl, h2⟩ := h2
 rcases h2 with ⟨_, h0⟩ | ⟨g, cap, cur, hv, hb, hg, hc, hm, hsz, htk⟩
 · exact absurd (List.eq_nil_of_length_eq_zero h0) hn
 · cases hv
   exact ⟨g, c, rfl, hb, (own_g h).2.1, fun j x hx => own_cell h hx, fun W' hbw j y => own_set (h.below hbw) j y⟩
theorem leN_snoc (b : UInt8) : ∀ l : List UInt8, leN (l ++ [b]) = leN l + b.toNat * 256 ^ l.length
 | [] => by simp [leN]
 | x :: r => by
  show x.toNat + 256 * leN (r ++ [b]) = x.toNat + 256 * leN r + b.toNat * 256 ^ (r.length + 1)
  rw [leN_snoc b r, Nat.pow_succ, Nat.mul_add]
  generalize 256 ^ r.length = p
  rw [show 256 * (b.toNat * p) = b.toNat * (p * 256) by rw [Nat.mul_comm, Nat.mul_assoc]]
  omega
theorem leN_take {l : List UInt8} {i : Nat} {b : UInt8} (h : l[i]? = some b) : leN (l.take (i + 1)) = leN (l.take i) + b.toNat * 256 ^ i := by
 have hi : i < l.length := (List.getElem?_eq_some_iff.1 h).1
 rw [List.take_add_one, h, Option.toList_some, leN_snoc, List.length_take, Nat.min_eq_left (by omega)]
theorem leN_take_lt (l : List UInt8) (i : Nat) : leN (l.take i) < 256 ^ i := by
 have h := leN_lt (l.take i)
 exact Nat.lt_of_lt_of_le h (Nat.pow_le_pow_right (by decide) (by rw [List.length_take]; omega))
theorem pow256 (j : Nat) : 256 ^ (2 * j) = 65536 ^ j := by rw [Nat.pow_mul]
theorem of_even {l : List UInt8} {i j : Nat} {b : UInt8} (h : l[i]? = some b) (hi : i = 2 * j) : lo (j + 1) (leN (l.take (i + 1))) = lo j (leN (l.take i)) ++ [b.toNat] := by
 have h1 := leN_take_lt l i
 have hb := b.toNat_lt
 have hp := pow_pos j
 rw [leN_take h]
 rw [hi, pow256] at h1 ⊢
 generalize leN (l.take (2 * j)) = N at *
 rw [lo_snoc, Nat.add_mul_div_right _ _ hp, Nat.div_eq_of_lt h1, Nat.zero_add, Nat.mod_eq_of_lt (by omega), ← lo_mod j (N + _), Nat.add_mul_mod_self_right, lo_mod]
theorem of_odd {l : List UInt8} {i j : Nat} {b : UInt8} (h : l[i]? = some b) (hi : i = 2 * j + 1) : leN (l.take i) / 65536 ^ j % 65536 < 256 ∧ lo (j + 1) (leN (l.take (i + 1))) = (lo (j + 1) (leN (l.take i))).set j (leN (l.take i) / 65536 ^ j % 65536 + 256 * b.toNat) := by
 have h1 := leN_take_lt l i
 have hb := b.toNat_lt
 have hp := pow_pos j
 rw [leN_take h]
 rw [hi, Nat.pow_succ, pow256] at h1 ⊢
 generalize leN (l.take (2 * j + 1)) = N at *
 have hx : N / 65536 ^ j < 256 := Nat.div_lt_of_lt_mul h1
 have hx2 : N / 65536 ^ j % 65536 = N / 65536 ^ j := Nat.mod_eq_of_lt (by omega)
 have h3 := put_eq N j (N / 65536 ^ j % 65536 + 256 * b.toNat)
 refine ⟨by omega, ?_⟩
 rw [set_lo N (by omega) (by omega)]
 congr 1
 rw [Nat.add_mul] at h3
 rw [show b.toNat * (65536 ^ j * 256) = 256 * b.toNat * 65536 ^ j by rw [Nat.mul_comm (65536 ^ j), ← Nat.mul_assoc, Nat.mul_comm b.toNat]]
 omega
theorem get_list (S : ByteArray) (k : Nat) (h : k < S.size) : S.data.toList[k]? = some S[k] := by
 rw [Array.getElem?_toList]; exact Array.getElem?_eq_getElem h
theorem Of_any (w : World) (S : ByteArray) (hs : S.size ≤ 10000) :
 Calls Tryz.prog 25 #[.string S] w fun e w' => (∃ u, e = .returned u ∧ Ns w' u (dig (leN S.data.toList))) ∧ Below w.heap.size w w' := by
 have HON := ϕ (show Owns (w.alloc (.cells #[] 3)) w.heap.size 3 (.slice (some ⟨w.heap.size, 0, none⟩) 0 0) (iv (lo ((0 + 1) / 2) (leN (S.data.toList.take 0)))) from Owns.new w w.heap.size 3 [] (Nat.le_refl _) (by decide))
 have HBA := ϕ (show Below w.heap.size w (w.alloc (.cells #[] 3)) from (Below.refl _ _).alloc (Nat.le_refl _) _)
 go_enter Tryz.func25, Tryz.ntmps25
 go_wp2
 go_loopw [3, 4] (fun v i wr => ∃ k : Nat, k ≤ S.size ∧ i = .int .i64 k ∧ Owns wr w.heap.size 3 v (iv (lo ((k + 1) / 2) (leN (S.data.toList.take k)))) ∧ Below w.heap.size w wr) (fun _ i _ => S.size - (intOf i).toNat)
 case atStart => exact ⟨0, Nat.zero_le _, rfl, HON.out, HBA.out⟩
 case round =>
  obtain ⟨k, hk, rfl, hO, hB⟩ := hrel
  have HO := ϕ hO
  have HB := ϕ hB
  have HSB := ϕ hB.size
  clear hO hB HON HBA
  have HLE := ϕ (show (iv (lo ((k + 1) / 2) (leN (S.data.toList.take k)))).length ≤ 10000 by rw [iv_len, lo_len]; omega)
  by_cases hlt : k < S.size
  · have hik : (k : Int) < S.size := by omega
    have hdl : decide ((k : Int) < (S.size : Int)) = true := by rw [decide_eq_true_iff]; omega
    have HX := ϕ (get_list S k hlt)
    have hbk := S[k].toNat_lt
    by_cases hc : k % 2 = 0
    · have e0 : (k : Int) % 2 = 0 := by omega
      obtain ⟨j, hj⟩ : ∃ j, k = 2 * j := ⟨k / 2, by omega⟩
      have HN := ϕ (of_even HX.out hj)
      have HJ := ϕ (show (k + 1) / 2 = j ∧ (k + 1 + 1) / 2 = j + 1 by omega)
      clear hc hj
      go_wp2_with (refine app1 rfl _ _ 38 rfl (E := 3) (z := .int .i64 0) (by' := 8) rfl rfl rfl (by decide) HO.out rfl rfl rfl (by have h1 := HLE.out; omega) HSB.out ?_; rintro v6 w6 h2 h3 h4; have HO6 := ϕ h2; have HB6 := ϕ (own_grown HB.out HO.out h3); clear h2 h3 h4)
      go_roundw
      case rel =>
       have REL := ϕ (show ∃ k2 : Nat, k2 ≤ S.size ∧ Value.int .i64 ((k : Int) + 1) = .int .i64 k2 ∧ Owns w6 w.heap.size 3 v6 (iv (lo ((k2 + 1) / 2) (leN (S.data.toList.take k2)))) ∧ Below w.heap.size w w6 from ⟨k + 1, by omega, by go_num, by rw [HJ.out.2, HN.out, ← iv_snoc, ← HJ.out.1]; exact HO6.out, HB6.out⟩)
       first
        | exact REL.out
        | ((repeat apply Exists.intro); refine ⟨?_, rfl⟩; exact REL.out)
      case measure => (first | (simp [intOf]; done) | (simp [intOf]; omega))
    · obtain ⟨j, hj⟩ : ∃ j, k = 2 * j + 1 := ⟨k / 2, by omega⟩
      have e0 : (k : Int) % 2 = 1 := by omega
      have e1 : (k : Int) / 2 = (j : Int) := by omega
      have HN := ϕ (of_odd HX.out hj)
      have HJ := ϕ (show (k + 1) / 2 = j + 1 ∧ (k + 1 + 1) / 2 = j + 1 by omega)
      have hO2 := HO.out
      rw [HJ.out.1] at hO2
      obtain ⟨g, c, hv, hBg, hgs, hcl, hset⟩ := owns_at hO2 (by intro e; have := congrArg List.length e; rw [iv_len, lo_len] at this; simp at this)
      rw [iv_len, lo_len] at hv
      obtain ⟨x, hx⟩ : ∃ x, x = leN (S.data.toList.take k) / 65536 ^ j % 65536 := ⟨_, rfl⟩
      obtain ⟨hcell, hfz⟩ := hcl j _ (iv_get (lo_get (j + 1) (leN (S.data.toList.take k)) j (by omega)))
      rw [← hx] at hcell
      have hx3 : x < 256 := by rw [hx]; exact HN.out.1
      have HN2 := ϕ (show lo (j + 1) (leN (S.data.toList.take (k + 1))) = (lo (j + 1) (leN (S.data.toList.take k))).set j (x + 256 * S[k].toNat) by rw [hx]; exact HN.out.2)
      have HSET := ϕ hset
      have hj0 : (0 : Int) ≤ (j : Int) := by omega
      subst hv
      clear hc hj HN hO2 hx hcl hset HO hBg
      have C1 := fun s : Rg.Later wr.heap.size wr => s.cell g j hgs
      have F1 := fun s : Rg.Later wr.heap.size wr => s.frozen g j hgs
      go_wp2_with fail
      refine Rg.wp_region_later wr.heap.size 12 (by kernel_rfl) (by kernel_rfl) ?_
      simp only [List.take_succ_cons, List.take_zero, List.drop_succ_cons, List.drop_zero]
      repeat (go_big_quiet_step (fail))
      refine wpQuiet_nil ?_
      rintro _ ⟨s9, rfl⟩
      have c1 : s9.val.cell? ⟨g, j, none⟩ = some (.int .i64 (x : Nat)) := by rw [C1]; exact hcell
      have f1 : s9.val.frozen? ⟨g, j, none⟩ = false := by rw [F1]; exact hfz
      have HS9 := ϕ s9.is
      clear C1 F1
      have HB9 := ϕ (show Owns (s9.val.setCell ⟨g, j, none⟩ (.int .i64 ((x : Int) + 256 * (S[k].toNat : Int)))) w.heap.size 3 (.slice (some ⟨g, 0, none⟩) (j + 1) c) (iv (lo (j + 1) (leN (S.data.toList.take (k + 1))))) ∧ Below w.heap.size w (s9.val.setCell ⟨g, j, none⟩ (.int .i64 ((x : Int) + 256 * (S[k].toNat : Int)))) from by
       have h := HSET.out s9.val HS9.out j (.int .i64 ((x + 256 * S[k].toNat : Nat) : Int))
       rw [iv_set, ← HN2.out, show ((x + 256 * S[k].toNat : Nat) : Int) = (x : Int) + 256 * (S[k].toNat : Int) by omega] at h
       exact ⟨h, Below.grown (HB.out.trans (HS9.out.mono HSB.out)) (Cl.grown_setCell _ g j _) (HB.out.trans (HS9.out.mono HSB.out)).size (fun q hq => by cases hq; exact (own_g h).1)⟩)
      go_wp2_with fail
      go_roundw
      case rel =>
       have REL := ϕ (show ∃ k2 : Nat, k2 ≤ S.size ∧ Value.int .i64 ((k : Int) + 1) = .int .i64 k2 ∧ Owns (s9.val.setCell ⟨g, j, none⟩ (.int .i64 ((x : Int) + 256 * (S[k].toNat : Int)))) w.heap.size 3 (.slice (some ⟨g, 0, none⟩) (j + 1) c) (iv (lo ((k2 + 1) / 2) (leN (S.data.toList.take k2)))) ∧ Below w.heap.size w (s9.val.setCell ⟨g, j, none⟩ (.int .i64 ((x : Int) + 256 * (S[k].toNat : Int)))) from ⟨k + 1, by omega, by go_num, by rw [HJ.out.2]; exact HB9.out.1, HB9.out.2⟩)
       first
        | exact REL.out
        | ((repeat apply Exists.intro); refine ⟨?_, rfl⟩; exact REL.out)
      case measure => (first | (simp [intOf]; done) | (simp [intOf]; omega))
  · have hks : k = S.size := by omega
    have hik : ¬ (k : Int) < S.size := by omega
    have hdl : decide ((k : Int) < (S.size : Int)) = false := by rw [decide_eq_false_iff_not]; omega
    have HNS := ϕ (Ns.owns HO.out)
    have HT := ϕ (show trimL (lo ((k + 1) / 2) (leN (S.data.toList.take k))) = dig (leN S.data.toList) from by
     rw [hks, show S.size = S.data.toList.length from Array.length_toList.symm, List.take_length]
     refine trim_lo _ _ (Nat.lt_of_lt_of_le (leN_lt _) ?_)
     rw [← pow256]
     exact Nat.pow_le_pow_right (by decide) (by omega))
    have HTR := ϕ (trim_any wr u3 _ HNS.out (by rw [lo_len]; omega))
    go_wp2_with (go_at_call 59; refine HTR.out.mono ?_; rintro e w7 ⟨⟨u, rfl, h7⟩, rfl⟩; have H7 := ϕ h7; clear h7)
    go_ret
    exact ⟨⟨_, rfl, HT.out ▸ H7.out⟩, HB.out⟩
theorem bv_snoc (l : List UInt8) (n : Nat) (h : n < 256) : bv l ++ [Value.int .u8 (n : Int)] = bv (l ++ [UInt8.ofNat n]) := by
 rw [bv_append, bv_one (UInt8.ofNat n) n (by rw [UInt8.toNat_ofNat']; omega)]
theorem byte_even {a k j x : Nat} (hk : k = 2 * j) (hx : x = a / 65536 ^ j % 65536) : a / 256 ^ k % 256 = x % 256 := by
 rw [hk, pow256, hx]; omega
theorem byte_odd {a k j x : Nat} (hk : k = 2 * j + 1) (hx : x = a / 65536 ^ j % 65536) : a / 256 ^ k % 256 = x / 256 % 256 := by
 rw [hk, Nat.pow_succ, pow256, ← Nat.div_div_eq_div_mul, hx]; omega
theorem Bytes_any (w : World) (v : Value) (a n : Nat) (h1 : Ns w v (dig a)) (ha : (dig a).length ≤ 10000) (hn : n ≤ 10000) :
 Calls Tryz.prog 63 #[v, .int .i64 n] w fun e w' => e = .returned (.string ⟨(toLe n a).toArray⟩) ∧ Below w.heap.size w w' := by
 obtain ⟨A1, c1, rfl, hR1, hc1⟩ := h1
 obtain ⟨n1, hn1⟩ : ∃ n, (dig a).length = n := ⟨_, rfl⟩
 have HR1 := ϕ hR1
 have HL1 := ϕ hn1
 rw [hn1] at hc1 ha ⊢
 have HON := ϕ (show Owns (w.alloc (.cells #[] 5)) w.heap.size 5 (.slice (some ⟨w.heap.size, 0, none⟩) 0 0) (bv ((toLe n a).take 0)) from Owns.new w w.heap.size 5 [] (Nat.le_refl _) (by decide))
 have HBA := ϕ (show Below w.heap.size w (w.alloc (.cells #[] 5)) from (Below.refl _ _).alloc (Nat.le_refl _) _)
 clear hR1 hn1
 go_enter Tryz.func63, Tryz.ntmps63
 go_wp2
 go_loopw [5, 6, 7] (fun v i _ wr => ∃ k : Nat, i = .int .i64 k ∧ k ≤ n ∧ Owns wr w.heap.size 5 v (bv ((toLe n a).take k)) ∧ Below w.heap.size w wr) (fun _ i _ _ => n - (intOf i).toNat)
 case atStart => exact ⟨0, rfl, by omega, HON.out, HBA.out⟩
 case round =>
  obtain ⟨k, rfl, hk, hO, hB⟩ := hrel
  clear HON HBA
  have HO := ϕ hO
  have HB := ϕ hB
  have HSB := ϕ hB.size
  have HLE := ϕ (show (bv ((toLe n a).take k)).length ≤ 30000 by rw [bv_length, List.length_take]; omega)
  clear hO hB
  by_cases g1 : k < n
  · by_cases godd : k % 2 = 0
    · obtain ⟨j, hj⟩ : ∃ j, k = 2 * j := ⟨k / 2, by omega⟩
      have HKJ := ϕ hj
      by_cases g2 : j < n1
      · have hik : (k : Int) < (n : Int) := by omega
        have hdk : decide ((k : Int) < (n : Int)) = true := by rw [decide_eq_true_iff]; omega
        have hj0 : (0 : Int) ≤ (j : Int) := by omega
        have e1 : (k : Int) / 2 = (j : Int) := by omega
        have e0 : (k : Int) % 2 = 0 := by omega
        have hd2 : decide ((j : Int) < (n1 : Int)) = true := by rw [decide_eq_true_iff]; omega
        have hi2 : (j : Int) < (n1 : Int) := by omega
        obtain ⟨b1, o1, hA1, hl1, hcell1⟩ := Ns.at_ HR1.out (show j < (dig a).length by have := HL1.out; omega)
        obtain ⟨x1, hx1⟩ : ∃ x, x = a / 65536 ^ j % 65536 := ⟨_, rfl⟩
        have hxl1 : x1 < 65536 := by omega
        have HX1 := ϕ hx1
        rw [show (dig a)[j]'(by have := HL1.out; omega) = x1 from by have := dig_get (n := a) (i := j) (by have := HL1.out; omega); rw [List.getElem?_eq_getElem (by have := HL1.out; omega)] at this; rw [hx1]; exact Option.some.inj this] at hcell1
        replace hcell1 : wr.cell? ⟨b1, o1 + j, none⟩ = some (.int .i64 (x1 : Nat)) := by rw [← hcell1]; exact HB.out.cell (p := ⟨b1, o1 + j, none⟩) hl1
        subst hA1
        clear hx1
        have HN := ϕ (show (toLe n a).take (k + 1) = (toLe n a).take k ++ [UInt8.ofNat (x1 % 256)] by
         rw [List.take_add_one, toLe_get n a k (by omega), Option.toList_some]
         congr 3
         exact byte_even HKJ.out HX1.out)
        clear HX1 hj
        go_wp2_with (refine app1 rfl _ _ 25 rfl (E := 5) (z := .int .u8 0) (by' := 1) rfl rfl rfl (by decide) HO.out rfl rfl rfl (by have h1 := HLE.out; omega) HSB.out ?_; rintro v6 w6 h2 h3 h4; have HO6 := ϕ h2; have HB6 := ϕ (own_grown HB.out HO.out h3); clear h2 h3 h4)
        go_roundw
        case rel =>
         have REL := ϕ (show ∃ k2 : Nat, Value.int .i64 ((k : Int) + 1) = .int .i64 k2 ∧ k2 ≤ n ∧ Owns w6 w.heap.size 5 v6 (bv ((toLe n a).take k2)) ∧ Below w.heap.size w w6 from ⟨k + 1, by go_num, by omega, by rw [HN.out, ← bv_snoc _ _ (by omega)]; exact HO6.out, HB6.out⟩)
         first
          | exact REL.out
          | ((repeat apply Exists.intro); refine ⟨?_, rfl⟩; exact REL.out)
        case measure => (first | (simp [intOf]; done) | (simp [intOf]; omega))
      · have hik : (k : Int) < (n : Int) := by omega
        have hdk : decide ((k : Int) < (n : Int)) = true := by rw [decide_eq_true_iff]; omega
        have hj0 : (0 : Int) ≤ (j : Int) := by omega
        have e1 : (k : Int) / 2 = (j : Int) := by omega
        have e0 : (k : Int) % 2 = 0 := by omega
        have hd2 : decide ((j : Int) < (n1 : Int)) = false := by rw [decide_eq_false_iff_not]; omega
        have hi2 : ¬ (j : Int) < (n1 : Int) := by omega
        obtain ⟨x1, hx1⟩ : ∃ x, x = a / 65536 ^ j % 65536 := ⟨_, rfl⟩
        have hx01 : x1 = 0 := by rw [hx1]; exact big_digit (Nat.lt_of_lt_of_le (dig_lt a) (Nat.pow_le_pow_right (by decide) (by have := HL1.out; omega)))
        have HX1 := ϕ hx1
        clear hx1
        have HN := ϕ (show (toLe n a).take (k + 1) = (toLe n a).take k ++ [UInt8.ofNat 0] by
         rw [List.take_add_one, toLe_get n a k (by omega), Option.toList_some]
         congr 3
         exact byte_even HKJ.out HX1.out |>.trans (by rw [hx01]))
        clear HX1 hj
        clear hx01
        go_wp2_with (refine app1 rfl _ _ 25 rfl (E := 5) (z := .int .u8 0) (by' := 1) rfl rfl rfl (by decide) HO.out rfl rfl rfl (by have h1 := HLE.out; omega) HSB.out ?_; rintro v6 w6 h2 h3 h4; have HO6 := ϕ h2; have HB6 := ϕ (own_grown HB.out HO.out h3); clear h2 h3 h4)
        go_roundw
        case rel =>
         have REL := ϕ (show ∃ k2 : Nat, Value.int .i64 ((k : Int) + 1) = .int .i64 k2 ∧ k2 ≤ n ∧ Owns w6 w.heap.size 5 v6 (bv ((toLe n a).take k2)) ∧ Below w.heap.size w w6 from ⟨k + 1, by go_num, by omega, by rw [HN.out, ← bv_snoc _ _ (by omega)]; exact HO6.out, HB6.out⟩)
         first
          | exact REL.out
          | ((repeat apply Exists.intro); refine ⟨?_, rfl⟩; exact REL.out)
        case measure => (first | (simp [intOf]; done) | (simp [intOf]; omega))
    · obtain ⟨j, hj⟩ : ∃ j, k = 2 * j + 1 := ⟨k / 2, by omega⟩
      have HKJ := ϕ hj
      by_cases g2 : j < n1
      · have hik : (k : Int) < (n : Int) := by omega
        have hdk : decide ((k : Int) < (n : Int)) = true := by rw [decide_eq_true_iff]; omega
        have hj0 : (0 : Int) ≤ (j : Int) := by omega
        have e1 : (k : Int) / 2 = (j : Int) := by omega
        have e0 : (k : Int) % 2 = 1 := by omega
        have hd2 : decide ((j : Int) < (n1 : Int)) = true := by rw [decide_eq_true_iff]; omega
        have hi2 : (j : Int) < (n1 : Int) := by omega
        obtain ⟨b1, o1, hA1, hl1, hcell1⟩ := Ns.at_ HR1.out (show j < (dig a).length by have := HL1.out; omega)
        obtain ⟨x1, hx1⟩ : ∃ x, x = a / 65536 ^ j % 65536 := ⟨_, rfl⟩
        have hxl1 : x1 < 65536 := by omega
        have HX1 := ϕ hx1
        rw [show (dig a)[j]'(by have := HL1.out; omega) = x1 from by have := dig_get (n := a) (i := j) (by have := HL1.out; omega); rw [List.getElem?_eq_getElem (by have := HL1.out; omega)] at this; rw [hx1]; exact Option.some.inj this] at hcell1
        replace hcell1 : wr.cell? ⟨b1, o1 + j, none⟩ = some (.int .i64 (x1 : Nat)) := by rw [← hcell1]; exact HB.out.cell (p := ⟨b1, o1 + j, none⟩) hl1
        subst hA1
        clear hx1
        have HN := ϕ (show (toLe n a).take (k + 1) = (toLe n a).take k ++ [UInt8.ofNat ((x1 / 256) % 256)] by
         rw [List.take_add_one, toLe_get n a k (by omega), Option.toList_some]
         congr 3
         exact byte_odd HKJ.out HX1.out)
        clear HX1 hj
        go_wp2_with (refine app1 rfl _ _ 25 rfl (E := 5) (z := .int .u8 0) (by' := 1) rfl rfl rfl (by decide) HO.out rfl rfl rfl (by have h1 := HLE.out; omega) HSB.out ?_; rintro v6 w6 h2 h3 h4; have HO6 := ϕ h2; have HB6 := ϕ (own_grown HB.out HO.out h3); clear h2 h3 h4)
        go_roundw
        case rel =>
         have REL := ϕ (show ∃ k2 : Nat, Value.int .i64 ((k : Int) + 1) = .int .i64 k2 ∧ k2 ≤ n ∧ Owns w6 w.heap.size 5 v6 (bv ((toLe n a).take k2)) ∧ Below w.heap.size w w6 from ⟨k + 1, by go_num, by omega, by rw [HN.out, ← bv_snoc _ _ (by omega)]; exact HO6.out, HB6.out⟩)
         first
          | exact REL.out
          | ((repeat apply Exists.intro); refine ⟨?_, rfl⟩; exact REL.out)
        case measure => (first | (simp [intOf]; done) | (simp [intOf]; omega))
      · have hik : (k : Int) < (n : Int) := by omega
        have hdk : decide ((k : Int) < (n : Int)) = true := by rw [decide_eq_true_iff]; omega
        have hj0 : (0 : Int) ≤ (j : Int) := by omega
        have e1 : (k : Int) / 2 = (j : Int) := by omega
        have e0 : (k : Int) % 2 = 1 := by omega
        have hd2 : decide ((j : Int) < (n1 : Int)) = false := by rw [decide_eq_false_iff_not]; omega
        have hi2 : ¬ (j : Int) < (n1 : Int) := by omega
        obtain ⟨x1, hx1⟩ : ∃ x, x = a / 65536 ^ j % 65536 := ⟨_, rfl⟩
        have hx01 : x1 = 0 := by rw [hx1]; exact big_digit (Nat.lt_of_lt_of_le (dig_lt a) (Nat.pow_le_pow_right (by decide) (by have := HL1.out; omega)))
        have HX1 := ϕ hx1
        clear hx1
        have HN := ϕ (show (toLe n a).take (k + 1) = (toLe n a).take k ++ [UInt8.ofNat 0] by
         rw [List.take_add_one, toLe_get n a k (by omega), Option.toList_some]
         congr 3
         exact byte_odd HKJ.out HX1.out |>.trans (by rw [hx01]))
        clear HX1 hj
        clear hx01
        go_wp2_with (refine app1 rfl _ _ 25 rfl (E := 5) (z := .int .u8 0) (by' := 1) rfl rfl rfl (by decide) HO.out rfl rfl rfl (by have h1 := HLE.out; omega) HSB.out ?_; rintro v6 w6 h2 h3 h4; have HO6 := ϕ h2; have HB6 := ϕ (own_grown HB.out HO.out h3); clear h2 h3 h4)
        go_roundw
        case rel =>
         have REL := ϕ (show ∃ k2 : Nat, Value.int .i64 ((k : Int) + 1) = .int .i64 k2 ∧ k2 ≤ n ∧ Owns w6 w.heap.size 5 v6 (bv ((toLe n a).take k2)) ∧ Below w.heap.size w w6 from ⟨k + 1, by go_num, by omega, by rw [HN.out, ← bv_snoc _ _ (by omega)]; exact HO6.out, HB6.out⟩)
         first
          | exact REL.out
          | ((repeat apply Exists.intro); refine ⟨?_, rfl⟩; exact REL.out)
        case measure => (first | (simp [intOf]; done) | (simp [intOf]; omega))
  · have hik : ¬ (k : Int) < (n : Int) := by omega
    have hdk : decide ((k : Int) < (n : Int)) = false := by rw [decide_eq_false_iff_not]; omega
    have HV := ϕ (show Owns wr w.heap.size 5 u5 (bv (toLe n a)) by
     have := HO.out
     rw [List.take_of_length_le (by rw [toLe_len]; omega)] at this
     exact this)
    go_wp2_with (refine str rfl 25 5 9 _ rfl Tryz.underlying25 Tryz.underlying5 Tryz.underlying9 HV.out rfl ?_; skip)
    go_ret
    exact ⟨rfl, HB.out⟩
/-- what is reckoned behind i digits of a, and j digits of b with the next one -/
def mt (a b i j : Nat) : Nat := a % 65536 ^ i * b + a / 65536 ^ i % 65536 * (b % 65536 ^ j) * 65536 ^ i
theorem mt_zero (a b i : Nat) : mt a b i 0 = a % 65536 ^ i * b := by unfold mt; simp [Nat.mod_one]
theorem mt_end {a b i j : Nat} (hb : b < 65536 ^ j) : mt a b i j = mt a b (i + 1) 0 := by
 rw [mt_zero]
 unfold mt
 rw [Nat.mod_eq_of_lt hb, pow_split a i, Nat.add_mul, Nat.mul_assoc, Nat.mul_assoc, Nat.mul_comm b]
theorem mt_step (a b i j : Nat) : mt a b i (j + 1) = mt a b i j + a / 65536 ^ i % 65536 * (b / 65536 ^ j % 65536) * 65536 ^ (i + j) := by
 unfold mt
 rw [pow_split b j, Nat.mul_add, Nat.add_mul, Nat.pow_add, Nat.add_assoc]
 congr 2
 rw [Nat.mul_comm (65536 ^ i), ← Nat.mul_assoc, ← Nat.mul_assoc]
theorem put_step {N p d c x T : Nat} (h : N + c * 65536 ^ p = T) (hx : x = N / 65536 ^ p % 65536 + d + c) : put N p (x % 65536) + x / 65536 * 65536 ^ (p + 1) = T + d * 65536 ^ p := by
 have h1 := put_eq N p (x % 65536)
 have h2 : x % 65536 * 65536 ^ p + x / 65536 * 65536 ^ (p + 1) = x * 65536 ^ p := by
  rw [Nat.pow_succ, Nat.mul_comm (65536 ^ p), ← Nat.mul_assoc, ← Nat.add_mul]
  congr 1
  omega
 have h3 : x * 65536 ^ p = N / 65536 ^ p % 65536 * 65536 ^ p + d * 65536 ^ p + c * 65536 ^ p := by rw [hx, Nat.add_mul, Nat.add_mul]
 omega
theorem mt_lt {a b i n1 n2 : Nat} (ha : a < 65536 ^ n1) (hb : b < 65536 ^ n2) (h1 : i + 1 ≤ n1) : mt a b (i + 1) 0 < 65536 ^ (i + 1 + n2) := by
 rw [mt_zero, Nat.pow_add 65536 (i + 1) n2]
 exact Nat.mul_lt_mul_of_lt_of_le (Nat.mod_lt _ (pow_pos (i + 1))) (Nat.le_of_lt hb) (pow_pos n2)
theorem mul_own {w W : World} {B0 g n N : Nat} (h : Owns w B0 3 (.slice (some ⟨g, 0, none⟩) n n) (iv (lo n N))) (hb : Below w.heap.size w W) (p d : Nat) (hp : p < n) (hd : d < 65536) (z : Int) (hz : z = (d : Int)) : Owns (W.setCell ⟨g, p, none⟩ (.int .i64 z)) B0 3 (.slice (some ⟨g, 0, none⟩) n n) (iv (lo n (put N p d))) := by
 have h1 := own_set (h.below hb) p (.int .i64 z)
 rw [hz, iv_set, set_lo N hp hd] at h1
 rw [hz]
 exact h1
theorem Mul_any (w : World) (v1 v2 : Value) (a b : Nat) (h1 : Ns w v1 (dig a)) (h2 : Ns w v2 (dig b)) (ha : (dig a).length ≤ 5000) (hb : (dig b).length ≤ 5000) :
 Calls Tryz.prog 68 #[v1, v2] w fun e w' => (∃ u, e = .returned u ∧ Ns w' u (dig (a * b))) ∧ Below w.heap.size w w' := by
 obtain ⟨A1, c1, rfl, hR1, hc1⟩ := h1
 obtain ⟨A2, c2, rfl, hR2, hc2⟩ := h2
 obtain ⟨n1, hn1⟩ : ∃ n, (dig a).length = n := ⟨_, rfl⟩
 obtain ⟨n2, hn2⟩ : ∃ n, (dig b).length = n := ⟨_, rfl⟩
 have HR1 := ϕ hR1
 have HR2 := ϕ hR2
 have HL1 := ϕ hn1
 have HL2 := ϕ hn2
 have HA := ϕ (show a < 65536 ^ n1 by have := dig_lt a; rwa [hn1] at this)
 have HBB := ϕ (show b < 65536 ^ n2 by have := dig_lt b; rwa [hn2] at this)
 rw [hn1] at hc1 ha ⊢
 rw [hn2] at hc2 hb ⊢
 clear hR1 hR2 hn1 hn2
 go_enter Tryz.func68, Tryz.ntmps68
 go_upto_region 2 with (refine make0 rfl _ _ rfl _ _ (n1 + n2 + 1) rfl rfl (by omega) (by omega) (by omega) ?_; intro V hO hG; have HO := ϕ hO; have HG := ϕ hG; clear hO hG)
 obtain ⟨g, hg⟩ : ∃ n, w.heap.size = n := ⟨_, rfl⟩
 obtain ⟨B0, hB0⟩ : ∃ n, w.heap.size = n := ⟨_, rfl⟩
 obtain ⟨n, hn⟩ : ∃ n, n1 + n2 + 1 = n := ⟨_, rfl⟩
 have HBV := ϕ (show Below B0 w V from by have h := (Sp.Upd.of_grown0 HG.out).below; rwa [hB0] at h)
 have HO := ϕ (show Owns V B0 3 (.slice (some ⟨g, 0, none⟩) n n) (iv (lo n 0)) from by have h := HO.out; rw [hn] at h; rw [← hB0]; exact hg ▸ h)
 have HBW := ϕ hB0
 try rw [hg]
 try rw [hn]
 clear HG hg hB0
 go_wp2_with fail
 go_loopw [6, 7, 8, 9, 10, 11, 21, 26] (fun _ _ _ _ _ _ i _ wr => ∃ k : Nat, i = .int .i64 k ∧ k ≤ n1 ∧ Owns wr B0 3 (.slice (some ⟨g, 0, none⟩) n n) (iv (lo n (mt a b k 0))) ∧ Below B0 w wr) (fun _ _ _ _ _ _ i _ _ => n1 - (intOf i).toNat)
 case atStart => exact ⟨0, rfl, by omega, by rw [mt_zero, Nat.pow_zero, Nat.mod_one, Nat.zero_mul]; exact HO.out, HBV.out⟩
 case round =>
  obtain ⟨i, rfl, hi, hO, hB⟩ := hrel
  clear HO HBV
  have HO := ϕ hO
  have HB := ϕ hB
  clear hO hB
  by_cases g1 : i < n1
  · have hik : (i : Int) < (n1 : Int) := by omega
    have hdk : decide ((i : Int) < (n1 : Int)) = true := by rw [decide_eq_true_iff]; omega
    obtain ⟨b1, o1, hA1, hl1, hcell1⟩ := Ns.at_ HR1.out (show i < (dig a).length by have := HL1.out; omega)
    obtain ⟨x1, hx1⟩ : ∃ x, x = a / 65536 ^ i % 65536 := ⟨_, rfl⟩
    have hxl1 : x1 < 65536 := by omega
    have HX1 := ϕ hx1
    rw [show (dig a)[i]'(by have := HL1.out; omega) = x1 from by have := dig_get (n := a) (i := i) (by have := HL1.out; omega); rw [List.getElem?_eq_getElem (by have := HL1.out; omega)] at this; rw [hx1]; exact Option.some.inj this] at hcell1
    have HC1 := ϕ (show ∀ W, Below B0 w W → W.cell? ⟨b1, o1 + i, none⟩ = some (.int .i64 (x1 : Nat)) from fun W hW => by rw [← hcell1]; exact hW.cell (p := ⟨b1, o1 + i, none⟩) (by rw [← HBW.out]; exact hl1))
    subst hA1
    clear hx1 hcell1 hl1
    go_wp2_with fail
    go_loopw [7, 8, 9, 26] (fun c _ _ jj wr => ∃ j N cc : Nat, jj = .int .i64 j ∧ c = .int .i64 cc ∧ j ≤ n2 ∧ cc < 65536 ∧ N + cc * 65536 ^ (i + j) = mt a b i j ∧ Owns wr B0 3 (.slice (some ⟨g, 0, none⟩) n n) (iv (lo n N)) ∧ Below B0 w wr) (fun _ _ _ jj _ => n2 - (intOf jj).toNat)
    case atStart => exact ⟨0, mt a b i 0, 0, rfl, rfl, by omega, by omega, by rw [Nat.zero_mul, Nat.add_zero], HO.out, HB.out⟩
    case round =>
     obtain ⟨j, N, cc, rfl, rfl, hj, hcc, hT, hO, hB⟩ := hrel
     clear HO HB
     have HT := ϕ hT
     have HO := ϕ hO
     have HB := ϕ hB
     clear hT hO hB
     by_cases g2 : j < n2
     · have hjk : (j : Int) < (n2 : Int) := by omega
       have hdj : decide ((j : Int) < (n2 : Int)) = true := by rw [decide_eq_true_iff]; omega
       have hij : (i : Int) + (j : Int) < (n : Int) := by omega
       have hij0 : (0 : Int) ≤ (i : Int) + (j : Int) := by omega
       obtain ⟨b2, o2, hA2, hl2, hcell2⟩ := Ns.at_ HR2.out (show j < (dig b).length by have := HL2.out; omega)
       obtain ⟨x2, hx2⟩ : ∃ x, x = b / 65536 ^ j % 65536 := ⟨_, rfl⟩
       have hxl2 : x2 < 65536 := by omega
       have HX2 := ϕ hx2
       rw [show (dig b)[j]'(by have := HL2.out; omega) = x2 from by have := dig_get (n := b) (i := j) (by have := HL2.out; omega); rw [List.getElem?_eq_getElem (by have := HL2.out; omega)] at this; rw [hx2]; exact Option.some.inj this] at hcell2
       replace hcell2 : wr.cell? ⟨b2, o2 + j, none⟩ = some (.int .i64 (x2 : Nat)) := by rw [← hcell2]; exact HB.out.cell (p := ⟨b2, o2 + j, none⟩) (by rw [← HBW.out]; exact hl2)
       have hcell1 := HC1.out wr HB.out
       subst hA2
       clear hx2 hl2
       obtain ⟨xo, hxo⟩ : ∃ x, x = N / 65536 ^ (i + j) % 65536 := ⟨_, rfl⟩
       have hxlo : xo < 65536 := by omega
       obtain ⟨hco, hfo⟩ := own_cell HO.out (iv_get (lo_get n N (i + j) (by omega)))
       rw [← hxo] at hco
       obtain ⟨y, hy⟩ : ∃ y, x1 * x2 = y := ⟨_, rfl⟩
       have hyl : y ≤ 4294836225 := by
        have h : x1 * x2 ≤ 65535 * 65535 := Nat.mul_le_mul (by omega) (by omega)
        omega
       have hyi : (x1 : Int) * (x2 : Int) = (y : Int) := by rw [← hy, Int.natCast_mul]
       have HP := ϕ (show put N (i + j) ((xo + y + cc) % 65536) + (xo + y + cc) / 65536 * 65536 ^ (i + j + 1) = mt a b i (j + 1) by
        rw [mt_step, ← HX1.out, ← HX2.out, hy]
        exact put_step HT.out (by rw [← hxo]))
       have HG := ϕ (own_g HO.out)
       clear hxo hy HX2 HT
       go_wp2_with fail
       go_quiet (fail)
       go_wp2_with fail
       go_roundw
       case rel =>
        have h1 := fun q => mul_own HO.out (below_drewN wr q) (i + j) ((xo + y + cc) % 65536) (by omega) (by omega) ((((xo : Int) + (y : Int) + (cc : Int)) % 65536)) (by omega)
        have h2 := fun q => own_set_below (HO.out.below (below_drewN wr q)) (Below.drewN' HB.out q) (by have h := HG.out.2.1; have h3 := HG.out.1; show B0 ≤ wr.heap.size; omega) (i + j) (.int .i64 (((xo : Int) + (y : Int) + (cc : Int)) % 65536))
        first
         | exact ⟨j + 1, put N (i + j) ((xo + y + cc) % 65536), (xo + y + cc) / 65536, by go_num, by congr 1, by omega, by omega, HP.out, h1 _, h2 _⟩
         | ((repeat apply Exists.intro); refine ⟨?_, rfl⟩; exact ⟨j + 1, put N (i + j) ((xo + y + cc) % 65536), (xo + y + cc) / 65536, by go_num, by congr 1, by omega, by omega, HP.out, h1 _, h2 _⟩)
       case measure => (first | (simp [intOf]; done) | (simp [intOf]; omega))
     · have hjk : ¬ (j : Int) < (n2 : Int) := by omega
       have hdj : decide ((j : Int) < (n2 : Int)) = false := by rw [decide_eq_false_iff_not]; omega
       have hjn : j = n2 := by omega
       have HT := ϕ (show N + cc * 65536 ^ (i + n2) = mt a b (i + 1) 0 by
        have h := HT.out
        rw [hjn] at h
        rw [h]
        exact mt_end HBB.out)
       clear hjn
       go_wp2_with fail
       go_loopw [7, 10, 11] (fun c kk _ wr => ∃ k N cc : Nat, kk = .int .i64 k ∧ c = .int .i64 cc ∧ i + n2 ≤ k ∧ k ≤ n ∧ cc < 65536 ∧ N + cc * 65536 ^ k = mt a b (i + 1) 0 ∧ Owns wr B0 3 (.slice (some ⟨g, 0, none⟩) n n) (iv (lo n N)) ∧ Below B0 w wr) (fun _ kk _ _ => n - (intOf kk).toNat)
       case atStart => exact ⟨i + n2, N, cc, by go_num, rfl, by omega, by omega, hcc, HT.out, HO.out, HB.out⟩
       case round =>
        obtain ⟨k, N, cc, rfl, rfl, hk1, hk2, hcc, hT, hO, hB⟩ := hrel
        clear HO HB HT
        have HT := ϕ hT
        have HO := ϕ hO
        have HB := ϕ hB
        clear hT hO hB
        by_cases g3 : cc = 0
        · subst g3
          have HT2 := ϕ (show N = mt a b (i + 1) 0 by have h := HT.out; rwa [Nat.zero_mul, Nat.add_zero] at h)
          go_wp2_with fail
          go_roundw
          case rel =>
           first
            | exact ⟨i + 1, by go_num, by omega, by rw [← HT2.out]; exact HO.out, HB.out⟩
            | ((repeat apply Exists.intro); refine ⟨?_, rfl⟩; exact ⟨i + 1, by go_num, by omega, by rw [← HT2.out]; exact HO.out, HB.out⟩)
          case measure => (first | (simp [intOf]; done) | (simp [intOf]; omega))
        · have hc0 : (0 : Int) < (cc : Int) := by omega
          have hcd : decide ((0 : Int) < (cc : Int)) = true := by rw [decide_eq_true_iff]; omega
          have hkn : k < n := by
           have h1 := mt_lt (i := i) HA.out HBB.out (by omega)
           rw [← HT.out] at h1
           have h2 : 1 * 65536 ^ k ≤ cc * 65536 ^ k := Nat.mul_le_mul_right _ (by omega)
           have h3 : 65536 ^ k < 65536 ^ (i + 1 + n2) := by omega
           have h4 := (Nat.pow_lt_pow_iff_right (by decide)).1 h3
           omega
          have hki : (k : Int) < (n : Int) := by omega
          obtain ⟨xo, hxo⟩ : ∃ x, x = N / 65536 ^ k % 65536 := ⟨_, rfl⟩
          have hxlo : xo < 65536 := by omega
          obtain ⟨hco, hfo⟩ := own_cell HO.out (iv_get (lo_get n N k hkn))
          rw [← hxo] at hco
          have HP := ϕ (show put N k ((xo + cc) % 65536) + (xo + cc) / 65536 * 65536 ^ (k + 1) = mt a b (i + 1) 0 by
           have h := put_step (d := 0) (x := xo + cc) HT.out (by rw [← hxo]; omega)
           rwa [Nat.zero_mul, Nat.add_zero] at h)
          have HG := ϕ (own_g HO.out)
          clear hxo HT
          go_wp2_with fail
          go_roundw
          case rel =>
           have h1 := mul_own HO.out (Below.refl _ _) k ((xo + cc) % 65536) (by omega) (by omega) ((((xo : Int) + (cc : Int)) % 65536)) (by omega)
           have h2 := own_set_below HO.out HB.out (by have h := HG.out.2.1; have h3 := HG.out.1; omega) k (.int .i64 (((xo : Int) + (cc : Int)) % 65536))
           first
            | exact ⟨k + 1, put N k ((xo + cc) % 65536), (xo + cc) / 65536, by go_num, by congr 1, by omega, by omega, by omega, HP.out, h1, h2⟩
            | ((repeat apply Exists.intro); refine ⟨?_, rfl⟩; exact ⟨k + 1, put N k ((xo + cc) % 65536), (xo + cc) / 65536, by go_num, by congr 1, by omega, by omega, by omega, HP.out, h1, h2⟩)
          case measure => (first | (simp [intOf]; done) | (simp [intOf]; omega))
  · have hik : ¬ (i : Int) < (n1 : Int) := by omega
    have hdk : decide ((i : Int) < (n1 : Int)) = false := by rw [decide_eq_false_iff_not]; omega
    have HE := ϕ (show mt a b i 0 = a * b by rw [mt_zero, show i = n1 by omega, Nat.mod_eq_of_lt HA.out])
    have HNS := ϕ (Ns.owns HO.out)
    have HT := ϕ (show trimL (lo n (mt a b i 0)) = dig (a * b) from by
     rw [HE.out]
     refine trim_lo _ _ ?_
     rw [← hn, Nat.pow_succ, Nat.pow_add]
     have h1 : a * b < 65536 ^ n1 * 65536 ^ n2 := Nat.mul_lt_mul_of_lt_of_le HA.out (Nat.le_of_lt HBB.out) (pow_pos n2)
     omega)
    have HTR := ϕ (trim_any wr _ _ HNS.out (by rw [lo_len]; omega))
    go_wp2_with (go_at_call 59; refine HTR.out.mono ?_; rintro e w7 ⟨⟨u, rfl, h7⟩, rfl⟩; have H7 := ϕ h7; clear h7)
    go_ret
    exact ⟨⟨_, rfl, HT.out ▸ H7.out⟩, by rw [HBW.out]; exact HB.out⟩
theorem num_dig (n : Nat) : num (dig n) = n := by
 induction n using Nat.strongRecOn with
 | ind n ih =>
  by_cases h0 : n = 0
  · subst h0; rw [dig_zero]; rfl
  · rw [dig_pos h0, num, ih (n / 65536) (by omega)]; omega
theorem dig_inj {m n : Nat} (h : dig m = dig n) : m = n := by rw [← num_dig m, h, num_dig]
theorem Ns.uniq {w : World} {v : Value} {l1 l2 : List Nat} (h1 : Ns w v l1) (h2 : Ns w v l2) : l1 = l2 := by
 obtain ⟨A, c, rfl, hR1, _⟩ := h1
 obtain ⟨A2, c2, e, hR2, _⟩ := h2
 injection e with e1 e2 e3
 subst e1
 apply List.ext_getElem?
 intro i
 by_cases hi : i < l1.length
 · obtain ⟨b, o, hA, _, hc⟩ := Ns.at_ hR1 hi
   obtain ⟨b2, o2, hA2, _, hc2⟩ := Ns.at_ hR2 (show i < l2.length by omega)
   rw [hA] at hA2
   cases hA2
   rw [hc] at hc2
   injection hc2 with hc2
   injection hc2 with _ hc2
   rw [List.getElem?_eq_getElem hi, List.getElem?_eq_getElem (by omega)]
   congr 1
   omega
 · rw [List.getElem?_eq_none (by omega), List.getElem?_eq_none (by omega)]
theorem val_of {w : World} {v : Value} {x : Nat} (h : Ns w v (dig x)) : Classical.epsilon (fun n => Ns w v (dig n)) = x := dig_inj ((Classical.epsilon_spec (p := fun n => Ns w v (dig n)) ⟨x, h⟩).uniq h)
theorem mod_start {a m la lm : Nat} (hm : 0 < m) (ha : (dig a).length = la) (hl : (dig m).length = lm) : a < m * 2 ^ ((16 * (la : Int) - 16 * (lm : Int) + 16 + 1).toNat) := by
 have h1 := dig_lt a
 have h2 := dig_ge (n := m) (by omega)
 rw [ha] at h1
 rw [hl] at h2
 have h3 : lm ≠ 0 := fun e => by subst e; have := dig_nil (List.eq_nil_of_length_eq_zero hl); omega
 by_cases h : la + 1 < lm
 · rw [show (16 * (la : Int) - 16 * (lm : Int) + 16 + 1).toNat = 0 by omega, Nat.pow_zero, Nat.mul_one]
   have h4 : 65536 ^ la ≤ 65536 ^ (lm - 1) := Nat.pow_le_pow_right (by decide) (by omega)
   omega
 · have h4 : 65536 ^ (lm - 1) * 2 ^ ((16 * (la : Int) - 16 * (lm : Int) + 16 + 1).toNat) ≤ m * 2 ^ ((16 * (la : Int) - 16 * (lm : Int) + 16 + 1).toNat) := Nat.mul_le_mul_right _ h2
   refine Nat.lt_of_lt_of_le (Nat.lt_of_lt_of_le h1 ?_) h4
   rw [show (65536 : Nat) = 2 ^ 16 from rfl, ← Nat.pow_mul, ← Nat.pow_mul, ← Nat.pow_add]
   exact Nat.pow_le_pow_right (by decide) (by omega)
theorem shl_len {m k : Nat} : (dig (m * 2 ^ k)).length ≤ (dig m).length + k / 16 + 1 := by
 apply dig_len_le
 have h1 := dig_lt m
 have h2 : 2 ^ k < 65536 ^ (k / 16 + 1) := by
  rw [show (65536 : Nat) = 2 ^ 16 from rfl, ← Nat.pow_mul]
  exact Nat.pow_lt_pow_right (by decide) (by omega)
 rw [Nat.add_assoc, Nat.pow_add]
 exact Nat.mul_lt_mul_of_lt_of_le h1 (Nat.le_of_lt h2) (pow_pos _)
theorem len_mono {x a : Nat} (h : x ≤ a) : (dig x).length ≤ (dig a).length := Nat.le_of_not_lt fun h2 => by have := dig_len_lt h2; omega
theorem mod_less {x X m a k : Nat} (hX : X = m * 2 ^ k) (h : X ≤ x) (hx : x < m * 2 ^ (k + 1)) (hm : x % m = a % m) : x - X < m * 2 ^ (k + 1) ∧ (x - X) % m = a % m ∧ x - X < m * 2 ^ k := by
 refine ⟨by omega, ?_, ?_⟩
 · rw [← hm, hX]
   have h2 : x = (x - m * 2 ^ k) + m * 2 ^ k := by omega
   conv => rhs; rw [h2]
   rw [Nat.add_mul_mod_self_left]
 · rw [Nat.pow_succ, ← Nat.mul_assoc] at hx; omega
theorem Mod_any (w : World) (v1 v2 : Value) (a m : Nat) (hm : 0 < m) (h1 : Ns w v1 (dig a)) (h2 : Ns w v2 (dig m)) (ha : (dig a).length ≤ 300) (hb : (dig m).length ≤ 300) :
 Calls Tryz.prog 64 #[v1, v2] w fun e w' => (∃ u, e = .returned u ∧ Ns w' u (dig (a % m))) ∧ Below w.heap.size w w' := by
 have HN1 := ϕ h1
 have HN2 := ϕ h2
 obtain ⟨A1, c1, rfl, hR1, hc1⟩ := h1
 obtain ⟨A2, c2, rfl, hR2, hc2⟩ := h2
 obtain ⟨n1, hn1⟩ : ∃ n, (dig a).length = n := ⟨_, rfl⟩
 obtain ⟨n2, hn2⟩ : ∃ n, (dig m).length = n := ⟨_, rfl⟩
 have HL1 := ϕ hn1
 have HL2 := ϕ hn2
 have HM := ϕ hm
 have HST := ϕ (mod_start hm hn1 hn2)
 have HM0 := ϕ hm
 rw [hn1] at hc1 ha HN1 ⊢
 rw [hn2] at hc2 hb HN2 ⊢
 clear hR1 hR2 hn1 hn2 hm
 go_enter Tryz.func64, Tryz.ntmps64
 go_wp2_with fail
 go_loopw [0, 5, 6] (fun v k _ wr => ∃ (x : Nat) (z : Int), k = .int .i64 z ∧ -10000 ≤ z ∧ z ≤ 10000 ∧ x ≤ a ∧ x < m * 2 ^ ((z + 1).toNat) ∧ x % m = a % m ∧ Ns wr v (dig x) ∧ Below w.heap.size w wr) (fun v k _ wr => Classical.epsilon (fun n => Ns wr v (dig n)) + (intOf k + 1).toNat)
 case atStart => exact ⟨a, _, rfl, by omega, by omega, Nat.le_refl _, HST.out, rfl, HN1.out, Below.refl _ _⟩
 case round =>
  obtain ⟨x, z, rfl, hz1, hz2, hxa, hxm, hxx, hN, hB⟩ := hrel
  have HN := ϕ hN
  have HB := ϕ hB
  have HXM := ϕ hxm
  have HXX := ϕ hxx
  clear hN hB hxm hxx
  by_cases hz : z < 0
  · have hge : ¬ (0 : Int) ≤ z := by omega
    have hgd : decide ((0 : Int) ≤ z) = false := by rw [decide_eq_false_iff_not]; omega
    have HE := ϕ (show x = a % m by
     have h := HXM.out
     rw [show (z + 1).toNat = 0 by omega, Nat.pow_zero, Nat.mul_one] at h
     rw [← HXX.out, Nat.mod_eq_of_lt h])
    go_wp2_with fail
    go_ret
    exact ⟨⟨_, rfl, HE.out ▸ HN.out⟩, HB.out⟩
  · obtain ⟨k, rfl⟩ : ∃ k : Nat, z = (k : Int) := ⟨z.toNat, by omega⟩
    have hge : (0 : Int) ≤ (k : Int) := by omega
    have hgd : decide ((0 : Int) ≤ (k : Int)) = true := by rw [decide_eq_true_iff]; omega
    have HK := ϕ (show ((k : Int) + 1).toNat = k + 1 by omega)
    obtain ⟨X, hX⟩ : ∃ X, X = m * 2 ^ k := ⟨_, rfl⟩
    have HX := ϕ hX
    have HXL := ϕ (show (dig X).length ≤ 2000 by have h := shl_len (m := m) (k := k); rw [hX]; have := HL2.out; omega)
    have HXP := ϕ (show 0 < X by rw [hX]; exact Nat.mul_pos HM0.out (Nat.two_pow_pos k))
    have HKL := ϕ (show (dig (2 ^ k)).length ≤ 2000 by have h := shl_len (m := 1) (k := k); rw [Nat.one_mul] at h; have : (dig 1).length ≤ 1 := dig_len_le (by decide); omega)
    have HXAL := ϕ (show (dig x).length ≤ 300 by have h := len_mono hxa; have := HL1.out; omega)
    have HPW := ϕ (Power_any wr k (k / 16) (k % 16) (by omega) (by omega) (by omega))
    clear hX hz
    by_cases hc : X ≤ x
    · have HD := ϕ (mod_less HX.out hc (HK.out ▸ HXM.out) HXX.out)
      have HCC := ϕ hc
      have hcd : decide ((0 : Int) ≤ cmpZ x X) = true := by rw [decide_eq_true_iff]; unfold cmpZ; rw [if_neg (by omega)]; split <;> omega
      have hci : (0 : Int) ≤ cmpZ x X := by rw [decide_eq_true_iff] at hcd; exact hcd
      clear hc
      go_wp2_with (first
       | (go_at_call 92; refine HPW.out.mono ?_; rintro e w2 ⟨⟨p, rfl, h2⟩, hb2⟩; have HP2 := ϕ h2; have HB2 := ϕ hb2; clear h2 hb2)
       | (go_at_call 68; refine (Mul_any w2 _ _ m (2 ^ k) (HN2.out.below (HB.out.trans (HB2.out.mono HB.out.size))) HP2.out (by have := HL2.out; omega) (by have := HKL.out; omega)).mono ?_; rintro e w3 ⟨⟨q, rfl, h2⟩, hb2⟩; have HQ3 := ϕ (HX.out ▸ h2); have HB3 := ϕ (HB2.out.trans (hb2.mono HB2.out.size)); clear h2 hb2)
       | (go_at_call 71; refine (Cmp_any w3 _ _ x X (HN.out.below HB3.out) HQ3.out (by have := HXAL.out; omega) (by have := HXL.out; omega)).mono ?_; rintro e w4 ⟨rfl, hb2⟩; have HB4 := ϕ (HB3.out.trans (hb2.mono HB3.out.size)); have HQ4 := ϕ (HQ3.out.below hb2); clear hb2)
       | (go_at_call 73; refine (Sub_any w4 _ _ x X (HN.out.below HB4.out) HQ4.out HCC.out (by have := HXAL.out; omega)).mono ?_; rintro e w5 ⟨⟨r, rfl, h2⟩, hb2⟩; have HR5 := ϕ h2; have HB5 := ϕ (HB4.out.trans (hb2.mono HB4.out.size)); clear h2 hb2))
      go_roundw
      case rel =>
       first
        | exact ⟨x - X, (k : Int), rfl, by omega, by omega, by omega, by rw [HK.out]; exact HD.out.1, HD.out.2.1, HR5.out, HB.out.trans (HB5.out.mono HB.out.size)⟩
        | ((repeat apply Exists.intro); refine ⟨?_, rfl⟩; exact ⟨x - X, (k : Int), rfl, by omega, by omega, by omega, by rw [HK.out]; exact HD.out.1, HD.out.2.1, HR5.out, HB.out.trans (HB5.out.mono HB.out.size)⟩)
      case measure =>
       rw [val_of HR5.out, val_of HN.out]
       have h1 := HXP.out
       have h2 := HCC.out
       omega
    · have HD := ϕ (show x < m * 2 ^ k by rw [← HX.out]; omega)
      have hcd : decide ((0 : Int) ≤ cmpZ x X) = false := by rw [decide_eq_false_iff_not]; unfold cmpZ; rw [if_pos (by omega)]; omega
      have hci : ¬ (0 : Int) ≤ cmpZ x X := by rw [decide_eq_false_iff_not] at hcd; exact hcd
      clear hc
      go_wp2_with (first
       | (go_at_call 92; refine HPW.out.mono ?_; rintro e w2 ⟨⟨p, rfl, h2⟩, hb2⟩; have HP2 := ϕ h2; have HB2 := ϕ hb2; clear h2 hb2)
       | (go_at_call 68; refine (Mul_any w2 _ _ m (2 ^ k) (HN2.out.below (HB.out.trans (HB2.out.mono HB.out.size))) HP2.out (by have := HL2.out; omega) (by have := HKL.out; omega)).mono ?_; rintro e w3 ⟨⟨q, rfl, h2⟩, hb2⟩; have HQ3 := ϕ (HX.out ▸ h2); have HB3 := ϕ (HB2.out.trans (hb2.mono HB2.out.size)); clear h2 hb2)
       | (go_at_call 71; refine (Cmp_any w3 _ _ x X (HN.out.below HB3.out) HQ3.out (by have := HXAL.out; omega) (by have := HXL.out; omega)).mono ?_; rintro e w4 ⟨rfl, hb2⟩; have HB4 := ϕ (HB3.out.trans (hb2.mono HB3.out.size)); clear hb2))
      go_roundw
      case rel =>
       have e1 : ((k : Int) - 1 + 1).toNat = k := by omega
       first
        | exact ⟨x, (k : Int) - 1, rfl, by omega, by omega, hxa, by rw [e1]; exact HD.out, HXX.out, HN.out.below HB4.out, HB.out.trans (HB4.out.mono HB.out.size)⟩
        | ((repeat apply Exists.intro); refine ⟨?_, rfl⟩; exact ⟨x, (k : Int) - 1, rfl, by omega, by omega, hxa, by rw [e1]; exact HD.out, HXX.out, HN.out.below HB4.out, HB.out.trans (HB4.out.mono HB.out.size)⟩)
      case measure =>
       rw [val_of (HN.out.below HB4.out), val_of HN.out]
       first | (simp [intOf]; done) | (simp [intOf]; omega)
end Go.Proofs.YtfpcelmekfdafaaGreatDoor.Dg
namespace Go.Proofs.YtfpcelmekfdafaaGreatDoor.Rf
open Go.RowKit Go.Proofs.YtfpcelmekfdafaaGreatDoor.Ow Go.Proofs.YtfpcelmekfdafaaGreatDoor.Kx Go.Proofs.YtfpcelmekfdafaaGreatDoor.Dg
theorem p_num : 2 ^ 255 - 19 = Ed.P := by decide +kernel
theorem P_any (w : World) : Calls Tryz.prog 74 #[] w fun e w' => (∃ u, e = .returned u ∧ Ns w' u (dig (Ed.P))) ∧ Below w.heap.size w w' := by
 have HB := ϕ (Below.refl w.heap.size w)
 go_enter Tryz.func74, Tryz.ntmps74
 have tk1 := True.intro
 go_wp2_with (first
  | (have _t := tk1; go_at_call 92; refine (Power_any w 255 15 15 rfl (by omega) (by omega)).mono ?_; rintro e w1x ⟨⟨p, rfl, hv⟩, hb⟩; skip;  have HP := ϕ hv; have HB := tm HB hb; clear hb hv _t tk1; have tk2 := True.intro)
  | (have _t := tk2; go_at_call 41; refine (Small_any w1x 19 (by omega)).mono ?_; rintro e w2x ⟨⟨q, rfl, hv⟩, hb⟩; have HP := ϕ (HP.out.below hb); have HQ := ϕ hv; have HB := tm HB hb; clear hb hv _t tk2; have tk3 := True.intro)
  | (have _t := tk3; go_at_call 73; refine (Sub_any w2x _ _ (2 ^ 255) 19 HP.out HQ.out (by decide +kernel) (by exact Nat.le_trans (dig_len_le (k := 16) (by decide +kernel)) (by decide))).mono ?_; rintro e w3x ⟨⟨r, rfl, hv⟩, hb⟩; have HP := ϕ (HP.out.below hb); have HQ := ϕ (HQ.out.below hb); have HR := ϕ hv; have HB := tm HB hb; clear hb hv _t tk3; have tk4 := True.intro))
 go_ret
 exact ⟨⟨_, rfl, by have h := HR.out; rw [p_num] at h; exact h⟩, HB.out⟩
theorem low_lo (n : Nat) : (lo 16 n).set 15 (n / 65536 ^ 15 % 65536 % 32768) = lo 16 (n % 2 ^ 255) := by
 rw [set_lo n (by omega) (by omega), ← lo_mod 16 (put _ _ _)]
 congr 1
 have h1 := put_eq n 15 (n / 65536 ^ 15 % 65536 % 32768)
 unfold put
 have h2 : n % 2 ^ 255 = n % 65536 ^ 15 + 65536 ^ 15 * (n / 65536 ^ 15 % 32768) := by
  rw [show (2 : Nat) ^ 255 = 65536 ^ 15 * 32768 from rfl, Nat.mod_mul]
 rw [h2, Nat.add_mul_mod_self_right, Nat.mod_eq_of_lt]
 · have h3 : n / 65536 ^ 15 % 65536 % 32768 = n / 65536 ^ 15 % 32768 := by omega
   rw [h3, Nat.mul_comm]
 · have h3 := Nat.mod_lt n (pow_pos 15)
   have h4 : n / 65536 ^ 15 % 65536 % 32768 < 32768 := Nat.mod_lt _ (by decide)
   have h5 : n / 65536 ^ 15 % 65536 % 32768 * 65536 ^ 15 ≤ 32767 * 65536 ^ 15 := Nat.mul_le_mul_right _ (by omega)
   have h6 : (65536 : Nat) ^ 16 = 65536 * 65536 ^ 15 := by rw [← Nat.pow_succ']
   omega
theorem take_lo {n k : Nat} (h : k ≤ (dig n).length) : (dig n).take k = lo k n := by
 apply List.ext_getElem?
 intro i
 by_cases hi : i < k
 · rw [List.getElem?_take, if_pos hi, dig_get (by omega), lo_get k n i hi]
 · rw [List.getElem?_take, if_neg hi, List.getElem?_eq_none (by rw [lo_len]; omega)]
theorem low_any (w : World) (v : Value) (n : Nat) (h : Ns w v (dig n)) (hl : (dig n).length ≤ 10000) : Calls Tryz.prog 75 #[v] w fun e w' => (∃ u, e = .returned u ∧ Ns w' u (dig (n % 2 ^ 255))) ∧ Below w.heap.size w w' := by
 obtain ⟨A1, c1, rfl, hR1, hc1⟩ := h
 obtain ⟨n1, hn1⟩ : ∃ k, (dig n).length = k := ⟨_, rfl⟩
 have HR1 := ϕ hR1
 have HL1 := ϕ hn1
 rw [hn1] at hc1 hl ⊢
 clear hR1
 by_cases hlt : n1 < 16
 · have hd : decide ((n1 : Int) < 16) = true := by rw [decide_eq_true_iff]; omega
   have hi : (n1 : Int) < 16 := by omega
   have HE := ϕ (show n % 2 ^ 255 = n by
    have h1 := dig_lt n
    rw [hn1] at h1
    refine Nat.mod_eq_of_lt (Nat.lt_of_lt_of_le h1 ?_)
    rw [show (65536 : Nat) = 2 ^ 16 from rfl, ← Nat.pow_mul]
    exact Nat.pow_le_pow_right (by decide) (by omega))
   clear hn1
   go_enter Tryz.func75, Tryz.ntmps75
   go_wp2_with fail
   go_ret
   exact ⟨⟨_, rfl, by rw [HE.out]; exact ⟨A1, c1, by rw [HL1.out]; rfl, HR1.out, by rw [HL1.out]; exact hc1⟩⟩, Below.refl _ _⟩
 · have hd : decide ((n1 : Int) < 16) = false := by rw [decide_eq_false_iff_not]; omega
   have hi : ¬ (n1 : Int) < 16 := by omega
   have hi2 : (16 : Int) ≤ (n1 : Int) := by omega
   have hi3 : (16 : Int) ≤ (c1 : Int) := by omega
   have HON := ϕ (show Owns (w.alloc (.cells #[] 3)) w.heap.size 3 (.slice (some ⟨w.heap.size, 0, none⟩) 0 0) [] from Owns.new w w.heap.size 3 [] (Nat.le_refl _) (by decide))
   have HBA := ϕ (show Below w.heap.size w (w.alloc (.cells #[] 3)) from (Below.refl _ _).alloc (Nat.le_refl _) _)
   have HT := ϕ (show (dig n).take 16 = lo 16 n from take_lo (by omega))
   have HRT := ϕ (show Rd (w.alloc (.cells #[] 3)) A1 (iv (lo 16 n)) from by
    have h := Rd.take HR1.out 16
    rw [HT.out] at h
    exact Rd.below h ((Below.refl _ _).alloc (Nat.le_refl _) _))
   have HLO := ϕ (low_lo n)
   clear hn1
   go_enter Tryz.func75, Tryz.ntmps75
   go_upto_region 4 with ((with_reducible refine Kx.gate_ ?_); refine app rfl _ _ 38 rfl (E := 3) (z := .int .i64 0) (by' := 8) rfl rfl rfl (by decide) HON.out rfl rfl (by rw [iv_len, lo_len]) HRT.out (iv_one _) (by decide) (by simp) ?_; rintro v6 w6 h2 h3 h4; have HO6 := ϕ h2; have HB6 := ϕ (own_grown HBA.out HON.out h3); clear h2 h3 h4)
   obtain ⟨g, c, hv, hBg, hgs, hcl, hset⟩ := owns_at HO6.out (by intro e; have := congrArg List.length e; rw [List.nil_append, iv_len, lo_len] at this; simp at this)
   rw [List.nil_append] at hv hcl hset
   rw [iv_len, lo_len] at hv
   obtain ⟨hc, hf⟩ := hcl 15 _ (iv_get (lo_get 16 n 15 (by omega)))
   obtain ⟨x, hx⟩ : ∃ x, x = n / 65536 ^ 15 % 65536 := ⟨_, rfl⟩
   rw [← hx] at hc
   have hxl : x < 65536 := by omega
   subst hv
   have HS := ϕ (show Owns (w6.setCell ⟨g, 15, none⟩ (.int .i64 ((x : Int) % 32768))) w.heap.size 3 (.slice (some ⟨g, 0, none⟩) 16 c) (iv (lo 16 (n % 2 ^ 255))) from by
    have h := hset w6 (Below.refl _ _) 15 (.int .i64 ((x % 32768 : Nat) : Int))
    rw [iv_set, hx, HLO.out, ← hx] at h
    rw [show (x : Int) % 32768 = ((x % 32768 : Nat) : Int) by omega]
    exact h)
   have HBS := ϕ (show Below w.heap.size w (w6.setCell ⟨g, 15, none⟩ (.int .i64 ((x : Int) % 32768))) from own_set_below (xs := iv (lo 16 n)) (by have h := HO6.out; rwa [List.nil_append] at h) HB6.out HB6.out.size 15 _)
   have HAD := ϕ (fun W hW => Add_gen W (.slice (some ⟨g, 0, none⟩) 16 c) (.slice none 0 0) (n % 2 ^ 255) 0 16 0 hW (Ns.nil W) (Nat.lt_of_lt_of_le (Nat.mod_lt _ (Nat.two_pow_pos 255)) (by decide +kernel)) (by decide) (by decide) (by decide))
   clear hcl hset hx hBg HO6
   go_wp2_with (go_at_call 67; refine (HAD.out _ (Ns.owns HS.out)).mono ?_; rintro e w8 ⟨⟨u, rfl, hv⟩, hb⟩; have HU := ϕ hv; have HB8 := ϕ (HBS.out.trans (hb.mono HBS.out.size)); clear hv hb)
   go_ret
   exact ⟨⟨_, rfl, HU.out⟩, HB8.out⟩
theorem cut_step {x : Nat} (h : 2 ^ 255 ≤ x) : (x % 2 ^ 255 + x / 2 ^ 255 * 19) % Ed.P = x % Ed.P ∧ x % 2 ^ 255 + x / 2 ^ 255 * 19 < x := by
 have h1 := Nat.mod_add_div x (2 ^ 255)
 have h2 : 1 ≤ x / 2 ^ 255 := (Nat.le_div_iff_mul_le (Nat.two_pow_pos 255)).2 (by rw [Nat.one_mul]; exact h)
 have h3 : (2 : Nat) ^ 255 = Ed.P + 19 := by decide +kernel
 rw [h3] at h1 h2 ⊢
 generalize x % (Ed.P + 19) = r at *
 generalize x / (Ed.P + 19) = q at *
 have h4 : x = (r + q * 19) + Ed.P * q := by rw [← h1, Nat.add_mul, Nat.mul_comm 19 q]; omega
 refine ⟨?_, ?_⟩
 · rw [h4, Nat.add_mul_mod_self_left]
 · have h5 : 0 < Ed.P * q := Nat.mul_pos (by decide +kernel) h2
   omega
theorem cut_end1 {x n : Nat} (h : x < 2 ^ 255) (hp : Ed.P ≤ x) (hn : x % Ed.P = n % Ed.P) : x - Ed.P = n % Ed.P := by
 have h3 : (2 : Nat) ^ 255 ≤ Ed.P + Ed.P := by decide +kernel
 have h4 : x - Ed.P < Ed.P := by omega
 rw [← hn, Nat.mod_eq_sub_mod hp, Nat.mod_eq_of_lt h4]
theorem cut_end2 {x n : Nat} (hp : x < Ed.P) (hn : x % Ed.P = n % Ed.P) : x = n % Ed.P := by rw [← hn, Nat.mod_eq_of_lt hp]
theorem cut_lens {x : Nat} (h : (dig x).length ≤ 1000) : (dig (x / 2 ^ 255)).length ≤ 5000 ∧ (dig (x % 2 ^ 255)).length ≤ 10000 ∧ (dig (x / 2 ^ 255 * 19)).length ≤ 10000 := by
 have h1 := len_mono (Nat.div_le_self x (2 ^ 255))
 have h2 := len_mono (Nat.mod_le x (2 ^ 255))
 refine ⟨by omega, by omega, ?_⟩
 have h3 := dig_lt (x / 2 ^ 255)
 have h4 : (dig (x / 2 ^ 255 * 19)).length ≤ (dig (x / 2 ^ 255)).length + 1 := dig_len_le (by have e := Nat.pow_succ (n := 65536) (m := (dig (x / 2 ^ 255)).length); generalize (dig (x / 2 ^ 255)).length = k at *; generalize x / 2 ^ 255 = y at *; show y * 19 < 65536 ^ k.succ; rw [e]; omega)
 omega
theorem ge_of_len {x n1 : Nat} (h : (dig x).length = n1) (h2 : 16 < n1) : 2 ^ 255 ≤ x := by
 have h1 := dig_ge (n := x) (fun e => by subst e; rw [dig_zero] at h; simp at h; omega)
 rw [h] at h1
 refine Nat.le_trans ?_ h1
 rw [show (65536 : Nat) = 2 ^ 16 from rfl, ← Nat.pow_mul]
 exact Nat.pow_le_pow_right (by decide) (by omega)
theorem lt_of_len {x n1 : Nat} (h : (dig x).length = n1) (h2 : n1 < 16) : x < 2 ^ 255 := by
 have h1 := dig_lt x
 rw [h] at h1
 refine Nat.lt_of_lt_of_le h1 ?_
 rw [show (65536 : Nat) = 2 ^ 16 from rfl, ← Nat.pow_mul]
 exact Nat.pow_le_pow_right (by decide) (by omega)
theorem at_16 {x y : Nat} (h : (dig x).length = 16) (hy : y = x / 65536 ^ 15 % 65536) : 32768 ≤ y ↔ 2 ^ 255 ≤ x := by
 have h1 := dig_lt x
 rw [h, Nat.pow_succ] at h1
 have h2 : x / 65536 ^ 15 < 65536 := Nat.div_lt_of_lt_mul h1
 rw [Nat.mod_eq_of_lt h2] at hy
 rw [hy, show (2 : Nat) ^ 255 = 32768 * 65536 ^ 15 from rfl]
 exact Nat.le_div_iff_mul_le (pow_pos 15)
theorem Cut_any (w : World) (v : Value) (n : Nat) (h : Ns w v (dig n)) (hl : (dig n).length ≤ 1000) : Calls Tryz.prog 72 #[v] w fun e w' => (∃ u, e = .returned u ∧ Ns w' u (dig (n % Ed.P))) ∧ Below w.heap.size w w' := by
 have HN0 := ϕ h
 clear h
 go_enter Tryz.func72, Tryz.ntmps72
 go_wp2_with fail
 go_loopw [0] (fun v wr => ∃ x : Nat, x % Ed.P = n % Ed.P ∧ x ≤ n ∧ Ns wr v (dig x) ∧ Below w.heap.size w wr) (fun v wr => Classical.epsilon (fun k => Ns wr v (dig k)))
 case atStart => exact ⟨n, rfl, Nat.le_refl _, HN0.out, Below.refl _ _⟩
 case round =>
  clear HN0
  obtain ⟨x, hxx, hxn, hN, hB⟩ := hrel
  have HXX := ϕ hxx
  have HN := ϕ hN
  have HN0 := ϕ hN
  have HB := ϕ hB
  have HXL := ϕ (show (dig x).length ≤ 1000 from Nat.le_trans (len_mono hxn) hl)
  obtain ⟨A1, c1, hv, hR1, hc1⟩ := hN
  obtain ⟨n1, hn1⟩ : ∃ k, (dig x).length = k := ⟨_, rfl⟩
  have HR1 := ϕ hR1
  have HL1 := ϕ hn1
  rw [hn1] at hv hc1
  subst hv
  clear hR1 hB hxx hn1
  replace HXL := ϕ (show (dig x).length ≤ 1000 from HXL.out)
  by_cases g1 : 16 < n1
  · have hge := ge_of_len HL1.out g1
    have hd1 : decide ((16 : Int) < (n1 : Int)) = true := by rw [decide_eq_true_iff]; omega
    have hi1 : (16 : Int) < (n1 : Int) := by omega
    obtain ⟨b1, o1, hA1, hl1, hcell1⟩ := Ns.at_ HR1.out (show 15 < (dig x).length by have := HL1.out; omega)
    obtain ⟨x1, hx1⟩ : ∃ y, y = x / 65536 ^ 15 % 65536 := ⟨_, rfl⟩
    have hxl1 : x1 < 65536 := by omega
    rw [show (dig x)[15]'(by have := HL1.out; omega) = x1 from by have := dig_get (n := x) (i := 15) (by have := HL1.out; omega); rw [List.getElem?_eq_getElem (by have := HL1.out; omega)] at this; rw [hx1]; exact Option.some.inj this] at hcell1
    subst hA1
    clear hx1
    have HD2 := ϕ (cut_lens HXL.out)
    have HX2 := ϕ (cut_step hge)
    clear hge
    have tk11 := True.intro
    go_wp2_with (first
     | (have _t := tk11; go_at_call 75; refine (low_any wr _ x HN.out (Nat.le_trans HXL.out (by decide))).mono ?_; rintro e w11x ⟨⟨a1, rfl, hv⟩, hb⟩; have HN := ϕ (HN.out.below hb); have H1 := ϕ hv; have HB := tm HB hb; clear hb hv _t tk11; have tk12 := True.intro)
     | (have _t := tk12; go_at_call 78; refine (Half_any w11x _ x 255 15 15 rfl (by omega) (by omega) HN.out (Nat.le_trans HXL.out (by decide))).mono ?_; rintro e w12x ⟨⟨a2, rfl, hv⟩, hb⟩; have H1 := ϕ (H1.out.below hb); have H2 := ϕ hv; have HB := tm HB hb; clear hb hv _t tk12; have tk13 := True.intro)
     | (have _t := tk13; go_at_call 41; refine (Small_any w12x 19 (by omega)).mono ?_; rintro e w13x ⟨⟨a3, rfl, hv⟩, hb⟩; have H1 := ϕ (H1.out.below hb); have H2 := ϕ (H2.out.below hb); have H3 := ϕ hv; have HB := tm HB hb; clear hb hv _t tk13; have tk14 := True.intro)
     | (have _t := tk14; go_at_call 68; refine (Mul_any w13x _ _ (x / 2 ^ 255) 19 H2.out H3.out HD2.out.1 (by exact Nat.le_trans (dig_len_le (k := 1) (by decide)) (by decide))).mono ?_; rintro e w14x ⟨⟨a4, rfl, hv⟩, hb⟩; have H1 := ϕ (H1.out.below hb); have H4 := ϕ hv; have HB := tm HB hb; clear hb hv _t tk14; have tk15 := True.intro)
     | (have _t := tk15; go_at_call 67; refine (Add_any w14x _ _ (x % 2 ^ 255) (x / 2 ^ 255 * 19) H1.out H4.out HD2.out.2.1 HD2.out.2.2).mono ?_; rintro e w15x ⟨⟨a5, rfl, hv⟩, hb⟩; have H5 := ϕ hv; have HB := tm HB hb; clear hb hv _t tk15; have tk16 := True.intro))
    go_roundw
    case rel =>
     first
      | exact ⟨x % 2 ^ 255 + x / 2 ^ 255 * 19, by rw [HX2.out.1]; exact HXX.out, Nat.le_trans (Nat.le_of_lt HX2.out.2) hxn, H5.out, HB.out⟩
      | ((repeat apply Exists.intro); refine ⟨?_, rfl⟩; exact ⟨x % 2 ^ 255 + x / 2 ^ 255 * 19, by rw [HX2.out.1]; exact HXX.out, Nat.le_trans (Nat.le_of_lt HX2.out.2) hxn, H5.out, HB.out⟩)
    case measure =>
     rw [val_of H5.out, val_of HN0.out]
     exact HX2.out.2
  · have hd1 : decide ((16 : Int) < (n1 : Int)) = false := by rw [decide_eq_false_iff_not]; omega
    have hi1 : ¬ (16 : Int) < (n1 : Int) := by omega
    by_cases g2 : n1 = 16
    · subst g2
      have hq : (((16 : Nat) : Int) == 16) = true := by rfl
      obtain ⟨b1, o1, hA1, hl1, hcell1⟩ := Ns.at_ HR1.out (show 15 < (dig x).length by have := HL1.out; omega)
      obtain ⟨x1, hx1⟩ : ∃ y, y = x / 65536 ^ 15 % 65536 := ⟨_, rfl⟩
      have hxl1 : x1 < 65536 := by omega
      rw [show (dig x)[15]'(by have := HL1.out; omega) = x1 from by have := dig_get (n := x) (i := 15) (by have := HL1.out; omega); rw [List.getElem?_eq_getElem (by have := HL1.out; omega)] at this; rw [hx1]; exact Option.some.inj this] at hcell1
      subst hA1
      by_cases g3 : 32768 ≤ x1
      · have hge := (at_16 HL1.out hx1).1 g3
        have hd3 : decide ((32768 : Int) ≤ (x1 : Int)) = true := by rw [decide_eq_true_iff]; omega
        have hi3 : (32768 : Int) ≤ (x1 : Int) := by omega
        clear hx1 g3
        have HD2 := ϕ (cut_lens HXL.out)
        have HX2 := ϕ (cut_step hge)
        clear hge
        have tk11 := True.intro
        go_wp2_with (first
         | (have _t := tk11; go_at_call 75; refine (low_any wr _ x HN.out (Nat.le_trans HXL.out (by decide))).mono ?_; rintro e w11x ⟨⟨a1, rfl, hv⟩, hb⟩; have HN := ϕ (HN.out.below hb); have H1 := ϕ hv; have HB := tm HB hb; clear hb hv _t tk11; have tk12 := True.intro)
         | (have _t := tk12; go_at_call 78; refine (Half_any w11x _ x 255 15 15 rfl (by omega) (by omega) HN.out (Nat.le_trans HXL.out (by decide))).mono ?_; rintro e w12x ⟨⟨a2, rfl, hv⟩, hb⟩; have H1 := ϕ (H1.out.below hb); have H2 := ϕ hv; have HB := tm HB hb; clear hb hv _t tk12; have tk13 := True.intro)
         | (have _t := tk13; go_at_call 41; refine (Small_any w12x 19 (by omega)).mono ?_; rintro e w13x ⟨⟨a3, rfl, hv⟩, hb⟩; have H1 := ϕ (H1.out.below hb); have H2 := ϕ (H2.out.below hb); have H3 := ϕ hv; have HB := tm HB hb; clear hb hv _t tk13; have tk14 := True.intro)
         | (have _t := tk14; go_at_call 68; refine (Mul_any w13x _ _ (x / 2 ^ 255) 19 H2.out H3.out HD2.out.1 (by exact Nat.le_trans (dig_len_le (k := 1) (by decide)) (by decide))).mono ?_; rintro e w14x ⟨⟨a4, rfl, hv⟩, hb⟩; have H1 := ϕ (H1.out.below hb); have H4 := ϕ hv; have HB := tm HB hb; clear hb hv _t tk14; have tk15 := True.intro)
         | (have _t := tk15; go_at_call 67; refine (Add_any w14x _ _ (x % 2 ^ 255) (x / 2 ^ 255 * 19) H1.out H4.out HD2.out.2.1 HD2.out.2.2).mono ?_; rintro e w15x ⟨⟨a5, rfl, hv⟩, hb⟩; have H5 := ϕ hv; have HB := tm HB hb; clear hb hv _t tk15; have tk16 := True.intro))
        go_roundw
        case rel =>
         first
          | exact ⟨x % 2 ^ 255 + x / 2 ^ 255 * 19, by rw [HX2.out.1]; exact HXX.out, Nat.le_trans (Nat.le_of_lt HX2.out.2) hxn, H5.out, HB.out⟩
          | ((repeat apply Exists.intro); refine ⟨?_, rfl⟩; exact ⟨x % 2 ^ 255 + x / 2 ^ 255 * 19, by rw [HX2.out.1]; exact HXX.out, Nat.le_trans (Nat.le_of_lt HX2.out.2) hxn, H5.out, HB.out⟩)
        case measure =>
         rw [val_of H5.out, val_of HN0.out]
         exact HX2.out.2
      · have hlt : x < 2 ^ 255 := Nat.lt_of_not_le fun h => g3 ((at_16 HL1.out hx1).2 h)
        have hd3 : decide ((32768 : Int) ≤ (x1 : Int)) = false := by rw [decide_eq_false_iff_not]; omega
        have hi3 : ¬ (32768 : Int) ≤ (x1 : Int) := by omega
        clear hx1 g3
        by_cases hp : Ed.P ≤ x
        · have HPX := ϕ hp
          have hcd : decide ((0 : Int) ≤ cmpZ x Ed.P) = true := by rw [decide_eq_true_iff]; unfold cmpZ; rw [if_neg (by omega)]; split <;> omega
          have hci : (0 : Int) ≤ cmpZ x Ed.P := by rw [decide_eq_true_iff] at hcd; exact hcd
          have HE := ϕ (cut_end1 hlt hp HXX.out)
          obtain ⟨cz, hcz⟩ : ∃ z, cmpZ x Ed.P = z := ⟨_, rfl⟩
          have HCZ := ϕ hcz
          rw [hcz] at hcd hci
          clear hp hlt hcz
          have tk21 := True.intro
          go_wp2_with (first
           | (have _t := tk21; go_at_call 74; refine (P_any wr).mono ?_; rintro e w21x ⟨⟨p1, rfl, hv⟩, hb⟩; have HN := ϕ (HN.out.below hb); have HP := ϕ hv; have HB := tm HB hb; clear hb hv _t tk21; have tk22 := True.intro)
           | (have _t := tk22; go_at_call 71; refine (Cmp_any w21x _ _ x Ed.P HN.out HP.out (Nat.le_trans HXL.out (by decide)) (by exact Nat.le_trans (dig_len_le (k := 16) (by decide +kernel)) (by decide))).mono ?_; rw [HCZ.out]; rintro e w22x ⟨rfl, hb⟩; have HN := ϕ (HN.out.below hb); have HB := tm HB hb; clear hb  _t tk22; have tk23 := True.intro)
           | (have _t := tk23; go_at_call 74; refine (P_any w22x).mono ?_; rintro e w23x ⟨⟨p2, rfl, hv⟩, hb⟩; have HN := ϕ (HN.out.below hb); have HP2 := ϕ hv; have HB := tm HB hb; clear hb hv _t tk23; have tk24 := True.intro)
           | (have _t := tk24; go_at_call 73; refine (Sub_any w23x _ _ x Ed.P HN.out HP2.out HPX.out (Nat.le_trans HXL.out (by decide))).mono ?_; rintro e w24x ⟨⟨r, rfl, hv⟩, hb⟩; have HR := ϕ hv; have HB := tm HB hb; clear hb hv _t tk24; have tk25 := True.intro))
          go_ret
          exact ⟨⟨_, rfl, HE.out ▸ HR.out⟩, HB.out⟩
        · have hcd : decide ((0 : Int) ≤ cmpZ x Ed.P) = false := by rw [decide_eq_false_iff_not]; unfold cmpZ; rw [if_pos (by omega)]; omega
          have hci : ¬ (0 : Int) ≤ cmpZ x Ed.P := by rw [decide_eq_false_iff_not] at hcd; exact hcd
          have HE := ϕ (cut_end2 (by omega) HXX.out)
          obtain ⟨cz, hcz⟩ : ∃ z, cmpZ x Ed.P = z := ⟨_, rfl⟩
          have HCZ := ϕ hcz
          rw [hcz] at hcd hci
          clear hp hlt hcz
          have tk31 := True.intro
          go_wp2_with (first
           | (have _t := tk31; go_at_call 74; refine (P_any wr).mono ?_; rintro e w31x ⟨⟨p1, rfl, hv⟩, hb⟩; have HN := ϕ (HN.out.below hb); have HP := ϕ hv; have HB := tm HB hb; clear hb hv _t tk31; have tk32 := True.intro)
           | (have _t := tk32; go_at_call 71; refine (Cmp_any w31x _ _ x Ed.P HN.out HP.out (Nat.le_trans HXL.out (by decide)) (by exact Nat.le_trans (dig_len_le (k := 16) (by decide +kernel)) (by decide))).mono ?_; rw [HCZ.out]; rintro e w32x ⟨rfl, hb⟩; have HN := ϕ (HN.out.below hb); have HB := tm HB hb; clear hb  _t tk32; have tk33 := True.intro))
          go_ret
          exact ⟨⟨_, rfl, HE.out ▸ HN.out⟩, HB.out⟩
    · have hlt := lt_of_len HL1.out (by omega : n1 < 16)
      have hq : ((n1 : Int) == 16) = false := by rw [beq_eq_false_iff_ne]; omega
      by_cases hp : Ed.P ≤ x
      · have HPX := ϕ hp
        have hcd : decide ((0 : Int) ≤ cmpZ x Ed.P) = true := by rw [decide_eq_true_iff]; unfold cmpZ; rw [if_neg (by omega)]; split <;> omega
        have hci : (0 : Int) ≤ cmpZ x Ed.P := by rw [decide_eq_true_iff] at hcd; exact hcd
        have HE := ϕ (cut_end1 hlt hp HXX.out)
        obtain ⟨cz, hcz⟩ : ∃ z, cmpZ x Ed.P = z := ⟨_, rfl⟩
        have HCZ := ϕ hcz
        rw [hcz] at hcd hci
        clear hp hlt hcz
        have tk21 := True.intro
        go_wp2_with (first
         | (have _t := tk21; go_at_call 74; refine (P_any wr).mono ?_; rintro e w21x ⟨⟨p1, rfl, hv⟩, hb⟩; have HN := ϕ (HN.out.below hb); have HP := ϕ hv; have HB := tm HB hb; clear hb hv _t tk21; have tk22 := True.intro)
         | (have _t := tk22; go_at_call 71; refine (Cmp_any w21x _ _ x Ed.P HN.out HP.out (Nat.le_trans HXL.out (by decide)) (by exact Nat.le_trans (dig_len_le (k := 16) (by decide +kernel)) (by decide))).mono ?_; rw [HCZ.out]; rintro e w22x ⟨rfl, hb⟩; have HN := ϕ (HN.out.below hb); have HB := tm HB hb; clear hb  _t tk22; have tk23 := True.intro)
         | (have _t := tk23; go_at_call 74; refine (P_any w22x).mono ?_; rintro e w23x ⟨⟨p2, rfl, hv⟩, hb⟩; have HN := ϕ (HN.out.below hb); have HP2 := ϕ hv; have HB := tm HB hb; clear hb hv _t tk23; have tk24 := True.intro)
         | (have _t := tk24; go_at_call 73; refine (Sub_any w23x _ _ x Ed.P HN.out HP2.out HPX.out (Nat.le_trans HXL.out (by decide))).mono ?_; rintro e w24x ⟨⟨r, rfl, hv⟩, hb⟩; have HR := ϕ hv; have HB := tm HB hb; clear hb hv _t tk24; have tk25 := True.intro))
        go_ret
        exact ⟨⟨_, rfl, HE.out ▸ HR.out⟩, HB.out⟩
      · have hcd : decide ((0 : Int) ≤ cmpZ x Ed.P) = false := by rw [decide_eq_false_iff_not]; unfold cmpZ; rw [if_pos (by omega)]; omega
        have hci : ¬ (0 : Int) ≤ cmpZ x Ed.P := by rw [decide_eq_false_iff_not] at hcd; exact hcd
        have HE := ϕ (cut_end2 (by omega) HXX.out)
        obtain ⟨cz, hcz⟩ : ∃ z, cmpZ x Ed.P = z := ⟨_, rfl⟩
        have HCZ := ϕ hcz
        rw [hcz] at hcd hci
        clear hp hlt hcz
        have tk31 := True.intro
        go_wp2_with (first
         | (have _t := tk31; go_at_call 74; refine (P_any wr).mono ?_; rintro e w31x ⟨⟨p1, rfl, hv⟩, hb⟩; have HN := ϕ (HN.out.below hb); have HP := ϕ hv; have HB := tm HB hb; clear hb hv _t tk31; have tk32 := True.intro)
         | (have _t := tk32; go_at_call 71; refine (Cmp_any w31x _ _ x Ed.P HN.out HP.out (Nat.le_trans HXL.out (by decide)) (by exact Nat.le_trans (dig_len_le (k := 16) (by decide +kernel)) (by decide))).mono ?_; rw [HCZ.out]; rintro e w32x ⟨rfl, hb⟩; have HN := ϕ (HN.out.below hb); have HB := tm HB hb; clear hb  _t tk32; have tk33 := True.intro))
        go_ret
        exact ⟨⟨_, rfl, HE.out ▸ HN.out⟩, HB.out⟩
open Go.Proofs.YtfpcelmekfdafaaGreatDoor.Ed
/-- v reads as the digits of x -/
def FR (w : World) (v : Value) (x : F) : Prop := Ns w v (dig x.val)
theorem FR.below {w w' : World} {v : Value} {x : F} (h : FR w v x) (hb : Below w.heap.size w w') : FR w' v x := Ns.below h hb
theorem FR.nil (w : World) : FR w (.slice none 0 0) 0 := by
 unfold FR
 rw [show (0 : F).val = 0 from rfl, dig_zero]
 exact Ns.nil w
theorem f_len (x : F) : (dig x.val).length ≤ 16 := dig_len_le (Nat.lt_of_lt_of_le x.isLt (by decide +kernel))
theorem f_len_mul (x y : F) : (dig (x.val * y.val)).length ≤ 1000 := by
 refine Nat.le_trans (dig_len_le (k := 32) ?_) (by decide)
 have h1 : x.val * y.val < Ed.P * Ed.P := Nat.mul_lt_mul_of_lt_of_le x.isLt (Nat.le_of_lt y.isLt) Ed.P_pos
 exact Nat.lt_of_lt_of_le h1 (by decide +kernel)
theorem f_len_add (x y : F) : (dig (x.val + y.val)).length ≤ 1000 := by
 refine Nat.le_trans (dig_len_le (k := 17) ?_) (by decide)
 have h1 := x.isLt
 have h2 := y.isLt
 have h3 : Ed.P + Ed.P < 65536 ^ 17 := by decide +kernel
 exact Nat.lt_of_le_of_lt (Nat.add_le_add (Nat.le_of_lt h1) (Nat.le_of_lt h2)) h3
theorem f_sub (x y : F) : (dig (x.val + Ed.P)).length ≤ 1000 ∧ y.val ≤ x.val + Ed.P ∧ (dig (x.val + Ed.P - y.val)).length ≤ 1000 ∧ (x.val + Ed.P - y.val) % Ed.P = (x - y).val := by
 have h1 := x.isLt
 have h2 := y.isLt
 have h3 : Ed.P + Ed.P < 65536 ^ 17 := by decide +kernel
 have h4 : (dig (x.val + Ed.P)).length ≤ 1000 := Nat.le_trans (dig_len_le (k := 17) (Nat.lt_of_le_of_lt (Nat.add_le_add (Nat.le_of_lt h1) (Nat.le_refl _)) h3)) (by decide)
 have h5 : y.val ≤ x.val + Ed.P := Nat.le_trans (Nat.le_of_lt h2) (Nat.le_add_left _ _)
 refine ⟨h4, h5, Nat.le_trans (len_mono (Nat.sub_le _ _)) h4, ?_⟩
 rw [Ed.v_sub]
 congr 1
 have h6 : y.val ≤ Ed.P := Nat.le_of_lt h2
 omega
theorem mul_any (w : World) (v1 v2 : Value) (x y : F) (h1 : FR w v1 x) (h2 : FR w v2 y) : Calls Tryz.prog 76 #[v1, v2] w fun e w' => (∃ u, e = .returned u ∧ FR w' u (x * y)) ∧ Below w.heap.size w w' := by
 have HX := ϕ h1
 have HY := ϕ h2
 have HB := ϕ (Below.refl w.heap.size w)
 clear h1 h2
 go_enter Tryz.func76, Tryz.ntmps76
 have tk1 := True.intro
 go_wp2_with (first
  | (have _t := tk1; go_at_call 68; refine (Dg.Mul_any w _ _ x.val y.val HX.out HY.out (Nat.le_trans (f_len x) (by decide)) (Nat.le_trans (f_len y) (by decide))).mono ?_; rintro e w1x ⟨⟨p, rfl, hv⟩, hb⟩; have HX := ϕ (HX.out.below hb); have HY := ϕ (HY.out.below hb); have HP := ϕ hv; have HB := tm HB hb; clear hb hv _t tk1; have tk2 := True.intro)
  | (have _t := tk2; go_at_call 72; refine (Cut_any w1x _ (x.val * y.val) HP.out (f_len_mul x y)).mono ?_; rintro e w2x ⟨⟨r, rfl, hv⟩, hb⟩; have HX := ϕ (HX.out.below hb); have HY := ϕ (HY.out.below hb); have HP := ϕ (HP.out.below hb); have HR := ϕ hv; have HB := tm HB hb; clear hb hv _t tk2; have tk3 := True.intro))
 go_ret
 exact ⟨⟨_, rfl, HR.out⟩, HB.out⟩
theorem add_any (w : World) (v1 v2 : Value) (x y : F) (h1 : FR w v1 x) (h2 : FR w v2 y) : Calls Tryz.prog 44 #[v1, v2] w fun e w' => (∃ u, e = .returned u ∧ FR w' u (x + y)) ∧ Below w.heap.size w w' := by
 have HX := ϕ h1
 have HY := ϕ h2
 have HB := ϕ (Below.refl w.heap.size w)
 clear h1 h2
 go_enter Tryz.func44, Tryz.ntmps44
 have tk1 := True.intro
 go_wp2_with (first
  | (have _t := tk1; go_at_call 67; refine (Dg.Add_any w _ _ x.val y.val HX.out HY.out (Nat.le_trans (f_len x) (by decide)) (Nat.le_trans (f_len y) (by decide))).mono ?_; rintro e w1x ⟨⟨p, rfl, hv⟩, hb⟩; have HX := ϕ (HX.out.below hb); have HY := ϕ (HY.out.below hb); have HP := ϕ hv; have HB := tm HB hb; clear hb hv _t tk1; have tk2 := True.intro)
  | (have _t := tk2; go_at_call 72; refine (Cut_any w1x _ (x.val + y.val) HP.out (f_len_add x y)).mono ?_; rintro e w2x ⟨⟨r, rfl, hv⟩, hb⟩; have HX := ϕ (HX.out.below hb); have HY := ϕ (HY.out.below hb); have HP := ϕ (HP.out.below hb); have HR := ϕ hv; have HB := tm HB hb; clear hb hv _t tk2; have tk3 := True.intro))
 go_ret
 exact ⟨⟨_, rfl, HR.out⟩, HB.out⟩
theorem p_len : (dig Ed.P).length ≤ 10000 := Nat.le_trans (dig_len_le (k := 16) (by decide +kernel)) (by decide)
theorem sub_any (w : World) (v1 v2 : Value) (x y : F) (h1 : FR w v1 x) (h2 : FR w v2 y) : Calls Tryz.prog 37 #[v1, v2] w fun e w' => (∃ u, e = .returned u ∧ FR w' u (x - y)) ∧ Below w.heap.size w w' := by
 have HX := ϕ h1
 have HY := ϕ h2
 have HPL := ϕ p_len
 have HB := ϕ (Below.refl w.heap.size w)
 clear h1 h2
 go_enter Tryz.func37, Tryz.ntmps37
 have tk1 := True.intro
 go_wp2_with (first
  | (have _t := tk1; go_at_call 74; refine (P_any w).mono ?_; rintro e w1x ⟨⟨p, rfl, hv⟩, hb⟩; have HX := ϕ (HX.out.below hb); have HY := ϕ (HY.out.below hb); have HP := ϕ hv; have HB := tm HB hb; clear hb hv _t tk1; have tk2 := True.intro)
  | (have _t := tk2; go_at_call 67; refine (Dg.Add_any w1x _ _ x.val Ed.P HX.out HP.out (Nat.le_trans (f_len x) (by decide)) HPL.out).mono ?_; rintro e w2x ⟨⟨q, rfl, hv⟩, hb⟩; have HX := ϕ (HX.out.below hb); have HY := ϕ (HY.out.below hb); have HP := ϕ (HP.out.below hb); have HQ := ϕ hv; have HB := tm HB hb; clear hb hv _t tk2; have tk3 := True.intro)
  | (have _t := tk3; go_at_call 73; refine (Dg.Sub_any w2x _ _ (x.val + Ed.P) y.val HQ.out HY.out (f_sub x y).2.1 (Nat.le_trans (f_sub x y).1 (by decide))).mono ?_; rintro e w3x ⟨⟨s, rfl, hv⟩, hb⟩; have HX := ϕ (HX.out.below hb); have HY := ϕ (HY.out.below hb); have HP := ϕ (HP.out.below hb); have HQ := ϕ (HQ.out.below hb); have HS := ϕ hv; have HB := tm HB hb; clear hb hv _t tk3; have tk4 := True.intro)
  | (have _t := tk4; go_at_call 72; refine (Cut_any w3x _ (x.val + Ed.P - y.val) HS.out (f_sub x y).2.2.1).mono ?_; rintro e w4x ⟨⟨r, rfl, hv⟩, hb⟩; have HX := ϕ (HX.out.below hb); have HY := ϕ (HY.out.below hb); have HP := ϕ (HP.out.below hb); have HQ := ϕ (HQ.out.below hb); have HS := ϕ (HS.out.below hb); have HR := ϕ hv; have HB := tm HB hb; clear hb hv _t tk4; have tk5 := True.intro))
 go_ret
 exact ⟨⟨_, rfl, by have h := HR.out; rw [(f_sub x y).2.2.2] at h; exact h⟩, HB.out⟩
theorem of_any (w : World) (S : ByteArray) (hs : S.size = 32) : Calls Tryz.prog 39 #[.string S] w fun e w' => (∃ u, e = .returned u ∧ FR w' u (fe (leN S.data.toList % 2 ^ 255))) ∧ Below w.heap.size w w' := by
 have HL := ϕ (show (dig (leN S.data.toList)).length ≤ 10000 ∧ (dig (leN S.data.toList % 2 ^ 255)).length ≤ 1000 from by
  have h1 : (dig (leN S.data.toList)).length ≤ 16 := dig_len_le (by
   have h := leN_lt S.data.toList
   rw [Array.length_toList, show S.data.size = 32 from hs] at h
   exact Nat.lt_of_lt_of_le h (by decide +kernel))
  have h2 := len_mono (Nat.mod_le (leN S.data.toList) (2 ^ 255))
  omega)
 have hi : ¬ (32 : Int) < (S.size : Int) := by omega
 have hd : decide ((32 : Int) < (S.size : Int)) = false := by rw [decide_eq_false_iff_not]; omega
 have HB := ϕ (Below.refl w.heap.size w)
 go_enter Tryz.func39, Tryz.ntmps39
 have tk1 := True.intro
 go_wp2_with (first
  | (have _t := tk1; go_at_call 25; refine (Dg.Of_any w S (by omega)).mono ?_; rintro e w1x ⟨⟨p, rfl, hv⟩, hb⟩; skip;  have HP := ϕ hv; have HB := tm HB hb; clear hb hv _t tk1; have tk2 := True.intro)
  | (have _t := tk2; go_at_call 75; refine (low_any w1x _ (leN S.data.toList) HP.out HL.out.1).mono ?_; rintro e w2x ⟨⟨q, rfl, hv⟩, hb⟩; have HP := ϕ (HP.out.below hb); have HQ := ϕ hv; have HB := tm HB hb; clear hb hv _t tk2; have tk3 := True.intro)
  | (have _t := tk3; go_at_call 72; refine (Cut_any w2x _ (leN S.data.toList % 2 ^ 255) HQ.out HL.out.2).mono ?_; rintro e w3x ⟨⟨r, rfl, hv⟩, hb⟩; have HP := ϕ (HP.out.below hb); have HQ := ϕ (HQ.out.below hb); have HR := ϕ hv; have HB := tm HB hb; clear hb hv _t tk3; have tk4 := True.intro))
 go_ret
 exact ⟨⟨_, rfl, HR.out⟩, HB.out⟩
theorem bytes_any (w : World) (v : Value) (x : F) (h1 : FR w v x) : Calls Tryz.prog 57 #[v] w fun e w' => e = .returned (.string ⟨(toLe 32 x.val).toArray⟩) ∧ Below w.heap.size w w' := by
 have HX := ϕ h1
 have HB := ϕ (Below.refl w.heap.size w)
 clear h1
 go_enter Tryz.func57, Tryz.ntmps57
 have tk1 := True.intro
 go_wp2_with (have _t := tk1; go_at_call 63; refine (Dg.Bytes_any w _ x.val 32 HX.out (Nat.le_trans (f_len x) (by decide)) (by decide)).mono ?_; rintro e w1x ⟨rfl, hb⟩; have HX := ϕ (HX.out.below hb); have HB := tm HB hb; clear hb  _t tk1; have tk2 := True.intro)
 go_ret
 exact ⟨rfl, HB.out⟩
theorem odd_any (w : World) (v : Value) (x : F) (h1 : FR w v x) : Calls Tryz.prog 58 #[v] w fun e w' => e = .returned (.bool (x.val % 2 == 1)) ∧ Below w.heap.size w w' := by
 obtain ⟨A1, c1, rfl, hR1, hc1⟩ := h1
 obtain ⟨m, hm⟩ : ∃ m, m = x.val := ⟨_, rfl⟩
 rw [← hm] at hR1 hc1 ⊢
 obtain ⟨n1, hn1⟩ : ∃ k, (dig m).length = k := ⟨_, rfl⟩
 have HR1 := ϕ hR1
 have HL1 := ϕ hn1
 rw [hn1] at hc1 ⊢
 clear hR1 hn1 hm
 by_cases h0 : n1 = 0
 · subst h0
   have HZ := ϕ (show (m % 2 == 1) = false by
    have := dig_nil (List.eq_nil_of_length_eq_zero HL1.out)
    rw [this]; rfl)
   have hd : decide ((0 : Int) < ((0 : Nat) : Int)) = false := rfl
   go_enter Tryz.func58, Tryz.ntmps58
   go_wp2_with fail
   go_ret
   exact ⟨by rw [HZ.out]; rfl, Below.refl _ _⟩
 · have hi : (0 : Int) < (n1 : Int) := by omega
   have hd : decide ((0 : Int) < (n1 : Int)) = true := by rw [decide_eq_true_iff]; omega
   obtain ⟨b1, o1, hA1, hl1, hcell1⟩ := Ns.at_ HR1.out (show 0 < (dig m).length by have := HL1.out; omega)
   rw [show (dig m)[0]'(by have := HL1.out; omega) = m % 65536 from by have := dig_get (n := m) (i := 0) (by have := HL1.out; omega); rw [List.getElem?_eq_getElem (by have := HL1.out; omega), Nat.pow_zero, Nat.div_one] at this; exact Option.some.inj this, Nat.add_zero] at hcell1
   obtain ⟨x1, hx1⟩ : ∃ y, y = m % 65536 := ⟨_, rfl⟩
   rw [← hx1] at hcell1
   have HZ := ϕ (show (m % 2 == 1) = ((x1 : Int) % 2 == 1) by
    rw [Bool.eq_iff_iff, beq_iff_eq, beq_iff_eq]; omega)
   have hxl : x1 < 65536 := by omega
   subst hA1
   clear hx1
   go_enter Tryz.func58, Tryz.ntmps58
   go_wp2_with fail
   go_ret
   exact ⟨by rw [HZ.out]; rfl, Below.refl _ _⟩
theorem pow_bit1 (a : F) (n j : Nat) (h : n / 2 ^ j % 2 = 1) : fpow a (n / 2 ^ (j + 1)) * fpow a (n / 2 ^ (j + 1)) * a = fpow a (n / 2 ^ j) := by
 have e : n / 2 ^ (j + 1) = n / 2 ^ j / 2 := by rw [Nat.pow_succ, Nat.div_div_eq_div_mul]
 rw [e, ← fpow_odd]
 congr 1
 omega
theorem pow_bit0 (a : F) (n j : Nat) (h : n / 2 ^ j % 2 = 0) : fpow a (n / 2 ^ (j + 1)) * fpow a (n / 2 ^ (j + 1)) = fpow a (n / 2 ^ j) := by
 have e : n / 2 ^ (j + 1) = n / 2 ^ j / 2 := by rw [Nat.pow_succ, Nat.div_div_eq_div_mul]
 rw [e, ← fpow_two]
 congr 1
 omega
theorem bit_at (n q r j x : Nat) (hj : j = 16 * q + r) (hr : r < 16) (hx : x = n / 65536 ^ q % 65536) : x / 2 ^ r % 2 = n / 2 ^ j % 2 := by
 have e1 : n / 2 ^ j = n / 65536 ^ q / 2 ^ r := by
  rw [Nat.div_div_eq_div_mul, show (65536 : Nat) = 2 ^ 16 from rfl, ← Nat.pow_mul, ← Nat.pow_add, hj]
 rw [e1, hx]
 generalize n / 65536 ^ q = y
 have hr2 : r = 0 ∨ r = 1 ∨ r = 2 ∨ r = 3 ∨ r = 4 ∨ r = 5 ∨ r = 6 ∨ r = 7 ∨ r = 8 ∨ r = 9 ∨ r = 10 ∨ r = 11 ∨ r = 12 ∨ r = 13 ∨ r = 14 ∨ r = 15 := by omega
 rcases hr2 with rfl | rfl | rfl | rfl | rfl | rfl | rfl | rfl | rfl | rfl | rfl | rfl | rfl | rfl | rfl | rfl <;> simp only [Nat.reducePow] <;> omega
theorem div_top (n k : Nat) (h : (dig n).length = k) : n / 2 ^ (16 * k) = 0 := by
 have h1 := dig_lt n
 rw [h, show (65536 : Nat) = 2 ^ 16 from rfl, ← Nat.pow_mul] at h1
 exact Nat.div_eq_of_lt h1
theorem power_any (w : World) (v1 v2 : Value) (a : F) (n : Nat) (h1 : FR w v1 a) (h2 : Ns w v2 (dig n)) (hl : (dig n).length ≤ 1000) : Calls Tryz.prog 77 #[v1, v2] w fun e w' => (∃ u, e = .returned u ∧ FR w' u (fpow a n)) ∧ Below w.heap.size w w' := by
 have HA := ϕ h1
 have HN2 := ϕ h2
 obtain ⟨A2, c2, rfl, hR2, hc2⟩ := h2
 obtain ⟨n2, hn2⟩ : ∃ k, (dig n).length = k := ⟨_, rfl⟩
 have HR2 := ϕ hR2
 have HL2 := ϕ hn2
 have HDT := ϕ (div_top n n2 hn2)
 rw [hn2] at hc2 hl ⊢
 clear hR2 hn2 h1
 have HSM := ϕ (Small_any w 1 (by omega))
 go_enter Tryz.func77, Tryz.ntmps77
 go_wp2_with (go_at_call 41; refine HSM.out.mono ?_; rintro e w0 ⟨⟨u, rfl, hv⟩, hb⟩; have H0 := ϕ hv; have HB := ϕ hb; clear hv hb)
 have HA0 := ϕ (fun (W : World) (h : Below w.heap.size w W) => HA.out.below h)
 go_loopw [5, 6] (fun v i wr => ∃ k : Nat, i = .int .i64 ((k : Int) - 1) ∧ k ≤ 16 * n2 ∧ FR wr v (fpow a (n / 2 ^ k)) ∧ Below w.heap.size w wr) (fun _ i _ => (intOf i + 1).toNat)
 case atStart => exact ⟨16 * n2, by go_num, Nat.le_refl _, by rw [HDT.out]; exact H0.out, HB.out⟩
 case round =>
  obtain ⟨k0, rfl, hk, hO, hB⟩ := hrel
  clear H0 HB HA
  have HO := ϕ hO
  have HB := ϕ hB
  clear hO hB
  by_cases h0 : k0 = 0
  · subst h0
    have e1 : ((0 : Nat) : Int) - 1 = -1 := by omega
    rw [e1]
    have HO2 := ϕ (show FR wr u5 (fpow a n) from by have h := HO.out; rwa [Nat.pow_zero, Nat.div_one] at h)
    clear e1
    go_wp2_with fail
    go_ret
    exact ⟨⟨_, rfl, HO2.out⟩, HB.out⟩
  · obtain ⟨j, rfl⟩ : ∃ j, k0 = j + 1 := ⟨k0 - 1, by omega⟩
    have hge : (0 : Int) ≤ (j : Int) := by omega
    have hgd : decide ((0 : Int) ≤ (j : Int)) = true := by rw [decide_eq_true_iff]; omega
    have hke : ((j + 1 : Nat) : Int) - 1 = (j : Int) := by omega
    rw [hke]
    obtain ⟨q, hq⟩ : ∃ q, j / 16 = q := ⟨_, rfl⟩
    obtain ⟨r, hr⟩ : ∃ r, j % 16 = r := ⟨_, rfl⟩
    have hqi : (j : Int) / 16 = (q : Int) := by omega
    have hri : (j : Int) % 16 = (r : Int) := by omega
    have hq0 : (0 : Int) ≤ (q : Int) := by omega
    have hql : (q : Int) < (n2 : Int) := by omega
    have hr0 : (0 : Int) ≤ (r : Int) := by omega
    have hr16 : (r : Int) < 16 := by omega
    obtain ⟨b1, o1, hA1, hl1, hcell⟩ := Ns.at_ HR2.out (show q < (dig n).length by have := HL2.out; omega)
    obtain ⟨x1, hx1⟩ : ∃ y, y = n / 65536 ^ q % 65536 := ⟨_, rfl⟩
    rw [show (dig n)[q]'(by have := HL2.out; omega) = x1 from by have := dig_get (n := n) (i := q) (by have := HL2.out; omega); rw [List.getElem?_eq_getElem (by have := HL2.out; omega)] at this; rw [hx1]; exact Option.some.inj this] at hcell
    have hxl : x1 < 65536 := by omega
    have HXB := ϕ (bit_at n q r j x1 (by omega) (by omega) hx1)
    have HB0 := ϕ (fun (W : World) (h : Below w.heap.size w W) => (h.cell (p := ⟨b1, o1 + q, none⟩) hl1).trans hcell)
    have HA := ϕ (HA0.out wr HB.out)
    subst hA1
    clear hx1 hcell hl1 hke hq hr
    by_cases hb : n / 2 ^ j % 2 = 1
    · have hbt : ((x1 : Int) / 2 ^ r).tmod 2 = 1 := by
       have h1 : (x1 : Int) / 2 ^ r = ((x1 / 2 ^ r : Nat) : Int) := by rw [Int.natCast_ediv, Int.natCast_pow]; rfl
       have h2 := HXB.out
       rw [h1, Int.tmod_eq_emod_of_nonneg (Int.natCast_nonneg _)]
       generalize x1 / 2 ^ r = t at *
       omega
      have hbb : (((x1 : Int) / 2 ^ r).tmod 2 == 1) = true := by rw [hbt]; rfl
      have HE := ϕ (pow_bit1 a n j hb)
      clear hb
      have tk1 := True.intro
      go_wp2_with (first
       | (have _t := tk1; go_at_call 76; refine (mul_any wr _ _ _ _ HO.out HO.out).mono ?_; rintro e w1x ⟨⟨sq, rfl, hv⟩, hb⟩; have HA := ϕ (HA.out.below hb); have HSQ := ϕ hv; have HB := tm HB hb; have hcell1 := (HB0.out w1x HB.out); clear hb hv _t tk1; have tk2 := True.intro)
       | (have _t := tk2; go_at_call 76; refine (mul_any w1x _ _ _ _ HSQ.out HA.out).mono ?_; rintro e w2x ⟨⟨sm, rfl, hv⟩, hb⟩; have HSM := ϕ hv; have HB := tm HB hb; clear hb hv _t tk2; have tk3 := True.intro))
      go_roundw
      case rel =>
       have REL := ϕ (show ∃ k2 : Nat, Value.int .i64 ((j : Int) - 1) = .int .i64 ((k2 : Int) - 1) ∧ k2 ≤ 16 * n2 ∧ FR w2x sm (fpow a (n / 2 ^ k2)) ∧ Below w.heap.size w w2x from ⟨j, rfl, by omega, HE.out ▸ HSM.out, HB.out⟩)
       first
        | exact REL.out
        | ((repeat apply Exists.intro); refine ⟨?_, rfl⟩; exact REL.out)
      case measure => (first | (simp [intOf]; done) | (simp [intOf]; omega))
    · replace hb : n / 2 ^ j % 2 = 0 := by omega
      have hbt : ((x1 : Int) / 2 ^ r).tmod 2 = 0 := by
       have h1 : (x1 : Int) / 2 ^ r = ((x1 / 2 ^ r : Nat) : Int) := by rw [Int.natCast_ediv, Int.natCast_pow]; rfl
       have h2 := HXB.out
       rw [h1, Int.tmod_eq_emod_of_nonneg (Int.natCast_nonneg _)]
       generalize x1 / 2 ^ r = t at *
       omega
      have hbb : (((x1 : Int) / 2 ^ r).tmod 2 == 1) = false := by rw [hbt]; rfl
      have HE := ϕ (pow_bit0 a n j hb)
      clear hb
      have tk1 := True.intro
      go_wp2_with (have _t := tk1; go_at_call 76; refine (mul_any wr _ _ _ _ HO.out HO.out).mono ?_; rintro e w1x ⟨⟨sq, rfl, hv⟩, hb⟩; have HSQ := ϕ hv; have HB := tm HB hb; have hcell1 := (HB0.out w1x HB.out); clear hb hv _t tk1; have tk2 := True.intro)
      go_roundw
      case rel =>
       have REL := ϕ (show ∃ k2 : Nat, Value.int .i64 ((j : Int) - 1) = .int .i64 ((k2 : Int) - 1) ∧ k2 ≤ 16 * n2 ∧ FR w1x sq (fpow a (n / 2 ^ k2)) ∧ Below w.heap.size w w1x from ⟨j, rfl, by omega, HE.out ▸ HSQ.out, HB.out⟩)
       first
        | exact REL.out
        | ((repeat apply Exists.intro); refine ⟨?_, rfl⟩; exact REL.out)
      case measure => (first | (simp [intOf]; done) | (simp [intOf]; omega))
theorem p2_len : (dig (Ed.P - 2)).length ≤ 1000 := Nat.le_trans (dig_len_le (k := 16) (by decide +kernel)) (by decide)
theorem invert_any (w : World) (v : Value) (x : F) (h1 : FR w v x) : Calls Tryz.prog 43 #[v] w fun e w' => (∃ u, e = .returned u ∧ FR w' u (Ed.inv x)) ∧ Below w.heap.size w w' := by
 have HX := ϕ h1
 have HPL2 := ϕ p2_len
 have HB := ϕ (Below.refl w.heap.size w)
 clear h1
 go_enter Tryz.func43, Tryz.ntmps43
 have tk1 := True.intro
 go_wp2_with (first
  | (have _t := tk1; go_at_call 74; refine (P_any w).mono ?_; rintro e w1x ⟨⟨p, rfl, hv⟩, hb⟩; have HX := ϕ (HX.out.below hb); have HP := ϕ hv; have HB := tm HB hb; clear hb hv _t tk1; have tk2 := True.intro)
  | (have _t := tk2; go_at_call 41; refine (Small_any w1x 2 (by omega)).mono ?_; rintro e w2x ⟨⟨q, rfl, hv⟩, hb⟩; have HX := ϕ (HX.out.below hb); have HP := ϕ (HP.out.below hb); have HQ := ϕ hv; have HB := tm HB hb; clear hb hv _t tk2; have tk3 := True.intro)
  | (have _t := tk3; go_at_call 73; refine (Dg.Sub_any w2x _ _ Ed.P 2 HP.out HQ.out (by decide +kernel) p_len).mono ?_; rintro e w3x ⟨⟨s, rfl, hv⟩, hb⟩; have HX := ϕ (HX.out.below hb); have HP := ϕ (HP.out.below hb); have HQ := ϕ (HQ.out.below hb); have HS := ϕ hv; have HB := tm HB hb; clear hb hv _t tk3; have tk4 := True.intro)
  | (have _t := tk4; go_at_call 77; refine (power_any w3x _ _ x (Ed.P - 2) HX.out HS.out HPL2.out).mono ?_; rintro e w4x ⟨⟨r, rfl, hv⟩, hb⟩; have HX := ϕ (HX.out.below hb); have HP := ϕ (HP.out.below hb); have HQ := ϕ (HQ.out.below hb); have HS := ϕ (HS.out.below hb); have HR := ϕ hv; have HB := tm HB hb; clear hb hv _t tk4; have tk5 := True.intro))
 go_ret
 exact ⟨⟨_, rfl, by have h := HR.out; rw [← inv_fpow] at h; exact h⟩, HB.out⟩
theorem p4_len : (dig (Ed.P / 2 ^ 2)).length ≤ 1000 := Nat.le_trans (dig_len_le (k := 16) (by decide +kernel)) (by decide)
theorem m0_eq : fpow 2 (Ed.P / 2 ^ 2) = iE := Fin.ext (by rw [fpow_pm _ _ (by decide +kernel)]; decide +kernel)
theorem iE_even : (iE.val % 2 == 1) = false := by decide +kernel
theorem minus1_any (w : World) : Calls Tryz.prog 79 #[] w fun e w' => (∃ u, e = .returned u ∧ FR w' u (iE)) ∧ Below w.heap.size w w' := by
 have HPL2 := ϕ p4_len
 have hev := iE_even
 have HB := ϕ (Below.refl w.heap.size w)
 go_enter Tryz.func79, Tryz.ntmps79
 have tk1 := True.intro
 go_wp2_with (first
  | (have _t := tk1; go_at_call 41; refine (Small_any w 2 (by omega)).mono ?_; rintro e w1x ⟨⟨q, rfl, hv⟩, hb⟩; skip;  have HQ := ϕ hv; have HB := tm HB hb; clear hb hv _t tk1; have tk2 := True.intro)
  | (have _t := tk2; go_at_call 74; refine (P_any w1x).mono ?_; rintro e w2x ⟨⟨p, rfl, hv⟩, hb⟩; have HQ := ϕ (HQ.out.below hb); have HP := ϕ hv; have HB := tm HB hb; clear hb hv _t tk2; have tk3 := True.intro)
  | (have _t := tk3; go_at_call 78; refine (Half_any w2x _ Ed.P 2 0 2 rfl (by omega) (by omega) HP.out p_len).mono ?_; rintro e w3x ⟨⟨s, rfl, hv⟩, hb⟩; have HQ := ϕ (HQ.out.below hb); have HP := ϕ (HP.out.below hb); have HS := ϕ hv; have HB := tm HB hb; clear hb hv _t tk3; have tk4 := True.intro)
  | (have _t := tk4; go_at_call 77; refine (power_any w3x _ _ 2 (Ed.P / 2 ^ 2) HQ.out HS.out HPL2.out).mono ?_; rintro e w4x ⟨⟨r, rfl, hv⟩, hb⟩; have HQ := ϕ (HQ.out.below hb); have HP := ϕ (HP.out.below hb); have HS := ϕ (HS.out.below hb); have HR := ϕ hv; have HB := tm HB hb; clear hb hv _t tk4; have tk5 := True.intro)
  | (have _t := tk5; go_at_call 58; refine (odd_any w4x _ iE (m0_eq ▸ HR.out)).mono ?_; rintro e w5x ⟨rfl, hb⟩; have HQ := ϕ (HQ.out.below hb); have HP := ϕ (HP.out.below hb); have HS := ϕ (HS.out.below hb); have HR := ϕ (HR.out.below hb); have HB := tm HB hb; clear hb  _t tk5; have tk6 := True.intro))
 go_ret
 exact ⟨⟨_, rfl, m0_eq ▸ HR.out⟩, HB.out⟩
theorem cmpF_eq {x y : F} (h : x = y) (w : World) (v1 v2 : Value) (h1 : FR w v1 x) (h2 : FR w v2 y) : Calls Tryz.prog 71 #[v1, v2] w fun e w' => e = .returned (.int .i64 0) ∧ Below w.heap.size w w' := by
 have h3 := Cmp_any w v1 v2 x.val y.val h1 h2 (Nat.le_trans (f_len x) (by decide)) (Nat.le_trans (f_len y) (by decide))
 rw [cmp_eq (by rw [h])] at h3
 exact h3
theorem cmpF_ne {x y : F} (h : x ≠ y) (w : World) (v1 v2 : Value) (h1 : FR w v1 x) (h2 : FR w v2 y) : Calls Tryz.prog 71 #[v1, v2] w fun e w' => (∃ z : Int, e = .returned (.int .i64 z) ∧ (z != 0) = true) ∧ Below w.heap.size w w' := by
 refine (Cmp_any w v1 v2 x.val y.val h1 h2 (Nat.le_trans (f_len x) (by decide)) (Nat.le_trans (f_len y) (by decide))).mono ?_
 rintro e w' ⟨rfl, hb⟩
 refine ⟨⟨_, rfl, ?_⟩, hb⟩
 have hv : x.val ≠ y.val := fun e => h (Fin.ext e)
 unfold cmpZ
 by_cases h3 : x.val < y.val
 · rw [if_pos h3]; rfl
 · rw [if_neg h3, if_pos (by omega)]; rfl
theorem p3_len : (dig (Ed.P + 3)).length ≤ 10000 ∧ (dig ((Ed.P + 3) / 2 ^ 3)).length ≤ 1000 := ⟨Nat.le_trans (dig_len_le (k := 16) (by decide +kernel)) (by decide), Nat.le_trans (dig_len_le (k := 16) (by decide +kernel)) (by decide)⟩
theorem root_any (w : World) (v : Value) (x : F) (h1 : FR w v x) : Calls Tryz.prog 42 #[v] w fun e w' => (∃ u, e = .returned (.tuple #[u, .bool (rt x).isSome]) ∧ FR w' u ((rt x).getD 0)) ∧ Below w.heap.size w w' := by
 have HX := ϕ h1
 have HB := ϕ (Below.refl w.heap.size w)
 clear h1
 obtain ⟨r, hr⟩ : ∃ r, r = rt1 x := ⟨_, rfl⟩
 have HRD := ϕ hr
 by_cases hc1 : r * r = x
 · have HC1 := ϕ hc1
   have HC2 := ϕ hc1
   cases ho : (r.val % 2 == 1)
   · have HRT := ϕ (show rt x = some r by rw [rt_a hr hc1, ev_even ho])
     have HOD := ϕ ho
     clear hr hc1 ho
     go_enter Tryz.func42, Tryz.ntmps42
     have tk1 := True.intro
     go_wp2_with (first
      | (have _t := tk1; go_at_call 74; refine (P_any w).mono ?_; rintro e w1x ⟨⟨p, rfl, hv⟩, hb⟩; have HX := ϕ (HX.out.below hb); have HP := ϕ hv; have HB := tm HB hb; clear hb hv _t tk1; have tk2 := True.intro)
      | (have _t := tk2; go_at_call 41; refine (Small_any w1x 3 (by omega)).mono ?_; rintro e w2x ⟨⟨q, rfl, hv⟩, hb⟩; have HX := ϕ (HX.out.below hb); have HP := ϕ (HP.out.below hb); have HQ := ϕ hv; have HB := tm HB hb; clear hb hv _t tk2; have tk3 := True.intro)
      | (have _t := tk3; go_at_call 67; refine (Dg.Add_any w2x _ _ Ed.P 3 HP.out HQ.out p_len (by exact Nat.le_trans (dig_len_le (k := 1) (by decide)) (by decide))).mono ?_; rintro e w3x ⟨⟨s, rfl, hv⟩, hb⟩; have HX := ϕ (HX.out.below hb); have HS := ϕ hv; have HB := tm HB hb; clear hb hv _t tk3; have tk4 := True.intro)
      | (have _t := tk4; go_at_call 78; refine (Half_any w3x _ (Ed.P + 3) 3 0 3 rfl (by omega) (by omega) HS.out p3_len.1).mono ?_; rintro e w4x ⟨⟨h, rfl, hv⟩, hb⟩; have HX := ϕ (HX.out.below hb); have HH := ϕ hv; have HB := tm HB hb; clear hb hv _t tk4; have tk5 := True.intro)
      | (have _t := tk5; go_at_call 77; refine (power_any w4x _ _ x ((Ed.P + 3) / 2 ^ 3) HX.out HH.out p3_len.2).mono ?_; rintro e w5x ⟨⟨r1v, rfl, hv⟩, hb⟩; have HX := ϕ (HX.out.below hb); have HR1 := ϕ (show FR _ r1v r from by rw [HRD.out]; unfold rt1; exact hv); have HB := tm HB hb; clear hb hv _t tk5; have tk6 := True.intro)
      | (have _t := tk6; go_at_call 76; refine (mul_any w5x _ _ _ _ HR1.out HR1.out).mono ?_; rintro e w6x ⟨⟨m1, rfl, hv⟩, hb⟩; have HX := ϕ (HX.out.below hb); have HR1 := ϕ (HR1.out.below hb); have HM1 := ϕ hv; have HB := tm HB hb; clear hb hv _t tk6; have tk7 := True.intro)
      | (have _t := tk7; go_at_call 71; refine (cmpF_eq HC1.out w6x _ _ HM1.out HX.out).mono ?_; rintro e w7x ⟨rfl, hb⟩; have HX := ϕ (HX.out.below hb); have HR1 := ϕ (HR1.out.below hb); have HB := tm HB hb; clear hb  _t tk7; have tk8 := True.intro)
      | (have _t := tk8; go_at_call 76; refine (mul_any w7x _ _ _ _ HR1.out HR1.out).mono ?_; rintro e w8x ⟨⟨m2, rfl, hv⟩, hb⟩; have HX := ϕ (HX.out.below hb); have HR1 := ϕ (HR1.out.below hb); have HM2 := ϕ hv; have HB := tm HB hb; clear hb hv _t tk8; have tk9 := True.intro)
      | (have _t := tk9; go_at_call 71; refine (cmpF_eq HC2.out w8x _ _ HM2.out HX.out).mono ?_; rintro e w9x ⟨rfl, hb⟩; have HR1 := ϕ (HR1.out.below hb); have HB := tm HB hb; clear hb  _t tk9; have tk10 := True.intro)
      | (have _t := tk10; go_at_call 58; refine (odd_any w9x _ _ HR1.out).mono ?_; rw [HOD.out]; rintro e w10x ⟨rfl, hb⟩; have HR1 := ϕ (HR1.out.below hb); have HB := tm HB hb; clear hb  _t tk10; have tk11 := True.intro))
     go_ret2
     refine ⟨⟨_, by rw [HRT.out]; rfl, ?_⟩, HB.out⟩
     rw [HRT.out]
     exact HR1.out
   · have HRT := ϕ (show rt x = some (0 - r) by rw [rt_a hr hc1, ev_odd ho])
     have HOD := ϕ ho
     clear hr hc1 ho
     go_enter Tryz.func42, Tryz.ntmps42
     have tk1 := True.intro
     go_wp2_with (first
      | (have _t := tk1; go_at_call 74; refine (P_any w).mono ?_; rintro e w1x ⟨⟨p, rfl, hv⟩, hb⟩; have HX := ϕ (HX.out.below hb); have HP := ϕ hv; have HB := tm HB hb; clear hb hv _t tk1; have tk2 := True.intro)
      | (have _t := tk2; go_at_call 41; refine (Small_any w1x 3 (by omega)).mono ?_; rintro e w2x ⟨⟨q, rfl, hv⟩, hb⟩; have HX := ϕ (HX.out.below hb); have HP := ϕ (HP.out.below hb); have HQ := ϕ hv; have HB := tm HB hb; clear hb hv _t tk2; have tk3 := True.intro)
      | (have _t := tk3; go_at_call 67; refine (Dg.Add_any w2x _ _ Ed.P 3 HP.out HQ.out p_len (by exact Nat.le_trans (dig_len_le (k := 1) (by decide)) (by decide))).mono ?_; rintro e w3x ⟨⟨s, rfl, hv⟩, hb⟩; have HX := ϕ (HX.out.below hb); have HS := ϕ hv; have HB := tm HB hb; clear hb hv _t tk3; have tk4 := True.intro)
      | (have _t := tk4; go_at_call 78; refine (Half_any w3x _ (Ed.P + 3) 3 0 3 rfl (by omega) (by omega) HS.out p3_len.1).mono ?_; rintro e w4x ⟨⟨h, rfl, hv⟩, hb⟩; have HX := ϕ (HX.out.below hb); have HH := ϕ hv; have HB := tm HB hb; clear hb hv _t tk4; have tk5 := True.intro)
      | (have _t := tk5; go_at_call 77; refine (power_any w4x _ _ x ((Ed.P + 3) / 2 ^ 3) HX.out HH.out p3_len.2).mono ?_; rintro e w5x ⟨⟨r1v, rfl, hv⟩, hb⟩; have HX := ϕ (HX.out.below hb); have HR1 := ϕ (show FR _ r1v r from by rw [HRD.out]; unfold rt1; exact hv); have HB := tm HB hb; clear hb hv _t tk5; have tk6 := True.intro)
      | (have _t := tk6; go_at_call 76; refine (mul_any w5x _ _ _ _ HR1.out HR1.out).mono ?_; rintro e w6x ⟨⟨m1, rfl, hv⟩, hb⟩; have HX := ϕ (HX.out.below hb); have HR1 := ϕ (HR1.out.below hb); have HM1 := ϕ hv; have HB := tm HB hb; clear hb hv _t tk6; have tk7 := True.intro)
      | (have _t := tk7; go_at_call 71; refine (cmpF_eq HC1.out w6x _ _ HM1.out HX.out).mono ?_; rintro e w7x ⟨rfl, hb⟩; have HX := ϕ (HX.out.below hb); have HR1 := ϕ (HR1.out.below hb); have HB := tm HB hb; clear hb  _t tk7; have tk8 := True.intro)
      | (have _t := tk8; go_at_call 76; refine (mul_any w7x _ _ _ _ HR1.out HR1.out).mono ?_; rintro e w8x ⟨⟨m2, rfl, hv⟩, hb⟩; have HX := ϕ (HX.out.below hb); have HR1 := ϕ (HR1.out.below hb); have HM2 := ϕ hv; have HB := tm HB hb; clear hb hv _t tk8; have tk9 := True.intro)
      | (have _t := tk9; go_at_call 71; refine (cmpF_eq HC2.out w8x _ _ HM2.out HX.out).mono ?_; rintro e w9x ⟨rfl, hb⟩; have HR1 := ϕ (HR1.out.below hb); have HB := tm HB hb; clear hb  _t tk9; have tk10 := True.intro)
      | (have _t := tk10; go_at_call 58; refine (odd_any w9x _ _ HR1.out).mono ?_; rw [HOD.out]; rintro e w10x ⟨rfl, hb⟩; have HR1 := ϕ (HR1.out.below hb); have HB := tm HB hb; clear hb  _t tk10; have tk11 := True.intro)
      | (have _t := tk11; go_at_call 37; refine (sub_any w10x _ _ _ _ (FR.nil _) HR1.out).mono ?_; rintro e w11x ⟨⟨nv, rfl, hv⟩, hb⟩; have HNV := ϕ hv; have HB := tm HB hb; clear hb hv _t tk11; have tk12 := True.intro))
     go_ret2
     refine ⟨⟨_, by rw [HRT.out]; rfl, ?_⟩, HB.out⟩
     rw [HRT.out]
     exact HNV.out
 · have HC1 := ϕ hc1
   by_cases hc2 : r * iE * (r * iE) = x
   · have HC2 := ϕ hc2
     cases ho : ((r * iE).val % 2 == 1)
     · have HRT := ϕ (show rt x = some (r * iE) by rw [rt_b hr hc1 hc2, ev_even ho])
       have HOD := ϕ ho
       clear hr hc1 hc2 ho
       go_enter Tryz.func42, Tryz.ntmps42
       have tk1 := True.intro
       go_wp2_with (first
        | (have _t := tk1; go_at_call 74; refine (P_any w).mono ?_; rintro e w1x ⟨⟨p, rfl, hv⟩, hb⟩; have HX := ϕ (HX.out.below hb); have HP := ϕ hv; have HB := tm HB hb; clear hb hv _t tk1; have tk2 := True.intro)
        | (have _t := tk2; go_at_call 41; refine (Small_any w1x 3 (by omega)).mono ?_; rintro e w2x ⟨⟨q, rfl, hv⟩, hb⟩; have HX := ϕ (HX.out.below hb); have HP := ϕ (HP.out.below hb); have HQ := ϕ hv; have HB := tm HB hb; clear hb hv _t tk2; have tk3 := True.intro)
        | (have _t := tk3; go_at_call 67; refine (Dg.Add_any w2x _ _ Ed.P 3 HP.out HQ.out p_len (by exact Nat.le_trans (dig_len_le (k := 1) (by decide)) (by decide))).mono ?_; rintro e w3x ⟨⟨s, rfl, hv⟩, hb⟩; have HX := ϕ (HX.out.below hb); have HS := ϕ hv; have HB := tm HB hb; clear hb hv _t tk3; have tk4 := True.intro)
        | (have _t := tk4; go_at_call 78; refine (Half_any w3x _ (Ed.P + 3) 3 0 3 rfl (by omega) (by omega) HS.out p3_len.1).mono ?_; rintro e w4x ⟨⟨h, rfl, hv⟩, hb⟩; have HX := ϕ (HX.out.below hb); have HH := ϕ hv; have HB := tm HB hb; clear hb hv _t tk4; have tk5 := True.intro)
        | (have _t := tk5; go_at_call 77; refine (power_any w4x _ _ x ((Ed.P + 3) / 2 ^ 3) HX.out HH.out p3_len.2).mono ?_; rintro e w5x ⟨⟨r1v, rfl, hv⟩, hb⟩; have HX := ϕ (HX.out.below hb); have HR1 := ϕ (show FR _ r1v r from by rw [HRD.out]; unfold rt1; exact hv); have HB := tm HB hb; clear hb hv _t tk5; have tk6 := True.intro)
        | (have _t := tk6; go_at_call 76; refine (mul_any w5x _ _ _ _ HR1.out HR1.out).mono ?_; rintro e w6x ⟨⟨m1, rfl, hv⟩, hb⟩; have HX := ϕ (HX.out.below hb); have HR1 := ϕ (HR1.out.below hb); have HM1 := ϕ hv; have HB := tm HB hb; clear hb hv _t tk6; have tk7 := True.intro)
        | (have _t := tk7; go_at_call 71; refine (cmpF_ne HC1.out w6x _ _ HM1.out HX.out).mono ?_; rintro e w7x ⟨⟨z1, rfl, hz1⟩, hb⟩; have HX := ϕ (HX.out.below hb); have HR1 := ϕ (HR1.out.below hb); have HB := tm HB hb; clear hb  _t tk7; have tk8 := True.intro)
        | (have _t := tk8; go_at_call 79; refine (minus1_any w7x).mono ?_; rintro e w8x ⟨⟨im, rfl, hv⟩, hb⟩; have HX := ϕ (HX.out.below hb); have HR1 := ϕ (HR1.out.below hb); have HIM := ϕ hv; have HB := tm HB hb; clear hb hv _t tk8; have tk9 := True.intro)
        | (have _t := tk9; go_at_call 76; refine (mul_any w8x _ _ _ _ HR1.out HIM.out).mono ?_; rintro e w9x ⟨⟨r2v, rfl, hv⟩, hb⟩; have HX := ϕ (HX.out.below hb); have HR2 := ϕ hv; have HB := tm HB hb; clear hb hv _t tk9; have tk10 := True.intro)
        | (have _t := tk10; go_at_call 76; refine (mul_any w9x _ _ _ _ HR2.out HR2.out).mono ?_; rintro e w10x ⟨⟨m2, rfl, hv⟩, hb⟩; have HX := ϕ (HX.out.below hb); have HR2 := ϕ (HR2.out.below hb); have HM2 := ϕ hv; have HB := tm HB hb; clear hb hv _t tk10; have tk11 := True.intro)
        | (have _t := tk11; go_at_call 71; refine (cmpF_eq HC2.out w10x _ _ HM2.out HX.out).mono ?_; rintro e w11x ⟨rfl, hb⟩; have HR2 := ϕ (HR2.out.below hb); have HB := tm HB hb; clear hb  _t tk11; have tk12 := True.intro)
        | (have _t := tk12; go_at_call 58; refine (odd_any w11x _ _ HR2.out).mono ?_; rw [HOD.out]; rintro e w12x ⟨rfl, hb⟩; have HR2 := ϕ (HR2.out.below hb); have HB := tm HB hb; clear hb  _t tk12; have tk13 := True.intro))
       go_ret2
       refine ⟨⟨_, by rw [HRT.out]; rfl, ?_⟩, HB.out⟩
       rw [HRT.out]
       exact HR2.out
     · have HRT := ϕ (show rt x = some (0 - r * iE) by rw [rt_b hr hc1 hc2, ev_odd ho])
       have HOD := ϕ ho
       clear hr hc1 hc2 ho
       go_enter Tryz.func42, Tryz.ntmps42
       have tk1 := True.intro
       go_wp2_with (first
        | (have _t := tk1; go_at_call 74; refine (P_any w).mono ?_; rintro e w1x ⟨⟨p, rfl, hv⟩, hb⟩; have HX := ϕ (HX.out.below hb); have HP := ϕ hv; have HB := tm HB hb; clear hb hv _t tk1; have tk2 := True.intro)
        | (have _t := tk2; go_at_call 41; refine (Small_any w1x 3 (by omega)).mono ?_; rintro e w2x ⟨⟨q, rfl, hv⟩, hb⟩; have HX := ϕ (HX.out.below hb); have HP := ϕ (HP.out.below hb); have HQ := ϕ hv; have HB := tm HB hb; clear hb hv _t tk2; have tk3 := True.intro)
        | (have _t := tk3; go_at_call 67; refine (Dg.Add_any w2x _ _ Ed.P 3 HP.out HQ.out p_len (by exact Nat.le_trans (dig_len_le (k := 1) (by decide)) (by decide))).mono ?_; rintro e w3x ⟨⟨s, rfl, hv⟩, hb⟩; have HX := ϕ (HX.out.below hb); have HS := ϕ hv; have HB := tm HB hb; clear hb hv _t tk3; have tk4 := True.intro)
        | (have _t := tk4; go_at_call 78; refine (Half_any w3x _ (Ed.P + 3) 3 0 3 rfl (by omega) (by omega) HS.out p3_len.1).mono ?_; rintro e w4x ⟨⟨h, rfl, hv⟩, hb⟩; have HX := ϕ (HX.out.below hb); have HH := ϕ hv; have HB := tm HB hb; clear hb hv _t tk4; have tk5 := True.intro)
        | (have _t := tk5; go_at_call 77; refine (power_any w4x _ _ x ((Ed.P + 3) / 2 ^ 3) HX.out HH.out p3_len.2).mono ?_; rintro e w5x ⟨⟨r1v, rfl, hv⟩, hb⟩; have HX := ϕ (HX.out.below hb); have HR1 := ϕ (show FR _ r1v r from by rw [HRD.out]; unfold rt1; exact hv); have HB := tm HB hb; clear hb hv _t tk5; have tk6 := True.intro)
        | (have _t := tk6; go_at_call 76; refine (mul_any w5x _ _ _ _ HR1.out HR1.out).mono ?_; rintro e w6x ⟨⟨m1, rfl, hv⟩, hb⟩; have HX := ϕ (HX.out.below hb); have HR1 := ϕ (HR1.out.below hb); have HM1 := ϕ hv; have HB := tm HB hb; clear hb hv _t tk6; have tk7 := True.intro)
        | (have _t := tk7; go_at_call 71; refine (cmpF_ne HC1.out w6x _ _ HM1.out HX.out).mono ?_; rintro e w7x ⟨⟨z1, rfl, hz1⟩, hb⟩; have HX := ϕ (HX.out.below hb); have HR1 := ϕ (HR1.out.below hb); have HB := tm HB hb; clear hb  _t tk7; have tk8 := True.intro)
        | (have _t := tk8; go_at_call 79; refine (minus1_any w7x).mono ?_; rintro e w8x ⟨⟨im, rfl, hv⟩, hb⟩; have HX := ϕ (HX.out.below hb); have HR1 := ϕ (HR1.out.below hb); have HIM := ϕ hv; have HB := tm HB hb; clear hb hv _t tk8; have tk9 := True.intro)
        | (have _t := tk9; go_at_call 76; refine (mul_any w8x _ _ _ _ HR1.out HIM.out).mono ?_; rintro e w9x ⟨⟨r2v, rfl, hv⟩, hb⟩; have HX := ϕ (HX.out.below hb); have HR2 := ϕ hv; have HB := tm HB hb; clear hb hv _t tk9; have tk10 := True.intro)
        | (have _t := tk10; go_at_call 76; refine (mul_any w9x _ _ _ _ HR2.out HR2.out).mono ?_; rintro e w10x ⟨⟨m2, rfl, hv⟩, hb⟩; have HX := ϕ (HX.out.below hb); have HR2 := ϕ (HR2.out.below hb); have HM2 := ϕ hv; have HB := tm HB hb; clear hb hv _t tk10; have tk11 := True.intro)
        | (have _t := tk11; go_at_call 71; refine (cmpF_eq HC2.out w10x _ _ HM2.out HX.out).mono ?_; rintro e w11x ⟨rfl, hb⟩; have HR2 := ϕ (HR2.out.below hb); have HB := tm HB hb; clear hb  _t tk11; have tk12 := True.intro)
        | (have _t := tk12; go_at_call 58; refine (odd_any w11x _ _ HR2.out).mono ?_; rw [HOD.out]; rintro e w12x ⟨rfl, hb⟩; have HR2 := ϕ (HR2.out.below hb); have HB := tm HB hb; clear hb  _t tk12; have tk13 := True.intro)
        | (have _t := tk13; go_at_call 37; refine (sub_any w12x _ _ _ _ (FR.nil _) HR2.out).mono ?_; rintro e w13x ⟨⟨nv, rfl, hv⟩, hb⟩; have HNV := ϕ hv; have HB := tm HB hb; clear hb hv _t tk13; have tk14 := True.intro))
       go_ret2
       refine ⟨⟨_, by rw [HRT.out]; rfl, ?_⟩, HB.out⟩
       rw [HRT.out]
       exact HNV.out
   · have HC2 := ϕ hc2
     have HRT := ϕ (rt_c hr hc1 hc2)
     clear hr hc1 hc2
     go_enter Tryz.func42, Tryz.ntmps42
     have tk1 := True.intro
     go_wp2_with (first
      | (have _t := tk1; go_at_call 74; refine (P_any w).mono ?_; rintro e w1x ⟨⟨p, rfl, hv⟩, hb⟩; have HX := ϕ (HX.out.below hb); have HP := ϕ hv; have HB := tm HB hb; clear hb hv _t tk1; have tk2 := True.intro)
      | (have _t := tk2; go_at_call 41; refine (Small_any w1x 3 (by omega)).mono ?_; rintro e w2x ⟨⟨q, rfl, hv⟩, hb⟩; have HX := ϕ (HX.out.below hb); have HP := ϕ (HP.out.below hb); have HQ := ϕ hv; have HB := tm HB hb; clear hb hv _t tk2; have tk3 := True.intro)
      | (have _t := tk3; go_at_call 67; refine (Dg.Add_any w2x _ _ Ed.P 3 HP.out HQ.out p_len (by exact Nat.le_trans (dig_len_le (k := 1) (by decide)) (by decide))).mono ?_; rintro e w3x ⟨⟨s, rfl, hv⟩, hb⟩; have HX := ϕ (HX.out.below hb); have HS := ϕ hv; have HB := tm HB hb; clear hb hv _t tk3; have tk4 := True.intro)
      | (have _t := tk4; go_at_call 78; refine (Half_any w3x _ (Ed.P + 3) 3 0 3 rfl (by omega) (by omega) HS.out p3_len.1).mono ?_; rintro e w4x ⟨⟨h, rfl, hv⟩, hb⟩; have HX := ϕ (HX.out.below hb); have HH := ϕ hv; have HB := tm HB hb; clear hb hv _t tk4; have tk5 := True.intro)
      | (have _t := tk5; go_at_call 77; refine (power_any w4x _ _ x ((Ed.P + 3) / 2 ^ 3) HX.out HH.out p3_len.2).mono ?_; rintro e w5x ⟨⟨r1v, rfl, hv⟩, hb⟩; have HX := ϕ (HX.out.below hb); have HR1 := ϕ (show FR _ r1v r from by rw [HRD.out]; unfold rt1; exact hv); have HB := tm HB hb; clear hb hv _t tk5; have tk6 := True.intro)
      | (have _t := tk6; go_at_call 76; refine (mul_any w5x _ _ _ _ HR1.out HR1.out).mono ?_; rintro e w6x ⟨⟨m1, rfl, hv⟩, hb⟩; have HX := ϕ (HX.out.below hb); have HR1 := ϕ (HR1.out.below hb); have HM1 := ϕ hv; have HB := tm HB hb; clear hb hv _t tk6; have tk7 := True.intro)
      | (have _t := tk7; go_at_call 71; refine (cmpF_ne HC1.out w6x _ _ HM1.out HX.out).mono ?_; rintro e w7x ⟨⟨z1, rfl, hz1⟩, hb⟩; have HX := ϕ (HX.out.below hb); have HR1 := ϕ (HR1.out.below hb); have HB := tm HB hb; clear hb  _t tk7; have tk8 := True.intro)
      | (have _t := tk8; go_at_call 79; refine (minus1_any w7x).mono ?_; rintro e w8x ⟨⟨im, rfl, hv⟩, hb⟩; have HX := ϕ (HX.out.below hb); have HR1 := ϕ (HR1.out.below hb); have HIM := ϕ hv; have HB := tm HB hb; clear hb hv _t tk8; have tk9 := True.intro)
      | (have _t := tk9; go_at_call 76; refine (mul_any w8x _ _ _ _ HR1.out HIM.out).mono ?_; rintro e w9x ⟨⟨r2v, rfl, hv⟩, hb⟩; have HX := ϕ (HX.out.below hb); have HR2 := ϕ hv; have HB := tm HB hb; clear hb hv _t tk9; have tk10 := True.intro)
      | (have _t := tk10; go_at_call 76; refine (mul_any w9x _ _ _ _ HR2.out HR2.out).mono ?_; rintro e w10x ⟨⟨m2, rfl, hv⟩, hb⟩; have HX := ϕ (HX.out.below hb); have HM2 := ϕ hv; have HB := tm HB hb; clear hb hv _t tk10; have tk11 := True.intro)
      | (have _t := tk11; go_at_call 71; refine (cmpF_ne HC2.out w10x _ _ HM2.out HX.out).mono ?_; rintro e w11x ⟨⟨z2, rfl, hz2⟩, hb⟩; have HB := tm HB hb; clear hb  _t tk11; have tk12 := True.intro))
     go_ret2
     refine ⟨⟨_, by rw [HRT.out]; rfl, ?_⟩, HB.out⟩
     rw [HRT.out]
     exact FR.nil _
def decL : List Nat := [2, 7, 7, 4, 2, 3, 1, 7, 7, 7, 7, 3, 7, 2, 3, 5, 3, 5, 3, 5, 8, 5, 1, 9, 3, 7, 7, 9, 0, 8, 8, 3, 6, 4, 8, 4, 9, 3]
/-- the number of the first k digits -/
def lv : Nat → Nat
 | 0 => 0
 | k + 1 => lv k * 10 + decL.getD k 0
theorem dec_lt (k : Nat) : decL.getD k 0 < 10 := by
 have h : ∀ d ∈ decL, d < 10 := by decide
 rw [List.getD_eq_getElem?_getD]
 cases hq : decL[k]? with
 | none => decide
 | some d => exact h d (List.mem_of_getElem? hq)
theorem lv_lt : ∀ k, lv k < 10 ^ k
 | 0 => by decide
 | k + 1 => by
  have h1 := lv_lt k
  have h2 := dec_lt k
  rw [lv, Nat.pow_succ]; omega
theorem lv_len (k : Nat) (h : k ≤ 38) : (dig (lv k)).length ≤ 8 ∧ (dig (lv k * 10)).length ≤ 10000 ∧ (dig (decL.getD k 0)).length ≤ 10000 := by
 have h1 := lv_lt k
 have h2 : (10 : Nat) ^ k ≤ 10 ^ 38 := Nat.pow_le_pow_right (by decide) h
 have h3 : (10 : Nat) ^ 38 < 65536 ^ 8 := by decide +kernel
 have h5 : (10 : Nat) ^ 38 * 10 < 65536 ^ 9 := by decide +kernel
 have h4 := dec_lt k
 refine ⟨dig_len_le (by omega), Nat.le_trans (dig_len_le (k := 9) (by omega)) (by decide), Nat.le_trans (dig_len_le (k := 1) (by omega)) (by decide)⟩
theorem l_num : 2 ^ 252 + lv 38 = Ed.L := by decide +kernel
theorem dec_cell {W : World} {cb : Nat} {E : TypeId} {fr : Nat × Nat} (h : W.heap[cb]? = some (.cells (#[.int .u8 50, .int .u8 55, .int .u8 55, .int .u8 52, .int .u8 50, .int .u8 51, .int .u8 49, .int .u8 55, .int .u8 55, .int .u8 55, .int .u8 55, .int .u8 51, .int .u8 55, .int .u8 50, .int .u8 51, .int .u8 53, .int .u8 51, .int .u8 53, .int .u8 51, .int .u8 53, .int .u8 56, .int .u8 53, .int .u8 49, .int .u8 57, .int .u8 51, .int .u8 55, .int .u8 55, .int .u8 57, .int .u8 48, .int .u8 56, .int .u8 56, .int .u8 51, .int .u8 54, .int .u8 52, .int .u8 56, .int .u8 52, .int .u8 57, .int .u8 51] : Array Value) E fr)) {k : Nat} (hk : k < 38) : W.cell? ⟨cb, k, none⟩ = some (.int .u8 ((decL.getD k 0 : Int) + 48)) := by
 have hC : (#[.int .u8 50, .int .u8 55, .int .u8 55, .int .u8 52, .int .u8 50, .int .u8 51, .int .u8 49, .int .u8 55, .int .u8 55, .int .u8 55, .int .u8 55, .int .u8 51, .int .u8 55, .int .u8 50, .int .u8 51, .int .u8 53, .int .u8 51, .int .u8 53, .int .u8 51, .int .u8 53, .int .u8 56, .int .u8 53, .int .u8 49, .int .u8 57, .int .u8 51, .int .u8 55, .int .u8 55, .int .u8 57, .int .u8 48, .int .u8 56, .int .u8 56, .int .u8 51, .int .u8 54, .int .u8 52, .int .u8 56, .int .u8 52, .int .u8 57, .int .u8 51] : Array Value) = (decL.map fun (d : Nat) => Value.int .u8 ((d : Int) + 48)).toArray := by rfl
 have hl : k < decL.length := hk
 rw [cell_of_row W cb k _ _ _ h, hC, List.getElem?_toArray, List.getElem?_map, List.getElem?_eq_getElem hl, List.getD_eq_getElem?_getD, List.getElem?_eq_getElem hl]
 rfl
theorem L_any (w : World) : Calls Tryz.prog 65 #[] w fun e w' => (∃ u, e = .returned u ∧ Ns w' u (dig (Ed.L))) ∧ Below w.heap.size w w' := by
 go_enter Tryz.func65, Tryz.ntmps65
 go_upto_region 2 with fail
 have H0 := ϕ (show Ns (w.alloc (.cells #[] 3)) (.slice (some ⟨w.heap.size, 0, none⟩) 0 0) (dig (lv 0)) from by
  rw [show lv 0 = 0 from rfl, dig_zero]; exact ⟨_, _, rfl, Rd.nil _ _, Nat.le_refl _⟩)
 have HB0 := ϕ (show Below w.heap.size w (w.alloc (.cells #[] 3)) from (Below.refl _ _).alloc (Nat.le_refl _) _)
 obtain ⟨ob, hob⟩ : ∃ n, w.heap.size = n := ⟨_, rfl⟩
 have HOB := ϕ hob
 rw [hob] at H0
 try rw [hob]
 clear hob
 generalize (w.alloc (.cells #[] 3)) = X at *
 have kc := Lib.run_convert_bytes_const (P := Tryz.prog) X 25 5 (#[.int .u8 50, .int .u8 55, .int .u8 55, .int .u8 52, .int .u8 50, .int .u8 51, .int .u8 49, .int .u8 55, .int .u8 55, .int .u8 55, .int .u8 55, .int .u8 51, .int .u8 55, .int .u8 50, .int .u8 51, .int .u8 53, .int .u8 51, .int .u8 53, .int .u8 51, .int .u8 53, .int .u8 56, .int .u8 53, .int .u8 49, .int .u8 57, .int .u8 51, .int .u8 55, .int .u8 55, .int .u8 57, .int .u8 48, .int .u8 56, .int .u8 56, .int .u8 51, .int .u8 54, .int .u8 52, .int .u8 56, .int .u8 52, .int .u8 57, .int .u8 51] : Array Value) 38 38 Tryz.underlying25 Tryz.underlying5
 have HCB := ϕ (show (X.alloc (.cells (#[.int .u8 50, .int .u8 55, .int .u8 55, .int .u8 52, .int .u8 50, .int .u8 51, .int .u8 49, .int .u8 55, .int .u8 55, .int .u8 55, .int .u8 55, .int .u8 51, .int .u8 55, .int .u8 50, .int .u8 51, .int .u8 53, .int .u8 51, .int .u8 53, .int .u8 51, .int .u8 53, .int .u8 56, .int .u8 53, .int .u8 49, .int .u8 57, .int .u8 51, .int .u8 55, .int .u8 55, .int .u8 57, .int .u8 48, .int .u8 56, .int .u8 56, .int .u8 51, .int .u8 54, .int .u8 52, .int .u8 56, .int .u8 52, .int .u8 57, .int .u8 51] : Array Value) 5 (38, 39))).heap[X.heap.size]? = some (.cells (#[.int .u8 50, .int .u8 55, .int .u8 55, .int .u8 52, .int .u8 50, .int .u8 51, .int .u8 49, .int .u8 55, .int .u8 55, .int .u8 55, .int .u8 55, .int .u8 51, .int .u8 55, .int .u8 50, .int .u8 51, .int .u8 53, .int .u8 51, .int .u8 53, .int .u8 51, .int .u8 53, .int .u8 56, .int .u8 53, .int .u8 49, .int .u8 57, .int .u8 51, .int .u8 55, .int .u8 55, .int .u8 57, .int .u8 48, .int .u8 56, .int .u8 56, .int .u8 51, .int .u8 54, .int .u8 52, .int .u8 56, .int .u8 52, .int .u8 57, .int .u8 51] : Array Value) 5 (38, 39)) from heap_alloc_new _ _)
 have HO := ϕ (Ns.below H0.out ((Below.refl X.heap.size X).alloc (Nat.le_refl _) (.cells (#[.int .u8 50, .int .u8 55, .int .u8 55, .int .u8 52, .int .u8 50, .int .u8 51, .int .u8 49, .int .u8 55, .int .u8 55, .int .u8 55, .int .u8 55, .int .u8 51, .int .u8 55, .int .u8 50, .int .u8 51, .int .u8 53, .int .u8 51, .int .u8 53, .int .u8 51, .int .u8 53, .int .u8 56, .int .u8 53, .int .u8 49, .int .u8 57, .int .u8 51, .int .u8 55, .int .u8 55, .int .u8 57, .int .u8 48, .int .u8 56, .int .u8 56, .int .u8 51, .int .u8 54, .int .u8 52, .int .u8 56, .int .u8 52, .int .u8 57, .int .u8 51] : Array Value) 5 (38, 39))))
 have HB := ϕ (show Below w.heap.size w (X.alloc (.cells (#[.int .u8 50, .int .u8 55, .int .u8 55, .int .u8 52, .int .u8 50, .int .u8 51, .int .u8 49, .int .u8 55, .int .u8 55, .int .u8 55, .int .u8 55, .int .u8 51, .int .u8 55, .int .u8 50, .int .u8 51, .int .u8 53, .int .u8 51, .int .u8 53, .int .u8 51, .int .u8 53, .int .u8 56, .int .u8 53, .int .u8 49, .int .u8 57, .int .u8 51, .int .u8 55, .int .u8 55, .int .u8 57, .int .u8 48, .int .u8 56, .int .u8 56, .int .u8 51, .int .u8 54, .int .u8 52, .int .u8 56, .int .u8 52, .int .u8 57, .int .u8 51] : Array Value) 5 (38, 39))) from HB0.out.alloc HB0.out.size _)
 obtain ⟨cb, hcb⟩ : ∃ n, X.heap.size = n := ⟨_, rfl⟩
 rw [hcb] at kc HCB
 go_upto_region 3 with fail
 have HCB2 := ϕ hcb
 clear kc hcb
 generalize (X.alloc (.cells (#[.int .u8 50, .int .u8 55, .int .u8 55, .int .u8 52, .int .u8 50, .int .u8 51, .int .u8 49, .int .u8 55, .int .u8 55, .int .u8 55, .int .u8 55, .int .u8 51, .int .u8 55, .int .u8 50, .int .u8 51, .int .u8 53, .int .u8 51, .int .u8 53, .int .u8 51, .int .u8 53, .int .u8 56, .int .u8 53, .int .u8 49, .int .u8 57, .int .u8 51, .int .u8 55, .int .u8 55, .int .u8 57, .int .u8 48, .int .u8 56, .int .u8 56, .int .u8 51, .int .u8 54, .int .u8 52, .int .u8 56, .int .u8 52, .int .u8 57, .int .u8 51] : Array Value) 5 (38, 39))) = Y at *
 have HCL := ϕ (show cb < Y.heap.size from (Array.getElem?_eq_some_iff.1 HCB.out).1)
 go_loopw [1, 3, 8] (fun v _ i wr => ∃ k : Nat, i = .int .i64 k ∧ k ≤ 38 ∧ Ns wr v (dig (lv k)) ∧ Below w.heap.size w wr ∧ Below Y.heap.size Y wr) (fun _ _ i _ => 38 - (intOf i).toNat)
 case atStart => exact ⟨0, rfl, by omega, HO.out, HB.out, Below.refl _ _⟩
 case round =>
  obtain ⟨k, rfl, hk, hO, hB, hY⟩ := hrel
  clear HO HB HB0 H0
  have HO := ϕ hO
  have HB := ϕ hB
  have HY := ϕ hY
  have HLV := ϕ (lv_len k hk)
  clear hO hB hY
  by_cases g1 : k < 38
  · have hik : (k : Int) < 38 := by omega
    have hdk : decide ((k : Int) < 38) = true := by rw [decide_eq_true_iff]; omega
    have hk0 : (0 : Int) ≤ (k : Int) := by omega
    have hcell := dec_cell HCB.out g1
    have hdl := dec_lt k
    have HNX := ϕ (show lv (k + 1) = lv k * 10 + decL.getD k 0 from rfl)
    generalize decL.getD k 0 = d at *
    replace hcell : wr.cell? ⟨cb, k, none⟩ = some (.int .u8 ((d : Int) + 48)) := (HY.out.cell (p := ⟨cb, k, none⟩) HCL.out).trans hcell
    have tk1 := True.intro
    go_wp2_with (first
     | (have _t := tk1; go_at_call 41; refine (Small_any wr 10 (by omega)).mono ?_; rintro e w1x ⟨⟨t, rfl, hv⟩, hb⟩; have HO := ϕ (HO.out.below hb); have HT := ϕ hv; have HB := tm HB hb; have HY := ϕ (HY.out.trans (hb.mono HY.out.size)); clear hb hv _t tk1; have tk2 := True.intro)
     | (have _t := tk2; go_at_call 68; refine (Dg.Mul_any w1x _ _ (lv k) 10 HO.out HT.out (Nat.le_trans HLV.out.1 (by decide)) (by exact Nat.le_trans (dig_len_le (k := 1) (by decide)) (by decide))).mono ?_; rintro e w2x ⟨⟨m, rfl, hv⟩, hb⟩; have HM := ϕ hv; have HB := tm HB hb; have HY := ϕ (HY.out.trans (hb.mono HY.out.size)); clear hb hv _t tk2; have tk3 := True.intro)
     | (have _t := tk3; go_at_call 41; refine (Small_any w2x d (by omega)).mono ?_; rintro e w3x ⟨⟨s, rfl, hv⟩, hb⟩; have HM := ϕ (HM.out.below hb); have HS := ϕ hv; have HB := tm HB hb; have HY := ϕ (HY.out.trans (hb.mono HY.out.size)); clear hb hv _t tk3; have tk4 := True.intro)
     | (have _t := tk4; go_at_call 67; refine (Dg.Add_any w3x _ _ (lv k * 10) d HM.out HS.out HLV.out.2.1 HLV.out.2.2).mono ?_; rintro e w4x ⟨⟨u, rfl, hv⟩, hb⟩; have HU := ϕ hv; have HB := tm HB hb; have HY := ϕ (HY.out.trans (hb.mono HY.out.size)); clear hb hv _t tk4; have tk5 := True.intro))
    go_roundw
    case rel =>
     first
      | exact ⟨k + 1, by go_num, by omega, by rw [HNX.out]; exact HU.out, HB.out, HY.out⟩
      | ((repeat apply Exists.intro); refine ⟨?_, rfl⟩; exact ⟨k + 1, by go_num, by omega, by rw [HNX.out]; exact HU.out, HB.out, HY.out⟩)
    case measure => (first | (simp [intOf]; done) | (simp [intOf]; omega))
  · have hik : ¬ (k : Int) < 38 := by omega
    have hdk : decide ((k : Int) < 38) = false := by rw [decide_eq_false_iff_not]; omega
    obtain rfl : k = 38 := by omega
    have tk1 := True.intro
    go_wp2_with (first
     | (have _t := tk1; go_at_call 92; refine (Power_any wr 252 15 12 rfl (by omega) (by omega)).mono ?_; rintro e w1x ⟨⟨t, rfl, hv⟩, hb⟩; have HO := ϕ (HO.out.below hb); have HT := ϕ hv; have HB := tm HB hb; clear hb hv _t tk1; have tk2 := True.intro)
     | (have _t := tk2; go_at_call 67; refine (Dg.Add_any w1x _ _ (2 ^ 252) (lv 38) HT.out HO.out (by exact Nat.le_trans (dig_len_le (k := 16) (by decide +kernel)) (by decide)) (Nat.le_trans HLV.out.1 (by decide))).mono ?_; rintro e w2x ⟨⟨u, rfl, hv⟩, hb⟩; have HU := ϕ hv; have HB := tm HB hb; clear hb hv _t tk2; have tk3 := True.intro))
    go_ret
    exact ⟨⟨_, rfl, by have h := HU.out; rw [l_num] at h; exact h⟩, HB.out⟩
theorem l_pos : 0 < Ed.L := by decide +kernel
theorem l_len : (dig Ed.L).length ≤ 300 := Nat.le_trans (dig_len_le (k := 16) (by decide +kernel)) (by decide)
theorem le_len (S : ByteArray) (n k : Nat) (hs : S.size = n) (h : 256 ^ n ≤ 65536 ^ k) (hk : k ≤ 300) : (dig (leN S.data.toList)).length ≤ 300 := by
 have h1 := leN_lt S.data.toList
 rw [Array.length_toList, show S.data.size = n from hs] at h1
 exact Nat.le_trans (dig_len_le (Nat.lt_of_lt_of_le h1 h)) hk
theorem reduce_any (w : World) (S : ByteArray) (hs : S.size = 64) : Calls Tryz.prog 30 #[.string S] w fun e w' => e = .returned (.string ⟨(toLe 32 (leN S.data.toList % Ed.L)).toArray⟩) ∧ Below w.heap.size w w' := by
 have HLA := ϕ (le_len S 64 32 (by omega) (by decide +kernel) (by decide))
 have HLM := ϕ (Nat.le_trans (len_mono (Nat.mod_le (leN S.data.toList) Ed.L)) (Nat.le_trans HLA.out (by decide : 300 ≤ 10000)))
 have hi : ¬ (64 : Int) < (S.size : Int) := by omega
 have hd : decide ((64 : Int) < (S.size : Int)) = false := by rw [decide_eq_false_iff_not]; omega
 have HB := ϕ (Below.refl w.heap.size w)
 go_enter Tryz.func30, Tryz.ntmps30
 have tk1 := True.intro
 go_wp2_with (first
  | (have _t := tk1; go_at_call 25; refine (Dg.Of_any w S (by omega)).mono ?_; rintro e w1x ⟨⟨a, rfl, hv⟩, hb⟩; skip;  have HA := ϕ hv; have HB := tm HB hb; clear hb hv _t tk1; have tk2 := True.intro)
  | (have _t := tk2; go_at_call 65; refine (L_any w1x).mono ?_; rintro e w2x ⟨⟨l, rfl, hv⟩, hb⟩; have HA := ϕ (HA.out.below hb); have HL := ϕ hv; have HB := tm HB hb; clear hb hv _t tk2; have tk3 := True.intro)
  | (have _t := tk3; go_at_call 64; refine (Mod_any w2x _ _ (leN S.data.toList) Ed.L l_pos HA.out HL.out HLA.out l_len).mono ?_; rintro e w3x ⟨⟨m, rfl, hv⟩, hb⟩; have HA := ϕ (HA.out.below hb); have HL := ϕ (HL.out.below hb); have HM := ϕ hv; have HB := tm HB hb; clear hb hv _t tk3; have tk4 := True.intro)
  | (have _t := tk4; go_at_call 63; refine (Dg.Bytes_any w3x _ (leN S.data.toList % Ed.L) 32 HM.out HLM.out (by decide)).mono ?_; rintro e w4x ⟨rfl, hb⟩; have HA := ϕ (HA.out.below hb); have HL := ϕ (HL.out.below hb); have HM := ϕ (HM.out.below hb); have HB := tm HB hb; clear hb  _t tk4; have tk5 := True.intro))
 go_ret
 exact ⟨rfl, HB.out⟩
theorem fits_any (w : World) (S : ByteArray) (hs : S.size = 32) : Calls Tryz.prog 36 #[.string S] w fun e w' => e = .returned (.bool (decide (leN S.data.toList < Ed.L))) ∧ Below w.heap.size w w' := by
 have HLA := ϕ (le_len S 32 16 (by omega) (by decide +kernel) (by decide))
 obtain ⟨z, hz⟩ : ∃ z, cmpZ (leN S.data.toList) Ed.L = z := ⟨_, rfl⟩
 have HCZ := ϕ hz
 have HD := ϕ (show decide (leN S.data.toList < Ed.L) = decide (z < 0) by
  rw [← hz]
  unfold cmpZ
  by_cases h : leN S.data.toList < Ed.L
  · rw [if_pos h, decide_eq_true h]; rfl
  · rw [if_neg h, decide_eq_false h]
    by_cases h2 : Ed.L < leN S.data.toList
    · rw [if_pos h2]; rfl
    · rw [if_neg h2]; rfl)
 have HB := ϕ (Below.refl w.heap.size w)
 clear hz
 go_enter Tryz.func36, Tryz.ntmps36
 have tk1 := True.intro
 go_wp2_with (first
  | (have _t := tk1; go_at_call 25; refine (Dg.Of_any w S (by omega)).mono ?_; rintro e w1x ⟨⟨a, rfl, hv⟩, hb⟩; skip;  have HA := ϕ hv; have HB := tm HB hb; clear hb hv _t tk1; have tk2 := True.intro)
  | (have _t := tk2; go_at_call 65; refine (L_any w1x).mono ?_; rintro e w2x ⟨⟨l, rfl, hv⟩, hb⟩; have HA := ϕ (HA.out.below hb); have HL := ϕ hv; have HB := tm HB hb; clear hb hv _t tk2; have tk3 := True.intro)
  | (have _t := tk3; go_at_call 71; refine (Cmp_any w2x _ _ (leN S.data.toList) Ed.L HA.out HL.out (Nat.le_trans HLA.out (by decide)) (Nat.le_trans l_len (by decide))).mono ?_; rw [HCZ.out]; rintro e w3x ⟨rfl, hb⟩; have HA := ϕ (HA.out.below hb); have HL := ϕ (HL.out.below hb); have HB := tm HB hb; clear hb  _t tk3; have tk4 := True.intro))
 go_ret
 exact ⟨by rw [HD.out]; rfl, HB.out⟩
end Go.Proofs.YtfpcelmekfdafaaGreatDoor.Rf
