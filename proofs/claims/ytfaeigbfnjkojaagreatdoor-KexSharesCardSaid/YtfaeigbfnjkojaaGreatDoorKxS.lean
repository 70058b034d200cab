/- The curve's step. -/
import Derived.Test.YtfaeigbfnjkojaaGreatDoorKxR
import Derived.Test.YtfaeigbfnjkojaaGreatDoorKxW
set_option linter.unusedVariables false
set_option linter.unusedSimpArgs false
namespace Go.Proofs.YtfaeigbfnjkojaaGreatDoor.RL
open Go.RowKit
/-- two allocs that may come up, whichever first: their blocks have names -/
theorem alloc2 {P : Program} {md : Region.Mode} {ops : Array Oper} {Q : Exit → Act → World → Prop} {S : World → Prop} {i j : Nat} {oi oj : Oper} {fuel : Nat} {listed : Array Bool} {a : Act} {w : World} (T1 T2 : TypeId) (Z1 Z2 : Array Value) (hoi : ops.toList[i]? = some oi) (hoj : ops.toList[j]? = some oj) (hr : Region.ready md ops listed = [i, j]) (hri : Region.ready md ops (listed.setIfInBounds i true) = [j]) (hrj : Region.ready md ops (listed.setIfInBounds j true) = [i]) (hij : i ≠ j) (hd : ∀ d, oi.dst = some d → oj.dst ≠ some d)
    (hwi : ∀ a : Act, Region.wanted oi (yielded ops a.tmps) = true) (hwj : ∀ a : Act, Region.wanted oj (yielded ops a.tmps) = true)
    (h1 : ∀ (a : Act) (W : World), (execOp a.eval oi).run P W = .ok (.value (.pointer (some ⟨W.heap.size, 0, none⟩))) (W.alloc (.cells Z1 T1))) (h2 : ∀ (a : Act) (W : World), (execOp a.eval oj).run P W = .ok (.value (.pointer (some ⟨W.heap.size, 0, none⟩))) (W.alloc (.cells Z2 T2)))
    (hS : ∀ W o, S W → S (W.alloc o))
    (h : ∀ b1 b2 W, Lat w W → S W → b1 ≠ b2 → w.heap.size ≤ b1 → w.heap.size ≤ b2 → Rg.Blk W b1 T1 Z1 → Rg.Blk W b2 T2 Z2 → H P md ops Q S W fuel ((listed.setIfInBounds i true).setIfInBounds j true) ((a.put oi.dst (.pointer (some ⟨b1, 0, none⟩))).put oj.dst (.pointer (some ⟨b2, 0, none⟩)))) : H P md ops Q S w (fuel + 2) listed a := by
  have hl1 : ∀ W o, Lat W (World.alloc W o) := fun W o => (Below.refl _ _).alloc (Nat.le_refl _) _
  intro w' hl hs
  refine ⟨fun h0 => (by rw [h0] at hr; cases hr), fun k hk => ?_⟩
  rw [hr] at hk
  rcases List.mem_cons.1 hk with rfl | hk
  · refine wpOp_step (by simpa using hoi) fun K hK => ?_
    rw [if_pos (hwi a)]
    unfold Oper.wp
    rw [h1]
    refine hK _ _ ⟨hS _ _ hs, ?_⟩
    refine step (i := j) hri (fun w2 hl2 hs2 => wpOp_step (by simpa using hoj) fun K2 hK2 => ?_)
    rw [if_pos (hwj _)]
    unfold Oper.wp
    rw [h2]
    refine hK2 _ _ ⟨hS _ _ hs2, ?_⟩
    have hz := Below.size hl2
    rw [World.size_alloc] at hz
    have hz0 := Below.size hl
    exact h w'.heap.size w2.heap.size _ ((hl.trans (hl1 _ _)).trans (hl2.trans (hl1 _ _))) (hS _ _ hs2) (by omega) hz0 (by omega) (((Rg.Blk.new w' Z1 T1).below hl2 (by simp)).alloc _) (Rg.Blk.new w2 Z2 T2)
  · rw [List.mem_singleton.1 hk]
    refine wpOp_step (by simpa using hoj) fun K hK => ?_
    rw [if_pos (hwj a)]
    unfold Oper.wp
    rw [h2]
    refine hK _ _ ⟨hS _ _ hs, ?_⟩
    refine step (i := i) hrj (fun w2 hl2 hs2 => wpOp_step (by simpa using hoi) fun K2 hK2 => ?_)
    rw [if_pos (hwi _)]
    unfold Oper.wp
    rw [h1]
    refine hK2 _ _ ⟨hS _ _ hs2, ?_⟩
    have hz := Below.size hl2
    rw [World.size_alloc] at hz
    have hz0 := Below.size hl
    rw [Array.setIfInBounds_comm _ _ (Ne.symm hij), ← Act.put_comm _ _ _ hd]
    exact h w2.heap.size w'.heap.size _ ((hl.trans (hl1 _ _)).trans (hl2.trans (hl1 _ _))) (hS _ _ hs2) (by omega) (by omega) hz0 (Rg.Blk.new w2 Z1 T1) (((Rg.Blk.new w' Z2 T2).below hl2 (by simp)).alloc _)
end Go.Proofs.YtfaeigbfnjkojaaGreatDoor.RL
namespace Go.Proofs.YtfaeigbfnjkojaaGreatDoor.Kx
open Go.RowKit Go.Proofs.YtfaeigbfnjkojaaGreatDoor.Cl
theorem add_ok (x y : E) : (add x y).ok := carry_ok _
theorem sub_ok (x y : E) : (sub x y).ok := carry_ok _
set_option maxRecDepth 20000 in
set_option maxHeartbeats 2000000 in
theorem step_any (w : World) (x : E) (hx : x.ok) (pa pb : Nat) (p q : P) (hp : Row w pa 57 p.l) (hq : Row w pb 57 q.l) (hne : pa ≠ pb) :
    Calls Tryz.prog 23 #[.agg (u64s x.l), .pointer (some ⟨pa, 0, none⟩), .pointer (some ⟨pb, 0, none⟩)] w fun e w' => (∃ v, e = .returned v) ∧ Row w' pa 57 (stepP x p q).1.l ∧ Row w' pb 57 (stepP x p q).2.l ∧ Sp.Upd w w' [pa, pb] := by
  have HOX := Lib.hid hx
  have RP := Lib.hid hp
  have RQ := Lib.hid hq
  have HNE := Lib.hid hne
  have HPQ := Lib.hid (show pa < w.heap.size ∧ pb < w.heap.size from ⟨hp.lt, hq.lt⟩)
  clear hx hp hq hne
  obtain ⟨v6, ev6⟩ : ∃ y, add p.x p.z = y := ⟨_, rfl⟩
  have O6 := Lib.hid (show v6.ok from ev6 ▸ add_ok _ _)
  have Cv6 := Lib.hid (fun W => show Calls Tryz.prog 40 #[.agg (u64s p.x.l), .agg (u64s p.z.l)] W fun e w' => e = .returned (.agg (u64s v6.l)) ∧ Below W.heap.size W w' from ev6 ▸ Add_any W p.x p.z)
  obtain ⟨v7, ev7⟩ : ∃ y, sub p.x p.z = y := ⟨_, rfl⟩
  have O7 := Lib.hid (show v7.ok from ev7 ▸ sub_ok _ _)
  have Cv7 := Lib.hid (fun W => show Calls Tryz.prog 41 #[.agg (u64s p.x.l), .agg (u64s p.z.l)] W fun e w' => e = .returned (.agg (u64s v7.l)) ∧ Below W.heap.size W w' from ev7 ▸ Sub_any W p.x p.z)
  obtain ⟨v8, ev8⟩ : ∃ y, sq v6 = y := ⟨_, rfl⟩
  have O8 := Lib.hid (show v8.ok from ev8 ▸ mul_ok _ _)
  have Cv8 := Lib.hid (fun W => show Calls Tryz.prog 42 #[.agg (u64s v6.l)] W fun e w' => e = .returned (.agg (u64s v8.l)) ∧ Below W.heap.size W w' from ev8 ▸ Square_any W v6 O6.out)
  obtain ⟨v9, ev9⟩ : ∃ y, sq v7 = y := ⟨_, rfl⟩
  have O9 := Lib.hid (show v9.ok from ev9 ▸ mul_ok _ _)
  have Cv9 := Lib.hid (fun W => show Calls Tryz.prog 42 #[.agg (u64s v7.l)] W fun e w' => e = .returned (.agg (u64s v9.l)) ∧ Below W.heap.size W w' from ev9 ▸ Square_any W v7 O7.out)
  obtain ⟨v10, ev10⟩ : ∃ y, sub v8 v9 = y := ⟨_, rfl⟩
  have O10 := Lib.hid (show v10.ok from ev10 ▸ sub_ok _ _)
  have Cv10 := Lib.hid (fun W => show Calls Tryz.prog 41 #[.agg (u64s v8.l), .agg (u64s v9.l)] W fun e w' => e = .returned (.agg (u64s v10.l)) ∧ Below W.heap.size W w' from ev10 ▸ Sub_any W v8 v9)
  obtain ⟨u1, eu1⟩ : ∃ y, sub q.x q.z = y := ⟨_, rfl⟩
  have Ou1 := Lib.hid (show u1.ok from eu1 ▸ sub_ok _ _)
  have Cu1 := Lib.hid (fun W => show Calls Tryz.prog 41 #[.agg (u64s q.x.l), .agg (u64s q.z.l)] W fun e w' => e = .returned (.agg (u64s u1.l)) ∧ Below W.heap.size W w' from eu1 ▸ Sub_any W q.x q.z)
  obtain ⟨v11, ev11⟩ : ∃ y, mul u1 v6 = y := ⟨_, rfl⟩
  have O11 := Lib.hid (show v11.ok from ev11 ▸ mul_ok _ _)
  have Cv11 := Lib.hid (fun W => show Calls Tryz.prog 24 #[.agg (u64s u1.l), .agg (u64s v6.l)] W fun e w' => e = .returned (.agg (u64s v11.l)) ∧ Below W.heap.size W w' from ev11 ▸ Mul_any W u1 v6 Ou1.out O6.out)
  obtain ⟨u2, eu2⟩ : ∃ y, add q.x q.z = y := ⟨_, rfl⟩
  have Ou2 := Lib.hid (show u2.ok from eu2 ▸ add_ok _ _)
  have Cu2 := Lib.hid (fun W => show Calls Tryz.prog 40 #[.agg (u64s q.x.l), .agg (u64s q.z.l)] W fun e w' => e = .returned (.agg (u64s u2.l)) ∧ Below W.heap.size W w' from eu2 ▸ Add_any W q.x q.z)
  obtain ⟨v12, ev12⟩ : ∃ y, mul u2 v7 = y := ⟨_, rfl⟩
  have O12 := Lib.hid (show v12.ok from ev12 ▸ mul_ok _ _)
  have Cv12 := Lib.hid (fun W => show Calls Tryz.prog 24 #[.agg (u64s u2.l), .agg (u64s v7.l)] W fun e w' => e = .returned (.agg (u64s v12.l)) ∧ Below W.heap.size W w' from ev12 ▸ Mul_any W u2 v7 Ou2.out O7.out)
  obtain ⟨s1, es1⟩ : ∃ y, add v11 v12 = y := ⟨_, rfl⟩
  have Os1 := Lib.hid (show s1.ok from es1 ▸ add_ok _ _)
  have Cs1 := Lib.hid (fun W => show Calls Tryz.prog 40 #[.agg (u64s v11.l), .agg (u64s v12.l)] W fun e w' => e = .returned (.agg (u64s s1.l)) ∧ Below W.heap.size W w' from es1 ▸ Add_any W v11 v12)
  obtain ⟨xb, exb⟩ : ∃ y, sq s1 = y := ⟨_, rfl⟩
  have Oxb := Lib.hid (show xb.ok from exb ▸ mul_ok _ _)
  have Cxb := Lib.hid (fun W => show Calls Tryz.prog 42 #[.agg (u64s s1.l)] W fun e w' => e = .returned (.agg (u64s xb.l)) ∧ Below W.heap.size W w' from exb ▸ Square_any W s1 Os1.out)
  obtain ⟨s2, es2⟩ : ∃ y, sub v11 v12 = y := ⟨_, rfl⟩
  have Os2 := Lib.hid (show s2.ok from es2 ▸ sub_ok _ _)
  have Cs2 := Lib.hid (fun W => show Calls Tryz.prog 41 #[.agg (u64s v11.l), .agg (u64s v12.l)] W fun e w' => e = .returned (.agg (u64s s2.l)) ∧ Below W.heap.size W w' from es2 ▸ Sub_any W v11 v12)
  obtain ⟨s3, es3⟩ : ∃ y, sq s2 = y := ⟨_, rfl⟩
  have Os3 := Lib.hid (show s3.ok from es3 ▸ mul_ok _ _)
  have Cs3 := Lib.hid (fun W => show Calls Tryz.prog 42 #[.agg (u64s s2.l)] W fun e w' => e = .returned (.agg (u64s s3.l)) ∧ Below W.heap.size W w' from es3 ▸ Square_any W s2 Os2.out)
  obtain ⟨zb, ezb⟩ : ∃ y, mul x s3 = y := ⟨_, rfl⟩
  have Ozb := Lib.hid (show zb.ok from ezb ▸ mul_ok _ _)
  have Czb := Lib.hid (fun W => show Calls Tryz.prog 24 #[.agg (u64s x.l), .agg (u64s s3.l)] W fun e w' => e = .returned (.agg (u64s zb.l)) ∧ Below W.heap.size W w' from ezb ▸ Mul_any W x s3 HOX.out Os3.out)
  obtain ⟨xa, exa⟩ : ∃ y, mul v8 v9 = y := ⟨_, rfl⟩
  have Oxa := Lib.hid (show xa.ok from exa ▸ mul_ok _ _)
  have Cxa := Lib.hid (fun W => show Calls Tryz.prog 24 #[.agg (u64s v8.l), .agg (u64s v9.l)] W fun e w' => e = .returned (.agg (u64s xa.l)) ∧ Below W.heap.size W w' from exa ▸ Mul_any W v8 v9 O8.out O9.out)
  obtain ⟨m1, em1⟩ : ∃ y, small 121665 = y := ⟨_, rfl⟩
  have Om1 := Lib.hid (show m1.ok from em1 ▸ small_ok _ (by decide))
  have Cm1 := Lib.hid (fun W => show Calls Tryz.prog 21 #[.int .u64 121665] W fun e w' => e = .returned (.agg (u64s m1.l)) ∧ Below W.heap.size W w' from em1 ▸ Small_any W 121665 (by decide))
  obtain ⟨se, ese⟩ : ∃ y, mul m1 v10 = y := ⟨_, rfl⟩
  have Ose := Lib.hid (show se.ok from ese ▸ mul_ok _ _)
  have Cse := Lib.hid (fun W => show Calls Tryz.prog 24 #[.agg (u64s m1.l), .agg (u64s v10.l)] W fun e w' => e = .returned (.agg (u64s se.l)) ∧ Below W.heap.size W w' from ese ▸ Mul_any W m1 v10 Om1.out O10.out)
  obtain ⟨ae, eae⟩ : ∃ y, add v8 se = y := ⟨_, rfl⟩
  have Oae := Lib.hid (show ae.ok from eae ▸ add_ok _ _)
  have Cae := Lib.hid (fun W => show Calls Tryz.prog 40 #[.agg (u64s v8.l), .agg (u64s se.l)] W fun e w' => e = .returned (.agg (u64s ae.l)) ∧ Below W.heap.size W w' from eae ▸ Add_any W v8 se)
  obtain ⟨za, eza⟩ : ∃ y, mul v10 ae = y := ⟨_, rfl⟩
  have Oza := Lib.hid (show za.ok from eza ▸ mul_ok _ _)
  have Cza := Lib.hid (fun W => show Calls Tryz.prog 24 #[.agg (u64s v10.l), .agg (u64s ae.l)] W fun e w' => e = .returned (.agg (u64s za.l)) ∧ Below W.heap.size W w' from eza ▸ Mul_any W v10 ae O10.out Oae.out)
  have HRES := Lib.hid (show stepP x p q = (⟨xa, za⟩, ⟨xb, zb⟩) from by subst eza eae ese em1 exa ezb es3 es2 exb es1 ev12 eu2 ev11 eu1 ev10 ev9 ev8 ev7 ev6; rfl)
  clear ev6 ev7 ev8 ev9 ev10 eu1 ev11 eu2 ev12 es1 exb es2 es3 ezb exa em1 ese eae eza O6 O7 O8 O9 O10 Ou1 O11 Ou2 O12 Os1 Oxb Os2 Os3 Ozb Oxa Om1 Ose Oae Oza
  rw [HRES.out]
  clear HRES
  go_enter Tryz.func23, Tryz.ntmps23
  go_upto_region 1 with ((with_reducible refine gate_ ?_); refine Rg.box_fresh rfl 53 _ rfl (u64s x.l) rfl ?_; intro Y0 hX hbX hnX; have Rb3 := Lib.hid (show Row Y0 w.heap.size 53 x.l from hX); have HU := Lib.hid hbX; clear hX hbX hnX)
  obtain ⟨b3, hb3⟩ : ∃ n, w.heap.size = n := ⟨_, rfl⟩
  have Nb3 := Lib.hid (show ¬ b3 = pa ∧ ¬ b3 = pb from by have h1 := HPQ.out; omega)
  have Rb3 := Lib.hid (hb3 ▸ Rb3.out)
  rw [hb3]
  clear hb3
  have RP := Lib.hid (Row.below RP.out HU.out RP.out.lt)
  have RQ := Lib.hid (Row.below RQ.out HU.out RQ.out.lt)
  have HU0 := HU
  refine RL.start (RL.Aft Y0) (by kernel_rfl) (RL.Aft.drew (RL.Aft.refl Y0)) ?_
  refine' RL.takeV (i := 0) (v := _) rfl (by kernel_rfl) (by kernel_rfl) (by kernel_rfl) (fun _ _ _ h => h) (by rfl) ?hk1 ?_
  case hk1 => (intro W hSW; go_simp; try with_reducible rfl)
  (try simp only [Act.put, List.setIfInBounds_toArray, List.set_cons_zero, List.set_cons_succ])
  refine' RL.takeV (i := 1) (v := _) rfl (by kernel_rfl) (by kernel_rfl) (by kernel_rfl) (fun _ _ _ h => h) (by rfl) ?hk2 ?_
  case hk2 => (intro W hSW; go_simp; try with_reducible rfl)
  (try simp only [Act.put, List.setIfInBounds_toArray, List.set_cons_zero, List.set_cons_succ])
  refine' RL.takeV (i := 2) (v := _) rfl (by kernel_rfl) (by kernel_rfl) (by kernel_rfl) (fun _ _ _ h => h) (by rfl) ?hk3 ?_
  case hk3 => (intro W hSW; go_simp; try with_reducible rfl)
  (try simp only [Act.put, List.setIfInBounds_toArray, List.set_cons_zero, List.set_cons_succ])
  refine RL.takeV (i := 3) (v := .agg (u64s p.x.l)) rfl (by kernel_rfl) (by kernel_rfl) (by kernel_rfl) (fun _ _ _ h => h) (by rfl) (fun W hSW => run_at 53 _ rfl pa 0 rfl (u64s p.x.l) (pt_x (aft_row hSW RP.out)) Tryz.underlying53 rfl (by kernel_rfl)) ?_
  (try simp only [Act.put, List.setIfInBounds_toArray, List.set_cons_zero, List.set_cons_succ])
  refine' RL.takeV (i := 4) (v := _) rfl (by kernel_rfl) (by kernel_rfl) (by kernel_rfl) (fun _ _ _ h => h) (by rfl) ?hk4 ?_
  case hk4 => (intro W hSW; go_simp; try with_reducible rfl)
  (try simp only [Act.put, List.setIfInBounds_toArray, List.set_cons_zero, List.set_cons_succ])
  refine' RL.takeV (i := 5) (v := _) rfl (by kernel_rfl) (by kernel_rfl) (by kernel_rfl) (fun _ _ _ h => h) (by rfl) ?hk5 ?_
  case hk5 => (intro W hSW; go_simp; try with_reducible rfl)
  (try simp only [Act.put, List.setIfInBounds_toArray, List.set_cons_zero, List.set_cons_succ])
  refine' RL.takeV (i := 6) (v := _) rfl (by kernel_rfl) (by kernel_rfl) (by kernel_rfl) (fun _ _ _ h => h) (by rfl) ?hk6 ?_
  case hk6 => (intro W hSW; go_simp; try with_reducible rfl)
  (try simp only [Act.put, List.setIfInBounds_toArray, List.set_cons_zero, List.set_cons_succ])
  refine RL.takeV (i := 7) (v := .agg (u64s p.z.l)) rfl (by kernel_rfl) (by kernel_rfl) (by kernel_rfl) (fun _ _ _ h => h) (by rfl) (fun W hSW => run_at 53 _ rfl pa 5 rfl (u64s p.z.l) (pt_z (aft_row hSW RP.out)) Tryz.underlying53 rfl (by kernel_rfl)) ?_
  (try simp only [Act.put, List.setIfInBounds_toArray, List.set_cons_zero, List.set_cons_succ])
  refine' RL.takeC (i := 8) (v := .agg (u64s (v6).l)) 40 #[.agg (u64s p.x.l), .agg (u64s p.z.l)] rfl (by kernel_rfl) (by kernel_rfl) (by kernel_rfl) (fun _ _ _ h => h) (by rfl) ?hk7 ?hc7 ?_
  case hk7 => (intro W; go_simp; try with_reducible rfl)
  case hc7 => (intro W hSW; exact (Cv6.out W).mono (fun e w9 h9 => ⟨h9.1, h9.2, RL.Aft.lat hSW h9.2⟩))
  (try simp only [Act.put, List.setIfInBounds_toArray, List.set_cons_zero, List.set_cons_succ])
  refine' RL.takeV (i := 9) (v := _) rfl (by kernel_rfl) (by kernel_rfl) (by kernel_rfl) (fun _ _ _ h => h) (by rfl) ?hk8 ?_
  case hk8 => (intro W hSW; go_simp; try with_reducible rfl)
  (try simp only [Act.put, List.setIfInBounds_toArray, List.set_cons_zero, List.set_cons_succ])
  refine' RL.takeV (i := 10) (v := _) rfl (by kernel_rfl) (by kernel_rfl) (by kernel_rfl) (fun _ _ _ h => h) (by rfl) ?hk9 ?_
  case hk9 => (intro W hSW; go_simp; try with_reducible rfl)
  (try simp only [Act.put, List.setIfInBounds_toArray, List.set_cons_zero, List.set_cons_succ])
  refine' RL.takeV (i := 11) (v := _) rfl (by kernel_rfl) (by kernel_rfl) (by kernel_rfl) (fun _ _ _ h => h) (by rfl) ?hk10 ?_
  case hk10 => (intro W hSW; go_simp; try with_reducible rfl)
  (try simp only [Act.put, List.setIfInBounds_toArray, List.set_cons_zero, List.set_cons_succ])
  refine RL.takeV (i := 12) (v := .agg (u64s p.x.l)) rfl (by kernel_rfl) (by kernel_rfl) (by kernel_rfl) (fun _ _ _ h => h) (by rfl) (fun W hSW => run_at 53 _ rfl pa 0 rfl (u64s p.x.l) (pt_x (aft_row hSW RP.out)) Tryz.underlying53 rfl (by kernel_rfl)) ?_
  (try simp only [Act.put, List.setIfInBounds_toArray, List.set_cons_zero, List.set_cons_succ])
  refine' RL.takeV (i := 13) (v := _) rfl (by kernel_rfl) (by kernel_rfl) (by kernel_rfl) (fun _ _ _ h => h) (by rfl) ?hk11 ?_
  case hk11 => (intro W hSW; go_simp; try with_reducible rfl)
  (try simp only [Act.put, List.setIfInBounds_toArray, List.set_cons_zero, List.set_cons_succ])
  refine' RL.takeV (i := 14) (v := _) rfl (by kernel_rfl) (by kernel_rfl) (by kernel_rfl) (fun _ _ _ h => h) (by rfl) ?hk12 ?_
  case hk12 => (intro W hSW; go_simp; try with_reducible rfl)
  (try simp only [Act.put, List.setIfInBounds_toArray, List.set_cons_zero, List.set_cons_succ])
  refine' RL.takeV (i := 15) (v := _) rfl (by kernel_rfl) (by kernel_rfl) (by kernel_rfl) (fun _ _ _ h => h) (by rfl) ?hk13 ?_
  case hk13 => (intro W hSW; go_simp; try with_reducible rfl)
  (try simp only [Act.put, List.setIfInBounds_toArray, List.set_cons_zero, List.set_cons_succ])
  refine RL.takeV (i := 16) (v := .agg (u64s p.z.l)) rfl (by kernel_rfl) (by kernel_rfl) (by kernel_rfl) (fun _ _ _ h => h) (by rfl) (fun W hSW => run_at 53 _ rfl pa 5 rfl (u64s p.z.l) (pt_z (aft_row hSW RP.out)) Tryz.underlying53 rfl (by kernel_rfl)) ?_
  (try simp only [Act.put, List.setIfInBounds_toArray, List.set_cons_zero, List.set_cons_succ])
  refine' RL.takeC (i := 17) (v := .agg (u64s (v7).l)) 41 #[.agg (u64s p.x.l), .agg (u64s p.z.l)] rfl (by kernel_rfl) (by kernel_rfl) (by kernel_rfl) (fun _ _ _ h => h) (by rfl) ?hk14 ?hc14 ?_
  case hk14 => (intro W; go_simp; try with_reducible rfl)
  case hc14 => (intro W hSW; exact (Cv7.out W).mono (fun e w9 h9 => ⟨h9.1, h9.2, RL.Aft.lat hSW h9.2⟩))
  (try simp only [Act.put, List.setIfInBounds_toArray, List.set_cons_zero, List.set_cons_succ])
  refine RL.alloc2 (i := 18) (j := 19) 53 53 Z5 Z5 rfl rfl (by kernel_rfl) (by kernel_rfl) (by kernel_rfl) (by decide) (by decide) (fun _ => rfl) (fun _ => rfl) (fun _ _ => by go_simp; try rfl) (fun _ _ => by go_simp; try rfl) (fun _ _ h => RL.Aft.alloc h _) ?_
  intro b6 b7 wv hlwv hswv hnewv hz1wv hz2wv hB1 hB2
  have HNEwv := Lib.hid hnewv
  have Hb6 := Lib.hid (show Y0.heap.size ≤ b6 from by simpa using hz1wv)
  have Hb7 := Lib.hid (show Y0.heap.size ≤ b7 from by simpa using hz2wv)
  clear hnewv hz1wv hz2wv hlwv
  (try simp only [Act.put, List.setIfInBounds_toArray, List.set_cons_zero, List.set_cons_succ])
  refine RL.stepK (i := 20) rfl (by kernel_rfl) (by rfl) (fun va hlva hsva K hK => ?_)
  have hA := hB1.below hlva hB1.lt
  have hB := hB2.below hlva hB2.lt
  refine store_blk_op 53 _ _ rfl b6 (u64s (v6).l) Z5 53 rfl rfl hA (by kernel_rfl) rfl (u64s_one _) ?_
  intro Y hY hgY
  have hB := blk_other hB hgY HNEwv.out
  refine hK.out _ _ (Below.grown hsva hgY (Below.size hsva) (fun k hk => by cases hk; exact Hb6.out)) ?_
  clear hK
  (try simp only [Act.put, List.setIfInBounds_toArray, List.set_cons_zero, List.set_cons_succ])
  refine RL.stepK (i := 21) rfl (by kernel_rfl) (by rfl) (fun vb hlvb hsvb K hK => ?_)
  refine store_blk_op 53 _ _ rfl b7 (u64s (v7).l) Z5 53 rfl rfl (hB.below hlvb hB.lt) (by kernel_rfl) rfl (u64s_one _) ?_
  intro Y2 hY2 hgY2
  have hY := blk_other (hY.below hlvb hY.lt) hgY2 (fun e => HNEwv.out e.symm)
  refine hK.out _ _ (Below.grown hsvb hgY2 (Below.size hsvb) (fun k hk => by cases hk; exact Hb7.out)) ?_
  clear hK
  (try simp only [Act.put, List.setIfInBounds_toArray, List.set_cons_zero, List.set_cons_succ])
  refine RL.done (by kernel_rfl) (fun Y1 hlY1 hsY1 => ?_)
  have HA := Lib.hid (show RL.Aft Y0 Y1 from hsY1)
  have Rb6 := Lib.hid (show Row Y1 b6 53 (v6).l from hY.below hlY1 hY.lt)
  have Rb7 := Lib.hid (show Row Y1 b7 53 (v7).l from hY2.below hlY1 hY2.lt)
  clear hsY1 hlY1 hY hgY hsva hlva hsvb hlvb hB hA hY2 hgY2 hB1 hB2 HNEwv
  have RP := Lib.hid (aft_row HA.out RP.out)
  have RQ := Lib.hid (aft_row HA.out RQ.out)
  have Rb3 := Lib.hid (aft_row HA.out Rb3.out)
  have HU := Lib.hid (Below.trans HU.out (Below.mono HA.out (Below.size HU.out)))
  have Nb6 := Lib.hid (show ¬ b6 = pa ∧ ¬ b6 = pb from by have h1 := HPQ.out; have h2 := Hb6.out; have h3 := Below.size HU0.out; omega)
  have Nb7 := Lib.hid (show ¬ b7 = pa ∧ ¬ b7 = pb from by have h1 := HPQ.out; have h2 := Hb7.out; have h3 := Below.size HU0.out; omega)
  clear HA HU0 Hb6 Hb7
  go_upto_region 2 with fail
  have HU0 := HU
  refine RL.start (RL.Aft Y1) (by kernel_rfl) (RL.Aft.drew (RL.Aft.refl Y1)) ?_
  refine RL.takeV (i := 0) (v := .agg (u64s (v6).l)) rfl (by kernel_rfl) (by kernel_rfl) (by kernel_rfl) (fun _ _ _ h => h) (by rfl) (fun W hSW => run_at 53 _ rfl b6 0 rfl (u64s (v6).l) (el_at (aft_row hSW Rb6.out)) Tryz.underlying53 rfl (by kernel_rfl)) ?_
  (try simp only [Act.put, List.setIfInBounds_toArray, List.set_cons_zero, List.set_cons_succ])
  refine' RL.takeC (i := 1) (v := .agg (u64s (v8).l)) 42 #[.agg (u64s v6.l)] rfl (by kernel_rfl) (by kernel_rfl) (by kernel_rfl) (fun _ _ _ h => h) (by rfl) ?hk15 ?hc15 ?_
  case hk15 => (intro W; go_simp; try with_reducible rfl)
  case hc15 => (intro W hSW; exact (Cv8.out W).mono (fun e w9 h9 => ⟨h9.1, h9.2, RL.Aft.lat hSW h9.2⟩))
  (try simp only [Act.put, List.setIfInBounds_toArray, List.set_cons_zero, List.set_cons_succ])
  refine RL.takeV (i := 2) (v := .agg (u64s (v7).l)) rfl (by kernel_rfl) (by kernel_rfl) (by kernel_rfl) (fun _ _ _ h => h) (by rfl) (fun W hSW => run_at 53 _ rfl b7 0 rfl (u64s (v7).l) (el_at (aft_row hSW Rb7.out)) Tryz.underlying53 rfl (by kernel_rfl)) ?_
  (try simp only [Act.put, List.setIfInBounds_toArray, List.set_cons_zero, List.set_cons_succ])
  refine' RL.takeC (i := 3) (v := .agg (u64s (v9).l)) 42 #[.agg (u64s v7.l)] rfl (by kernel_rfl) (by kernel_rfl) (by kernel_rfl) (fun _ _ _ h => h) (by rfl) ?hk16 ?hc16 ?_
  case hk16 => (intro W; go_simp; try with_reducible rfl)
  case hc16 => (intro W hSW; exact (Cv9.out W).mono (fun e w9 h9 => ⟨h9.1, h9.2, RL.Aft.lat hSW h9.2⟩))
  (try simp only [Act.put, List.setIfInBounds_toArray, List.set_cons_zero, List.set_cons_succ])
  refine RL.alloc2 (i := 4) (j := 5) 53 53 Z5 Z5 rfl rfl (by kernel_rfl) (by kernel_rfl) (by kernel_rfl) (by decide) (by decide) (fun _ => rfl) (fun _ => rfl) (fun _ _ => by go_simp; try rfl) (fun _ _ => by go_simp; try rfl) (fun _ _ h => RL.Aft.alloc h _) ?_
  intro b8 b9 wv hlwv hswv hnewv hz1wv hz2wv hB1 hB2
  have HNEwv := Lib.hid hnewv
  have Hb8 := Lib.hid (show Y1.heap.size ≤ b8 from by simpa using hz1wv)
  have Hb9 := Lib.hid (show Y1.heap.size ≤ b9 from by simpa using hz2wv)
  clear hnewv hz1wv hz2wv hlwv
  (try simp only [Act.put, List.setIfInBounds_toArray, List.set_cons_zero, List.set_cons_succ])
  refine RL.stepK (i := 6) rfl (by kernel_rfl) (by rfl) (fun va hlva hsva K hK => ?_)
  have hA := hB1.below hlva hB1.lt
  have hB := hB2.below hlva hB2.lt
  refine store_blk_op 53 _ _ rfl b8 (u64s (v8).l) Z5 53 rfl rfl hA (by kernel_rfl) rfl (u64s_one _) ?_
  intro Y hY hgY
  have hB := blk_other hB hgY HNEwv.out
  refine hK.out _ _ (Below.grown hsva hgY (Below.size hsva) (fun k hk => by cases hk; exact Hb8.out)) ?_
  clear hK
  (try simp only [Act.put, List.setIfInBounds_toArray, List.set_cons_zero, List.set_cons_succ])
  refine RL.stepK (i := 7) rfl (by kernel_rfl) (by rfl) (fun vb hlvb hsvb K hK => ?_)
  refine store_blk_op 53 _ _ rfl b9 (u64s (v9).l) Z5 53 rfl rfl (hB.below hlvb hB.lt) (by kernel_rfl) rfl (u64s_one _) ?_
  intro Y2 hY2 hgY2
  have hY := blk_other (hY.below hlvb hY.lt) hgY2 (fun e => HNEwv.out e.symm)
  refine hK.out _ _ (Below.grown hsvb hgY2 (Below.size hsvb) (fun k hk => by cases hk; exact Hb9.out)) ?_
  clear hK
  (try simp only [Act.put, List.setIfInBounds_toArray, List.set_cons_zero, List.set_cons_succ])
  refine RL.done (by kernel_rfl) (fun Y2 hlY2 hsY2 => ?_)
  have HA := Lib.hid (show RL.Aft Y1 Y2 from hsY2)
  have Rb8 := Lib.hid (show Row Y2 b8 53 (v8).l from hY.below hlY2 hY.lt)
  have Rb9 := Lib.hid (show Row Y2 b9 53 (v9).l from hY2.below hlY2 hY2.lt)
  clear hsY2 hlY2 hY hgY hsva hlva hsvb hlvb hB hA hY2 hgY2 hB1 hB2 HNEwv
  have RP := Lib.hid (aft_row HA.out RP.out)
  have RQ := Lib.hid (aft_row HA.out RQ.out)
  have Rb3 := Lib.hid (aft_row HA.out Rb3.out)
  have Rb6 := Lib.hid (aft_row HA.out Rb6.out)
  have Rb7 := Lib.hid (aft_row HA.out Rb7.out)
  have HU := Lib.hid (Below.trans HU.out (Below.mono HA.out (Below.size HU.out)))
  have Nb8 := Lib.hid (show ¬ b8 = pa ∧ ¬ b8 = pb from by have h1 := HPQ.out; have h2 := Hb8.out; have h3 := Below.size HU0.out; omega)
  have Nb9 := Lib.hid (show ¬ b9 = pa ∧ ¬ b9 = pb from by have h1 := HPQ.out; have h2 := Hb9.out; have h3 := Below.size HU0.out; omega)
  clear HA HU0 Hb8 Hb9
  go_upto_region 4 with (first
    | ((with_reducible refine gate_ ?_); refine Cv.load_cells rfl 53 _ rfl b8 0 rfl (u64s v8.l) _ (fun j v hv => by rw [Nat.zero_add]; exact Rg.Blk.cell (row_blk Rb8.out) j hv) Tryz.underlying53 rfl (by rw [u64s_size]; kernel_rfl) ?_; skip)
    | ((with_reducible refine gate_ ?_); refine Cv.load_cells rfl 53 _ rfl b9 0 rfl (u64s v9.l) _ (fun j v hv => by rw [Nat.zero_add]; exact Rg.Blk.cell (row_blk Rb9.out) j hv) Tryz.underlying53 rfl (by rw [u64s_size]; kernel_rfl) ?_; skip)
    | (go_at_call 41; refine (Cv10.out _).mono ?_; rintro e w9 ⟨rfl, hb9⟩; skip; have HB9 := Lib.hid hb9; clear hb9)
    | (refine Rg.store_fresh rfl 53 _ _ rfl (u64s v10.l) _ 53 rfl rfl (by rw [u64s_size]; kernel_rfl) rfl (u64s_one _) ?_; intro Y3 hX hbX; have HX3 := Lib.hid hX; have HA := Lib.hid (show RL.Aft Y2 Y3 from Below.trans HB9.out (Below.mono hbX HB9.out.size)); clear hX hbX))
  obtain ⟨b10, hb10⟩ : ∃ n, w9.heap.size = n := ⟨_, rfl⟩
  have Hb10 := Lib.hid (show Y2.heap.size ≤ b10 from hb10 ▸ HB9.out.size)
  have Rb10 := Lib.hid (show Row Y3 b10 53 v10.l from hb10 ▸ HX3.out)
  rw [hb10]
  clear hb10 HX3 HB9
  have HU0 := HU
  have RP := Lib.hid (aft_row HA.out RP.out)
  have RQ := Lib.hid (aft_row HA.out RQ.out)
  have Rb3 := Lib.hid (aft_row HA.out Rb3.out)
  have Rb6 := Lib.hid (aft_row HA.out Rb6.out)
  have Rb7 := Lib.hid (aft_row HA.out Rb7.out)
  have Rb8 := Lib.hid (aft_row HA.out Rb8.out)
  have Rb9 := Lib.hid (aft_row HA.out Rb9.out)
  have HU := Lib.hid (Below.trans HU.out (Below.mono HA.out (Below.size HU.out)))
  have Nb10 := Lib.hid (show ¬ b10 = pa ∧ ¬ b10 = pb from by have h1 := HPQ.out; have h2 := Hb10.out; have h3 := Below.size HU0.out; omega)
  clear HA HU0 Hb10
  go_upto_region 4 with fail
  have HU0 := HU
  refine RL.start (RL.Aft Y3) (by kernel_rfl) (RL.Aft.drew (RL.Aft.refl Y3)) ?_
  refine' RL.takeV (i := 0) (v := _) rfl (by kernel_rfl) (by kernel_rfl) (by kernel_rfl) (fun _ _ _ h => h) (by rfl) ?hk17 ?_
  case hk17 => (intro W hSW; go_simp; try with_reducible rfl)
  (try simp only [Act.put, List.setIfInBounds_toArray, List.set_cons_zero, List.set_cons_succ])
  refine' RL.takeV (i := 1) (v := _) rfl (by kernel_rfl) (by kernel_rfl) (by kernel_rfl) (fun _ _ _ h => h) (by rfl) ?hk18 ?_
  case hk18 => (intro W hSW; go_simp; try with_reducible rfl)
  (try simp only [Act.put, List.setIfInBounds_toArray, List.set_cons_zero, List.set_cons_succ])
  refine' RL.takeV (i := 2) (v := _) rfl (by kernel_rfl) (by kernel_rfl) (by kernel_rfl) (fun _ _ _ h => h) (by rfl) ?hk19 ?_
  case hk19 => (intro W hSW; go_simp; try with_reducible rfl)
  (try simp only [Act.put, List.setIfInBounds_toArray, List.set_cons_zero, List.set_cons_succ])
  refine RL.takeV (i := 3) (v := .agg (u64s q.x.l)) rfl (by kernel_rfl) (by kernel_rfl) (by kernel_rfl) (fun _ _ _ h => h) (by rfl) (fun W hSW => run_at 53 _ rfl pb 0 rfl (u64s q.x.l) (pt_x (aft_row hSW RQ.out)) Tryz.underlying53 rfl (by kernel_rfl)) ?_
  (try simp only [Act.put, List.setIfInBounds_toArray, List.set_cons_zero, List.set_cons_succ])
  refine' RL.takeV (i := 4) (v := _) rfl (by kernel_rfl) (by kernel_rfl) (by kernel_rfl) (fun _ _ _ h => h) (by rfl) ?hk20 ?_
  case hk20 => (intro W hSW; go_simp; try with_reducible rfl)
  (try simp only [Act.put, List.setIfInBounds_toArray, List.set_cons_zero, List.set_cons_succ])
  refine' RL.takeV (i := 5) (v := _) rfl (by kernel_rfl) (by kernel_rfl) (by kernel_rfl) (fun _ _ _ h => h) (by rfl) ?hk21 ?_
  case hk21 => (intro W hSW; go_simp; try with_reducible rfl)
  (try simp only [Act.put, List.setIfInBounds_toArray, List.set_cons_zero, List.set_cons_succ])
  refine' RL.takeV (i := 6) (v := _) rfl (by kernel_rfl) (by kernel_rfl) (by kernel_rfl) (fun _ _ _ h => h) (by rfl) ?hk22 ?_
  case hk22 => (intro W hSW; go_simp; try with_reducible rfl)
  (try simp only [Act.put, List.setIfInBounds_toArray, List.set_cons_zero, List.set_cons_succ])
  refine RL.takeV (i := 7) (v := .agg (u64s q.z.l)) rfl (by kernel_rfl) (by kernel_rfl) (by kernel_rfl) (fun _ _ _ h => h) (by rfl) (fun W hSW => run_at 53 _ rfl pb 5 rfl (u64s q.z.l) (pt_z (aft_row hSW RQ.out)) Tryz.underlying53 rfl (by kernel_rfl)) ?_
  (try simp only [Act.put, List.setIfInBounds_toArray, List.set_cons_zero, List.set_cons_succ])
  refine' RL.takeC (i := 8) (v := .agg (u64s (u1).l)) 41 #[.agg (u64s q.x.l), .agg (u64s q.z.l)] rfl (by kernel_rfl) (by kernel_rfl) (by kernel_rfl) (fun _ _ _ h => h) (by rfl) ?hk23 ?hc23 ?_
  case hk23 => (intro W; go_simp; try with_reducible rfl)
  case hc23 => (intro W hSW; exact (Cu1.out W).mono (fun e w9 h9 => ⟨h9.1, h9.2, RL.Aft.lat hSW h9.2⟩))
  (try simp only [Act.put, List.setIfInBounds_toArray, List.set_cons_zero, List.set_cons_succ])
  refine RL.takeV (i := 9) (v := .agg (u64s (v6).l)) rfl (by kernel_rfl) (by kernel_rfl) (by kernel_rfl) (fun _ _ _ h => h) (by rfl) (fun W hSW => run_at 53 _ rfl b6 0 rfl (u64s (v6).l) (el_at (aft_row hSW Rb6.out)) Tryz.underlying53 rfl (by kernel_rfl)) ?_
  (try simp only [Act.put, List.setIfInBounds_toArray, List.set_cons_zero, List.set_cons_succ])
  refine' RL.takeC (i := 10) (v := .agg (u64s (v11).l)) 24 #[.agg (u64s u1.l), .agg (u64s v6.l)] rfl (by kernel_rfl) (by kernel_rfl) (by kernel_rfl) (fun _ _ _ h => h) (by rfl) ?hk24 ?hc24 ?_
  case hk24 => (intro W; go_simp; try with_reducible rfl)
  case hc24 => (intro W hSW; exact (Cv11.out W).mono (fun e w9 h9 => ⟨h9.1, h9.2, RL.Aft.lat hSW h9.2⟩))
  (try simp only [Act.put, List.setIfInBounds_toArray, List.set_cons_zero, List.set_cons_succ])
  refine RL.stepK (i := 11) rfl (by kernel_rfl) (by rfl) (fun wa hlwa hswa K hK => ?_)
  go_simp
  obtain ⟨b11, hb11⟩ : ∃ n, wa.heap.size = n := ⟨_, rfl⟩
  have hZ := Rg.Blk.newAt hb11.symm Z5 53
  have Hb11 := Lib.hid (show Y3.heap.size ≤ b11 from hb11 ▸ Below.size hswa)
  refine hK.out _ _ (RL.Aft.alloc hswa _) ?_
  try rw [hb11]
  clear hK
  (try simp only [Act.put, List.setIfInBounds_toArray, List.set_cons_zero, List.set_cons_succ])
  refine RL.stepK (i := 12) rfl (by kernel_rfl) (by rfl) (fun va hlva hsva K hK => ?_)
  refine store_blk_op 53 _ _ rfl b11 (u64s (v11).l) Z5 53 rfl rfl (hZ.below hlva hZ.lt) (by kernel_rfl) rfl (u64s_one _) ?_
  intro Y hY hgY
  refine hK.out _ _ (Below.grown hsva hgY (Below.size hsva) (fun k hk => by cases hk; exact Hb11.out)) ?_
  clear hK
  (try simp only [Act.put, List.setIfInBounds_toArray, List.set_cons_zero, List.set_cons_succ])
  refine RL.done (by kernel_rfl) (fun Y4 hlY4 hsY4 => ?_)
  have HA := Lib.hid (show RL.Aft Y3 Y4 from hsY4)
  have Rb11 := Lib.hid (show Row Y4 b11 53 (v11).l from hY.below hlY4 hY.lt)
  clear hsY4 hlY4 hY hgY hsva hlva hZ hswa hlwa hb11
  have RP := Lib.hid (aft_row HA.out RP.out)
  have RQ := Lib.hid (aft_row HA.out RQ.out)
  have Rb3 := Lib.hid (aft_row HA.out Rb3.out)
  have Rb6 := Lib.hid (aft_row HA.out Rb6.out)
  have Rb7 := Lib.hid (aft_row HA.out Rb7.out)
  have Rb8 := Lib.hid (aft_row HA.out Rb8.out)
  have Rb9 := Lib.hid (aft_row HA.out Rb9.out)
  have Rb10 := Lib.hid (aft_row HA.out Rb10.out)
  have HU := Lib.hid (Below.trans HU.out (Below.mono HA.out (Below.size HU.out)))
  have Nb11 := Lib.hid (show ¬ b11 = pa ∧ ¬ b11 = pb from by have h1 := HPQ.out; have h2 := Hb11.out; have h3 := Below.size HU0.out; omega)
  clear HA HU0 Hb11
  go_upto_region 5 with fail
  have HU0 := HU
  refine RL.start (RL.Aft Y4) (by kernel_rfl) (RL.Aft.drew (RL.Aft.refl Y4)) ?_
  refine' RL.takeV (i := 0) (v := _) rfl (by kernel_rfl) (by kernel_rfl) (by kernel_rfl) (fun _ _ _ h => h) (by rfl) ?hk25 ?_
  case hk25 => (intro W hSW; go_simp; try with_reducible rfl)
  (try simp only [Act.put, List.setIfInBounds_toArray, List.set_cons_zero, List.set_cons_succ])
  refine' RL.takeV (i := 1) (v := _) rfl (by kernel_rfl) (by kernel_rfl) (by kernel_rfl) (fun _ _ _ h => h) (by rfl) ?hk26 ?_
  case hk26 => (intro W hSW; go_simp; try with_reducible rfl)
  (try simp only [Act.put, List.setIfInBounds_toArray, List.set_cons_zero, List.set_cons_succ])
  refine' RL.takeV (i := 2) (v := _) rfl (by kernel_rfl) (by kernel_rfl) (by kernel_rfl) (fun _ _ _ h => h) (by rfl) ?hk27 ?_
  case hk27 => (intro W hSW; go_simp; try with_reducible rfl)
  (try simp only [Act.put, List.setIfInBounds_toArray, List.set_cons_zero, List.set_cons_succ])
  refine RL.takeV (i := 3) (v := .agg (u64s q.x.l)) rfl (by kernel_rfl) (by kernel_rfl) (by kernel_rfl) (fun _ _ _ h => h) (by rfl) (fun W hSW => run_at 53 _ rfl pb 0 rfl (u64s q.x.l) (pt_x (aft_row hSW RQ.out)) Tryz.underlying53 rfl (by kernel_rfl)) ?_
  (try simp only [Act.put, List.setIfInBounds_toArray, List.set_cons_zero, List.set_cons_succ])
  refine' RL.takeV (i := 4) (v := _) rfl (by kernel_rfl) (by kernel_rfl) (by kernel_rfl) (fun _ _ _ h => h) (by rfl) ?hk28 ?_
  case hk28 => (intro W hSW; go_simp; try with_reducible rfl)
  (try simp only [Act.put, List.setIfInBounds_toArray, List.set_cons_zero, List.set_cons_succ])
  refine' RL.takeV (i := 5) (v := _) rfl (by kernel_rfl) (by kernel_rfl) (by kernel_rfl) (fun _ _ _ h => h) (by rfl) ?hk29 ?_
  case hk29 => (intro W hSW; go_simp; try with_reducible rfl)
  (try simp only [Act.put, List.setIfInBounds_toArray, List.set_cons_zero, List.set_cons_succ])
  refine' RL.takeV (i := 6) (v := _) rfl (by kernel_rfl) (by kernel_rfl) (by kernel_rfl) (fun _ _ _ h => h) (by rfl) ?hk30 ?_
  case hk30 => (intro W hSW; go_simp; try with_reducible rfl)
  (try simp only [Act.put, List.setIfInBounds_toArray, List.set_cons_zero, List.set_cons_succ])
  refine RL.takeV (i := 7) (v := .agg (u64s q.z.l)) rfl (by kernel_rfl) (by kernel_rfl) (by kernel_rfl) (fun _ _ _ h => h) (by rfl) (fun W hSW => run_at 53 _ rfl pb 5 rfl (u64s q.z.l) (pt_z (aft_row hSW RQ.out)) Tryz.underlying53 rfl (by kernel_rfl)) ?_
  (try simp only [Act.put, List.setIfInBounds_toArray, List.set_cons_zero, List.set_cons_succ])
  refine' RL.takeC (i := 8) (v := .agg (u64s (u2).l)) 40 #[.agg (u64s q.x.l), .agg (u64s q.z.l)] rfl (by kernel_rfl) (by kernel_rfl) (by kernel_rfl) (fun _ _ _ h => h) (by rfl) ?hk31 ?hc31 ?_
  case hk31 => (intro W; go_simp; try with_reducible rfl)
  case hc31 => (intro W hSW; exact (Cu2.out W).mono (fun e w9 h9 => ⟨h9.1, h9.2, RL.Aft.lat hSW h9.2⟩))
  (try simp only [Act.put, List.setIfInBounds_toArray, List.set_cons_zero, List.set_cons_succ])
  refine RL.takeV (i := 9) (v := .agg (u64s (v7).l)) rfl (by kernel_rfl) (by kernel_rfl) (by kernel_rfl) (fun _ _ _ h => h) (by rfl) (fun W hSW => run_at 53 _ rfl b7 0 rfl (u64s (v7).l) (el_at (aft_row hSW Rb7.out)) Tryz.underlying53 rfl (by kernel_rfl)) ?_
  (try simp only [Act.put, List.setIfInBounds_toArray, List.set_cons_zero, List.set_cons_succ])
  refine' RL.takeC (i := 10) (v := .agg (u64s (v12).l)) 24 #[.agg (u64s u2.l), .agg (u64s v7.l)] rfl (by kernel_rfl) (by kernel_rfl) (by kernel_rfl) (fun _ _ _ h => h) (by rfl) ?hk32 ?hc32 ?_
  case hk32 => (intro W; go_simp; try with_reducible rfl)
  case hc32 => (intro W hSW; exact (Cv12.out W).mono (fun e w9 h9 => ⟨h9.1, h9.2, RL.Aft.lat hSW h9.2⟩))
  (try simp only [Act.put, List.setIfInBounds_toArray, List.set_cons_zero, List.set_cons_succ])
  refine RL.stepK (i := 11) rfl (by kernel_rfl) (by rfl) (fun wa hlwa hswa K hK => ?_)
  go_simp
  obtain ⟨b12, hb12⟩ : ∃ n, wa.heap.size = n := ⟨_, rfl⟩
  have hZ := Rg.Blk.newAt hb12.symm Z5 53
  have Hb12 := Lib.hid (show Y4.heap.size ≤ b12 from hb12 ▸ Below.size hswa)
  refine hK.out _ _ (RL.Aft.alloc hswa _) ?_
  try rw [hb12]
  clear hK
  (try simp only [Act.put, List.setIfInBounds_toArray, List.set_cons_zero, List.set_cons_succ])
  refine RL.stepK (i := 12) rfl (by kernel_rfl) (by rfl) (fun va hlva hsva K hK => ?_)
  refine store_blk_op 53 _ _ rfl b12 (u64s (v12).l) Z5 53 rfl rfl (hZ.below hlva hZ.lt) (by kernel_rfl) rfl (u64s_one _) ?_
  intro Y hY hgY
  refine hK.out _ _ (Below.grown hsva hgY (Below.size hsva) (fun k hk => by cases hk; exact Hb12.out)) ?_
  clear hK
  (try simp only [Act.put, List.setIfInBounds_toArray, List.set_cons_zero, List.set_cons_succ])
  refine RL.done (by kernel_rfl) (fun Y5 hlY5 hsY5 => ?_)
  have HA := Lib.hid (show RL.Aft Y4 Y5 from hsY5)
  have Rb12 := Lib.hid (show Row Y5 b12 53 (v12).l from hY.below hlY5 hY.lt)
  clear hsY5 hlY5 hY hgY hsva hlva hZ hswa hlwa hb12
  have RP := Lib.hid (aft_row HA.out RP.out)
  have RQ := Lib.hid (aft_row HA.out RQ.out)
  have Rb3 := Lib.hid (aft_row HA.out Rb3.out)
  have Rb6 := Lib.hid (aft_row HA.out Rb6.out)
  have Rb7 := Lib.hid (aft_row HA.out Rb7.out)
  have Rb8 := Lib.hid (aft_row HA.out Rb8.out)
  have Rb9 := Lib.hid (aft_row HA.out Rb9.out)
  have Rb10 := Lib.hid (aft_row HA.out Rb10.out)
  have Rb11 := Lib.hid (aft_row HA.out Rb11.out)
  have HU := Lib.hid (Below.trans HU.out (Below.mono HA.out (Below.size HU.out)))
  have Nb12 := Lib.hid (show ¬ b12 = pa ∧ ¬ b12 = pb from by have h1 := HPQ.out; have h2 := Hb12.out; have h3 := Below.size HU0.out; omega)
  clear HA HU0 Hb12
  go_upto_region 6 with fail
  refine RL.start (fun W => Sp.Upd Y5 W [pa, pb]) (by kernel_rfl) (Sp.Upd.trans (Sp.Upd.refl _ _) (Sp.Upd.of_below (Below.drew (Below.refl _ _))) (by simp)) ?_
  refine' RL.takeV (i := 0) (v := _) rfl (by kernel_rfl) (by kernel_rfl) (by kernel_rfl) (fun _ _ _ h => h) (by rfl) ?hk33 ?_
  case hk33 => (intro W hSW; go_simp; try with_reducible rfl)
  (try simp only [Act.put, List.setIfInBounds_toArray, List.set_cons_zero, List.set_cons_succ])
  refine RL.takeV (i := 1) (v := .agg (u64s (v11).l)) rfl (by kernel_rfl) (by kernel_rfl) (by kernel_rfl) (fun _ _ _ h => h) (by rfl) (fun W hSW => run_at 53 _ rfl b11 0 rfl (u64s (v11).l) (el_at (upd_row hSW Rb11.out (by simp; exact Nb11.out))) Tryz.underlying53 rfl (by kernel_rfl)) ?_
  (try simp only [Act.put, List.setIfInBounds_toArray, List.set_cons_zero, List.set_cons_succ])
  refine RL.takeV (i := 2) (v := .agg (u64s (v12).l)) rfl (by kernel_rfl) (by kernel_rfl) (by kernel_rfl) (fun _ _ _ h => h) (by rfl) (fun W hSW => run_at 53 _ rfl b12 0 rfl (u64s (v12).l) (el_at (upd_row hSW Rb12.out (by simp; exact Nb12.out))) Tryz.underlying53 rfl (by kernel_rfl)) ?_
  (try simp only [Act.put, List.setIfInBounds_toArray, List.set_cons_zero, List.set_cons_succ])
  refine' RL.takeC (i := 3) (v := .agg (u64s (s1).l)) 40 #[.agg (u64s v11.l), .agg (u64s v12.l)] rfl (by kernel_rfl) (by kernel_rfl) (by kernel_rfl) (fun _ _ _ h => h) (by rfl) ?hk34 ?hc34 ?_
  case hk34 => (intro W; go_simp; try with_reducible rfl)
  case hc34 => (intro W hSW; exact (Cs1.out W).mono (fun e w9 h9 => ⟨h9.1, h9.2, Sp.Upd.trans hSW (Sp.Upd.of_below h9.2) (by simp)⟩))
  (try simp only [Act.put, List.setIfInBounds_toArray, List.set_cons_zero, List.set_cons_succ])
  refine' RL.takeC (i := 4) (v := .agg (u64s (xb).l)) 42 #[.agg (u64s s1.l)] rfl (by kernel_rfl) (by kernel_rfl) (by kernel_rfl) (fun _ _ _ h => h) (by rfl) ?hk35 ?hc35 ?_
  case hk35 => (intro W; go_simp; try with_reducible rfl)
  case hc35 => (intro W hSW; exact (Cxb.out W).mono (fun e w9 h9 => ⟨h9.1, h9.2, Sp.Upd.trans hSW (Sp.Upd.of_below h9.2) (by simp)⟩))
  (try simp only [Act.put, List.setIfInBounds_toArray, List.set_cons_zero, List.set_cons_succ])
  refine RL.takeV (i := 5) (v := .agg (u64s (x).l)) rfl (by kernel_rfl) (by kernel_rfl) (by kernel_rfl) (fun _ _ _ h => h) (by rfl) (fun W hSW => run_at 53 _ rfl b3 0 rfl (u64s (x).l) (el_at (upd_row hSW Rb3.out (by simp; exact Nb3.out))) Tryz.underlying53 rfl (by kernel_rfl)) ?_
  (try simp only [Act.put, List.setIfInBounds_toArray, List.set_cons_zero, List.set_cons_succ])
  refine RL.takeV (i := 6) (v := .agg (u64s (v11).l)) rfl (by kernel_rfl) (by kernel_rfl) (by kernel_rfl) (fun _ _ _ h => h) (by rfl) (fun W hSW => run_at 53 _ rfl b11 0 rfl (u64s (v11).l) (el_at (upd_row hSW Rb11.out (by simp; exact Nb11.out))) Tryz.underlying53 rfl (by kernel_rfl)) ?_
  (try simp only [Act.put, List.setIfInBounds_toArray, List.set_cons_zero, List.set_cons_succ])
  refine RL.takeV (i := 7) (v := .agg (u64s (v12).l)) rfl (by kernel_rfl) (by kernel_rfl) (by kernel_rfl) (fun _ _ _ h => h) (by rfl) (fun W hSW => run_at 53 _ rfl b12 0 rfl (u64s (v12).l) (el_at (upd_row hSW Rb12.out (by simp; exact Nb12.out))) Tryz.underlying53 rfl (by kernel_rfl)) ?_
  (try simp only [Act.put, List.setIfInBounds_toArray, List.set_cons_zero, List.set_cons_succ])
  refine' RL.takeC (i := 8) (v := .agg (u64s (s2).l)) 41 #[.agg (u64s v11.l), .agg (u64s v12.l)] rfl (by kernel_rfl) (by kernel_rfl) (by kernel_rfl) (fun _ _ _ h => h) (by rfl) ?hk36 ?hc36 ?_
  case hk36 => (intro W; go_simp; try with_reducible rfl)
  case hc36 => (intro W hSW; exact (Cs2.out W).mono (fun e w9 h9 => ⟨h9.1, h9.2, Sp.Upd.trans hSW (Sp.Upd.of_below h9.2) (by simp)⟩))
  (try simp only [Act.put, List.setIfInBounds_toArray, List.set_cons_zero, List.set_cons_succ])
  refine' RL.takeC (i := 9) (v := .agg (u64s (s3).l)) 42 #[.agg (u64s s2.l)] rfl (by kernel_rfl) (by kernel_rfl) (by kernel_rfl) (fun _ _ _ h => h) (by rfl) ?hk37 ?hc37 ?_
  case hk37 => (intro W; go_simp; try with_reducible rfl)
  case hc37 => (intro W hSW; exact (Cs3.out W).mono (fun e w9 h9 => ⟨h9.1, h9.2, Sp.Upd.trans hSW (Sp.Upd.of_below h9.2) (by simp)⟩))
  (try simp only [Act.put, List.setIfInBounds_toArray, List.set_cons_zero, List.set_cons_succ])
  refine' RL.takeC (i := 10) (v := .agg (u64s (zb).l)) 24 #[.agg (u64s x.l), .agg (u64s s3.l)] rfl (by kernel_rfl) (by kernel_rfl) (by kernel_rfl) (fun _ _ _ h => h) (by rfl) ?hk38 ?hc38 ?_
  case hk38 => (intro W; go_simp; try with_reducible rfl)
  case hc38 => (intro W hSW; exact (Czb.out W).mono (fun e w9 h9 => ⟨h9.1, h9.2, Sp.Upd.trans hSW (Sp.Upd.of_below h9.2) (by simp)⟩))
  (try simp only [Act.put, List.setIfInBounds_toArray, List.set_cons_zero, List.set_cons_succ])
  refine RL.takeV (i := 11) (v := .agg (u64s ((xb).l ++ (zb).l))) rfl (by kernel_rfl) (by kernel_rfl) (by kernel_rfl) (fun _ _ _ h => h) (by rfl) (fun W hSW => run_build_op 57 _ rfl #[(0, .agg (u64s (xb).l)), (1, .agg (u64s (zb).l))] (by go_simp) _ (built_pt _ _)) ?_
  (try simp only [Act.put, List.setIfInBounds_toArray, List.set_cons_zero, List.set_cons_succ])
  refine' RL.takeV (i := 12) (v := _) rfl (by kernel_rfl) (by kernel_rfl) (by kernel_rfl) (fun _ _ _ h => h) (by rfl) ?hk39 ?_
  case hk39 => (intro W hSW; go_simp; try with_reducible rfl)
  (try simp only [Act.put, List.setIfInBounds_toArray, List.set_cons_zero, List.set_cons_succ])
  refine RL.stepK (i := 13) rfl (by kernel_rfl) (by rfl) (fun va hlva hsva K hK => ?_)
  refine store_blk_op 57 _ _ rfl pb (u64s ((xb).l ++ (zb).l)) (u64s q.l) 57 rfl rfl (row_blk ((RQ.out.below (Below.drew (Below.refl _ _)) RQ.out.lt).below hlva (by have := RQ.out.lt; simpa using this))) (by kernel_rfl) rfl (u64s_one _) ?_
  intro Y hY hgY
  have hsY : Sp.Upd Y5 Y [pa, pb] := Sp.Upd.trans hsva (Sp.Upd.of_grown1 hgY) (fun k hk => .inl (by simp at hk; simp [hk]))
  have hother := row_other ((RP.out.below (Below.drew (Below.refl _ _)) RP.out.lt).below hlva (by have := RP.out.lt; simpa using this)) hgY (fun e => HNE.out e.symm)
  refine hK.out _ _ hsY ?_
  clear hK
  (try simp only [Act.put, List.setIfInBounds_toArray, List.set_cons_zero, List.set_cons_succ])
  refine RL.done (by kernel_rfl) (fun Y6 hlY6 hsY6 => ?_)
  have RQ := Lib.hid (show Row Y6 pb 57 (P.mk (xb) (zb)).l from Row.below hY hlY6 hY.lt)
  have RP := Lib.hid (Row.below hother hlY6 hother.lt)
  have HV := Lib.hid hsY6
  clear hother hsY hY hgY hlva hsva hlY6 hsY6
  have Rb8 := Lib.hid (upd_row HV.out Rb8.out (by simp; exact Nb8.out))
  have Rb9 := Lib.hid (upd_row HV.out Rb9.out (by simp; exact Nb9.out))
  have Rb10 := Lib.hid (upd_row HV.out Rb10.out (by simp; exact Nb10.out))
  have HU1 := Lib.hid (Sp.Upd.trans (Sp.Upd.trans (Sp.Upd.refl w [pa, pb]) (Sp.Upd.of_below HU.out) (by simp)) HV.out (fun k hk => .inl hk))
  clear HV HU
  go_upto_region 7 with fail
  refine RL.start (fun W => Sp.Upd Y6 W [pa, pb]) (by kernel_rfl) (Sp.Upd.trans (Sp.Upd.refl _ _) (Sp.Upd.of_below (Below.drew (Below.refl _ _))) (by simp)) ?_
  refine' RL.takeV (i := 0) (v := _) rfl (by kernel_rfl) (by kernel_rfl) (by kernel_rfl) (fun _ _ _ h => h) (by rfl) ?hk40 ?_
  case hk40 => (intro W hSW; go_simp; try with_reducible rfl)
  (try simp only [Act.put, List.setIfInBounds_toArray, List.set_cons_zero, List.set_cons_succ])
  refine RL.takeV (i := 1) (v := .agg (u64s (v8).l)) rfl (by kernel_rfl) (by kernel_rfl) (by kernel_rfl) (fun _ _ _ h => h) (by rfl) (fun W hSW => run_at 53 _ rfl b8 0 rfl (u64s (v8).l) (el_at (upd_row hSW Rb8.out (by simp; exact Nb8.out))) Tryz.underlying53 rfl (by kernel_rfl)) ?_
  (try simp only [Act.put, List.setIfInBounds_toArray, List.set_cons_zero, List.set_cons_succ])
  refine RL.takeV (i := 2) (v := .agg (u64s (v9).l)) rfl (by kernel_rfl) (by kernel_rfl) (by kernel_rfl) (fun _ _ _ h => h) (by rfl) (fun W hSW => run_at 53 _ rfl b9 0 rfl (u64s (v9).l) (el_at (upd_row hSW Rb9.out (by simp; exact Nb9.out))) Tryz.underlying53 rfl (by kernel_rfl)) ?_
  (try simp only [Act.put, List.setIfInBounds_toArray, List.set_cons_zero, List.set_cons_succ])
  refine' RL.takeC (i := 3) (v := .agg (u64s (xa).l)) 24 #[.agg (u64s v8.l), .agg (u64s v9.l)] rfl (by kernel_rfl) (by kernel_rfl) (by kernel_rfl) (fun _ _ _ h => h) (by rfl) ?hk41 ?hc41 ?_
  case hk41 => (intro W; go_simp; try with_reducible rfl)
  case hc41 => (intro W hSW; exact (Cxa.out W).mono (fun e w9 h9 => ⟨h9.1, h9.2, Sp.Upd.trans hSW (Sp.Upd.of_below h9.2) (by simp)⟩))
  (try simp only [Act.put, List.setIfInBounds_toArray, List.set_cons_zero, List.set_cons_succ])
  refine RL.takeV (i := 4) (v := .agg (u64s (v10).l)) rfl (by kernel_rfl) (by kernel_rfl) (by kernel_rfl) (fun _ _ _ h => h) (by rfl) (fun W hSW => run_at 53 _ rfl b10 0 rfl (u64s (v10).l) (el_at (upd_row hSW Rb10.out (by simp; exact Nb10.out))) Tryz.underlying53 rfl (by kernel_rfl)) ?_
  (try simp only [Act.put, List.setIfInBounds_toArray, List.set_cons_zero, List.set_cons_succ])
  refine RL.takeV (i := 5) (v := .agg (u64s (v8).l)) rfl (by kernel_rfl) (by kernel_rfl) (by kernel_rfl) (fun _ _ _ h => h) (by rfl) (fun W hSW => run_at 53 _ rfl b8 0 rfl (u64s (v8).l) (el_at (upd_row hSW Rb8.out (by simp; exact Nb8.out))) Tryz.underlying53 rfl (by kernel_rfl)) ?_
  (try simp only [Act.put, List.setIfInBounds_toArray, List.set_cons_zero, List.set_cons_succ])
  refine' RL.takeC (i := 6) (v := .agg (u64s (m1).l)) 21 #[.int .u64 121665] rfl (by kernel_rfl) (by kernel_rfl) (by kernel_rfl) (fun _ _ _ h => h) (by rfl) ?hk42 ?hc42 ?_
  case hk42 => (intro W; go_simp; try with_reducible rfl)
  case hc42 => (intro W hSW; exact (Cm1.out W).mono (fun e w9 h9 => ⟨h9.1, h9.2, Sp.Upd.trans hSW (Sp.Upd.of_below h9.2) (by simp)⟩))
  (try simp only [Act.put, List.setIfInBounds_toArray, List.set_cons_zero, List.set_cons_succ])
  refine RL.takeV (i := 7) (v := .agg (u64s (v10).l)) rfl (by kernel_rfl) (by kernel_rfl) (by kernel_rfl) (fun _ _ _ h => h) (by rfl) (fun W hSW => run_at 53 _ rfl b10 0 rfl (u64s (v10).l) (el_at (upd_row hSW Rb10.out (by simp; exact Nb10.out))) Tryz.underlying53 rfl (by kernel_rfl)) ?_
  (try simp only [Act.put, List.setIfInBounds_toArray, List.set_cons_zero, List.set_cons_succ])
  refine' RL.takeC (i := 8) (v := .agg (u64s (se).l)) 24 #[.agg (u64s m1.l), .agg (u64s v10.l)] rfl (by kernel_rfl) (by kernel_rfl) (by kernel_rfl) (fun _ _ _ h => h) (by rfl) ?hk43 ?hc43 ?_
  case hk43 => (intro W; go_simp; try with_reducible rfl)
  case hc43 => (intro W hSW; exact (Cse.out W).mono (fun e w9 h9 => ⟨h9.1, h9.2, Sp.Upd.trans hSW (Sp.Upd.of_below h9.2) (by simp)⟩))
  (try simp only [Act.put, List.setIfInBounds_toArray, List.set_cons_zero, List.set_cons_succ])
  refine' RL.takeC (i := 9) (v := .agg (u64s (ae).l)) 40 #[.agg (u64s v8.l), .agg (u64s se.l)] rfl (by kernel_rfl) (by kernel_rfl) (by kernel_rfl) (fun _ _ _ h => h) (by rfl) ?hk44 ?hc44 ?_
  case hk44 => (intro W; go_simp; try with_reducible rfl)
  case hc44 => (intro W hSW; exact (Cae.out W).mono (fun e w9 h9 => ⟨h9.1, h9.2, Sp.Upd.trans hSW (Sp.Upd.of_below h9.2) (by simp)⟩))
  (try simp only [Act.put, List.setIfInBounds_toArray, List.set_cons_zero, List.set_cons_succ])
  refine' RL.takeC (i := 10) (v := .agg (u64s (za).l)) 24 #[.agg (u64s v10.l), .agg (u64s ae.l)] rfl (by kernel_rfl) (by kernel_rfl) (by kernel_rfl) (fun _ _ _ h => h) (by rfl) ?hk45 ?hc45 ?_
  case hk45 => (intro W; go_simp; try with_reducible rfl)
  case hc45 => (intro W hSW; exact (Cza.out W).mono (fun e w9 h9 => ⟨h9.1, h9.2, Sp.Upd.trans hSW (Sp.Upd.of_below h9.2) (by simp)⟩))
  (try simp only [Act.put, List.setIfInBounds_toArray, List.set_cons_zero, List.set_cons_succ])
  refine RL.takeV (i := 11) (v := .agg (u64s ((xa).l ++ (za).l))) rfl (by kernel_rfl) (by kernel_rfl) (by kernel_rfl) (fun _ _ _ h => h) (by rfl) (fun W hSW => run_build_op 57 _ rfl #[(0, .agg (u64s (xa).l)), (1, .agg (u64s (za).l))] (by go_simp) _ (built_pt _ _)) ?_
  (try simp only [Act.put, List.setIfInBounds_toArray, List.set_cons_zero, List.set_cons_succ])
  refine' RL.takeV (i := 12) (v := _) rfl (by kernel_rfl) (by kernel_rfl) (by kernel_rfl) (fun _ _ _ h => h) (by rfl) ?hk46 ?_
  case hk46 => (intro W hSW; go_simp; try with_reducible rfl)
  (try simp only [Act.put, List.setIfInBounds_toArray, List.set_cons_zero, List.set_cons_succ])
  refine RL.stepK (i := 13) rfl (by kernel_rfl) (by rfl) (fun va hlva hsva K hK => ?_)
  refine store_blk_op 57 _ _ rfl pa (u64s ((xa).l ++ (za).l)) (u64s p.l) 57 rfl rfl (row_blk ((RP.out.below (Below.drew (Below.refl _ _)) RP.out.lt).below hlva (by have := RP.out.lt; simpa using this))) (by kernel_rfl) rfl (u64s_one _) ?_
  intro Y hY hgY
  have hsY : Sp.Upd Y6 Y [pa, pb] := Sp.Upd.trans hsva (Sp.Upd.of_grown1 hgY) (fun k hk => .inl (by simp at hk; simp [hk]))
  have hother := row_other ((RQ.out.below (Below.drew (Below.refl _ _)) RQ.out.lt).below hlva (by have := RQ.out.lt; simpa using this)) hgY HNE.out
  refine hK.out _ _ hsY ?_
  clear hK
  (try simp only [Act.put, List.setIfInBounds_toArray, List.set_cons_zero, List.set_cons_succ])
  refine RL.done (by kernel_rfl) (fun Y7 hlY7 hsY7 => ?_)
  have RP := Lib.hid (show Row Y7 pa 57 (P.mk (xa) (za)).l from Row.below hY hlY7 hY.lt)
  have RQ := Lib.hid (Row.below hother hlY7 hother.lt)
  have HV := Lib.hid hsY7
  clear hother hsY hY hgY hlva hsva hlY7 hsY7
  go_wp2_with fail
  go_end0
  exact ⟨⟨_, rfl⟩, RP.out, RQ.out, Sp.Upd.trans HU1.out HV.out (fun k hk => .inl hk)⟩
end Go.Proofs.YtfaeigbfnjkojaaGreatDoor.Kx
