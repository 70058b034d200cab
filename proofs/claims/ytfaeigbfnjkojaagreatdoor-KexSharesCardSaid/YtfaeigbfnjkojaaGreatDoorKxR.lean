/- The curve's swap. -/
import Derived.Test.YtfaeigbfnjkojaaGreatDoorKxQ
set_option linter.unusedVariables false
set_option linter.unusedSimpArgs false
namespace Go.Proofs.YtfaeigbfnjkojaaGreatDoor.Kx
open Go.RowKit Go.Proofs.YtfaeigbfnjkojaaGreatDoor.Cl
theorem el_at {w : World} {b T : Nat} {x : E} (h : Row w b T x.l) : ∀ j v, (u64s x.l)[j]? = some v → w.cell? ⟨b, 0 + j, none⟩ = some v := fun j v hv => by
  rw [Nat.zero_add]; exact Rg.Blk.cell (row_blk h) j hv
theorem pt_at {w : World} {b T : Nat} {l : List Nat} (h : Row w b T l) : ∀ j v, (u64s l)[j]? = some v → w.cell? ⟨b, 0 + j, none⟩ = some v := fun j v hv => by
  rw [Nat.zero_add]; exact Rg.Blk.cell (row_blk h) j hv
theorem run_build_op {P : Program} {o : Oper} {a : Act} {w : World} (t : TypeId) (parts : Array (Nat × Operand)) (ho : o.op = .build t parts) (vals : Array (Nat × Value)) (hv : (parts.map fun (x : Nat × Operand) => (x.1, a.eval x.2)) = vals) (cells : Array Value) (h : P.built t vals.toList = some cells) : (execOp a.eval o).run P w = .ok (.value (.agg cells)) w := by
  have hr := run_build w t vals cells h
  rw [← hv] at hr
  unfold execOp
  simp only [ho, Sem.run_bind, Sem.run_map, Sem.run_pure]
  simp [hr]
theorem built_pt (x z : E) : Tryz.prog.built 57 [(0, .agg (u64s x.l)), (1, .agg (u64s z.l))] = some (u64s (x.l ++ z.l)) := by
  cases x; cases z; kernel_rfl
theorem store_blk_op {P : Program} {o : Oper} {a : Act} {w : World} {K : Act → World → Prop} {Q : Exit → Act → World → Prop} (ty : TypeId) (x y : Operand) (ho : o.op = .store ty x y)
    (b : Nat) (cs old : Array Value) (T : TypeId) (hx : a.eval x = .pointer (some ⟨b, 0, none⟩)) (hy : a.eval y = .agg cs) (hB : Rg.Blk w b T old)
    (hi : (P.info? ty).map (·.size) = some cs.size) (hold : old.size = cs.size) (h1 : cs.all (·.oneCell') = true)
    (h : ∀ X, Rg.Blk X b T cs → w.grownBy X (some b) → K (a.put o.dst undef) X) : Oper.wp P o a w K Q :=
  wp_store_row ty x y ho b cs hx hy T old hB hi hold h1 (h _ hB.setRow ⟨rfl, rfl, rfl, by simp, fun k _ hk => setRow_other w b k cs (fun e => hk (congrArg some e))⟩)
theorem aft_row {X W : World} {b T : Nat} {l : List Nat} (h : RL.Aft X W) (hr : Row X b T l) : Row W b T l := hr.below h hr.lt
theorem upd_row {X W : World} {s : List Nat} {b T : Nat} {l : List Nat} (h : Sp.Upd X W s) (hr : Row X b T l) (hb : b ∉ s) : Row W b T l := by
  have hl := hr.lt
  unfold Row at *
  rw [h.block b hl hb]; exact hr
set_option maxRecDepth 20000 in
set_option maxHeartbeats 2000000 in
theorem swap_any (w : World) (f : Bool) (pa pb : Nat) (p q : P) (hp : Row w pa 57 p.l) (hq : Row w pb 57 q.l) (hne : pa ≠ pb) :
    Calls Tryz.prog 22 #[.bool f, .pointer (some ⟨pa, 0, none⟩), .pointer (some ⟨pb, 0, none⟩)] w fun e w' => (∃ v, e = .returned v) ∧ Row w' pa 57 (if f = true then q else p).l ∧ Row w' pb 57 (if f = true then p else q).l ∧ Sp.Upd w w' [pa, pb] := by
  obtain ⟨r, hr⟩ : ∃ r : P, (if f = true then q else p) = r := ⟨_, rfl⟩
  obtain ⟨s, hs⟩ : ∃ s : P, (if f = true then p else q) = s := ⟨_, rfl⟩
  have HCr := Lib.hid (show (∀ W : World, Calls Tryz.prog 39 #[.bool f, .agg (u64s q.x.l), .agg (u64s p.x.l)] W fun e w' => e = .returned (.agg (u64s r.x.l)) ∧ Below W.heap.size W w') ∧ (∀ W : World, Calls Tryz.prog 39 #[.bool f, .agg (u64s q.z.l), .agg (u64s p.z.l)] W fun e w' => e = .returned (.agg (u64s r.z.l)) ∧ Below W.heap.size W w') from ⟨fun W => by
    have := Choose_any W f q.x p.x
    rwa [show (if f = true then q.x else p.x) = r.x by rw [← hr]; cases f <;> rfl] at this, fun W => by
    have := Choose_any W f q.z p.z
    rwa [show (if f = true then q.z else p.z) = r.z by rw [← hr]; cases f <;> rfl] at this⟩)
  have HCs := Lib.hid (show (∀ W : World, Calls Tryz.prog 39 #[.bool f, .agg (u64s p.x.l), .agg (u64s q.x.l)] W fun e w' => e = .returned (.agg (u64s s.x.l)) ∧ Below W.heap.size W w') ∧ (∀ W : World, Calls Tryz.prog 39 #[.bool f, .agg (u64s p.z.l), .agg (u64s q.z.l)] W fun e w' => e = .returned (.agg (u64s s.z.l)) ∧ Below W.heap.size W w') from ⟨fun W => by
    have := Choose_any W f p.x q.x
    rwa [show (if f = true then p.x else q.x) = s.x by rw [← hs]; cases f <;> rfl] at this, fun W => by
    have := Choose_any W f p.z q.z
    rwa [show (if f = true then p.z else q.z) = s.z by rw [← hs]; cases f <;> rfl] at this⟩)
  rw [hr, hs]
  clear hr hs
  have HP := Lib.hid hp
  have HQ := Lib.hid hq
  have HNE := Lib.hid hne
  clear hp hq hne
  go_enter Tryz.func22, Tryz.ntmps22
  go_upto_region 0 with fail
  refine RL.start (RL.Aft w) (by kernel_rfl) (RL.Aft.drew (RL.Aft.refl w)) ?_
  refine' RL.takeV (i := 0) (v := _) rfl (by kernel_rfl) (by kernel_rfl) (by kernel_rfl) (fun _ _ _ h => h) (by rfl) ?hk1 ?_
  case hk1 => (intro W hSW; go_simp; try with_reducible rfl)
  (try simp only [Act.put, List.setIfInBounds_toArray, List.set_cons_zero, List.set_cons_succ])
  refine' RL.takeV (i := 1) (v := _) rfl (by kernel_rfl) (by kernel_rfl) (by kernel_rfl) (fun _ _ _ h => h) (by rfl) ?hk2 ?_
  case hk2 => (intro W hSW; go_simp; try with_reducible rfl)
  (try simp only [Act.put, List.setIfInBounds_toArray, List.set_cons_zero, List.set_cons_succ])
  refine' RL.takeV (i := 2) (v := _) rfl (by kernel_rfl) (by kernel_rfl) (by kernel_rfl) (fun _ _ _ h => h) (by rfl) ?hk3 ?_
  case hk3 => (intro W hSW; go_simp; try with_reducible rfl)
  (try simp only [Act.put, List.setIfInBounds_toArray, List.set_cons_zero, List.set_cons_succ])
  refine' RL.takeV (i := 3) (v := _) rfl (by kernel_rfl) (by kernel_rfl) (by kernel_rfl) (fun _ _ _ h => h) (by rfl) ?hk4 ?_
  case hk4 => (intro W hSW; go_simp; try with_reducible rfl)
  (try simp only [Act.put, List.setIfInBounds_toArray, List.set_cons_zero, List.set_cons_succ])
  refine RL.takeV (i := 4) (v := .agg (u64s q.x.l)) rfl (by kernel_rfl) (by kernel_rfl) (by kernel_rfl) (fun _ _ _ h => h) (by rfl) (fun W hSW => run_at 53 _ rfl pb 0 rfl (u64s q.x.l) (pt_x (aft_row hSW HQ.out)) Tryz.underlying53 rfl (by kernel_rfl)) ?_
  (try simp only [Act.put, List.setIfInBounds_toArray, List.set_cons_zero, List.set_cons_succ])
  refine' RL.takeV (i := 5) (v := _) rfl (by kernel_rfl) (by kernel_rfl) (by kernel_rfl) (fun _ _ _ h => h) (by rfl) ?hk5 ?_
  case hk5 => (intro W hSW; go_simp; try with_reducible rfl)
  (try simp only [Act.put, List.setIfInBounds_toArray, List.set_cons_zero, List.set_cons_succ])
  refine' RL.takeV (i := 6) (v := _) rfl (by kernel_rfl) (by kernel_rfl) (by kernel_rfl) (fun _ _ _ h => h) (by rfl) ?hk6 ?_
  case hk6 => (intro W hSW; go_simp; try with_reducible rfl)
  (try simp only [Act.put, List.setIfInBounds_toArray, List.set_cons_zero, List.set_cons_succ])
  refine' RL.takeV (i := 7) (v := _) rfl (by kernel_rfl) (by kernel_rfl) (by kernel_rfl) (fun _ _ _ h => h) (by rfl) ?hk7 ?_
  case hk7 => (intro W hSW; go_simp; try with_reducible rfl)
  (try simp only [Act.put, List.setIfInBounds_toArray, List.set_cons_zero, List.set_cons_succ])
  refine RL.takeV (i := 8) (v := .agg (u64s p.x.l)) rfl (by kernel_rfl) (by kernel_rfl) (by kernel_rfl) (fun _ _ _ h => h) (by rfl) (fun W hSW => run_at 53 _ rfl pa 0 rfl (u64s p.x.l) (pt_x (aft_row hSW HP.out)) Tryz.underlying53 rfl (by kernel_rfl)) ?_
  (try simp only [Act.put, List.setIfInBounds_toArray, List.set_cons_zero, List.set_cons_succ])
  refine' RL.takeC (i := 9) (v := .agg (u64s (r.x).l)) 39 #[.bool f, .agg (u64s q.x.l), .agg (u64s p.x.l)] rfl (by kernel_rfl) (by kernel_rfl) (by kernel_rfl) (fun _ _ _ h => h) (by rfl) ?hk8 ?hc8 ?_
  case hk8 => (intro W; go_simp; try with_reducible rfl)
  case hc8 => (intro W hSW; exact (HCr.out.1 W).mono (fun e w9 h9 => ⟨h9.1, h9.2, RL.Aft.lat hSW h9.2⟩))
  (try simp only [Act.put, List.setIfInBounds_toArray, List.set_cons_zero, List.set_cons_succ])
  refine' RL.takeV (i := 10) (v := _) rfl (by kernel_rfl) (by kernel_rfl) (by kernel_rfl) (fun _ _ _ h => h) (by rfl) ?hk9 ?_
  case hk9 => (intro W hSW; go_simp; try with_reducible rfl)
  (try simp only [Act.put, List.setIfInBounds_toArray, List.set_cons_zero, List.set_cons_succ])
  refine' RL.takeV (i := 11) (v := _) rfl (by kernel_rfl) (by kernel_rfl) (by kernel_rfl) (fun _ _ _ h => h) (by rfl) ?hk10 ?_
  case hk10 => (intro W hSW; go_simp; try with_reducible rfl)
  (try simp only [Act.put, List.setIfInBounds_toArray, List.set_cons_zero, List.set_cons_succ])
  refine' RL.takeV (i := 12) (v := _) rfl (by kernel_rfl) (by kernel_rfl) (by kernel_rfl) (fun _ _ _ h => h) (by rfl) ?hk11 ?_
  case hk11 => (intro W hSW; go_simp; try with_reducible rfl)
  (try simp only [Act.put, List.setIfInBounds_toArray, List.set_cons_zero, List.set_cons_succ])
  refine' RL.takeV (i := 13) (v := _) rfl (by kernel_rfl) (by kernel_rfl) (by kernel_rfl) (fun _ _ _ h => h) (by rfl) ?hk12 ?_
  case hk12 => (intro W hSW; go_simp; try with_reducible rfl)
  (try simp only [Act.put, List.setIfInBounds_toArray, List.set_cons_zero, List.set_cons_succ])
  refine RL.takeV (i := 14) (v := .agg (u64s q.z.l)) rfl (by kernel_rfl) (by kernel_rfl) (by kernel_rfl) (fun _ _ _ h => h) (by rfl) (fun W hSW => run_at 53 _ rfl pb 5 rfl (u64s q.z.l) (pt_z (aft_row hSW HQ.out)) Tryz.underlying53 rfl (by kernel_rfl)) ?_
  (try simp only [Act.put, List.setIfInBounds_toArray, List.set_cons_zero, List.set_cons_succ])
  refine' RL.takeV (i := 15) (v := _) rfl (by kernel_rfl) (by kernel_rfl) (by kernel_rfl) (fun _ _ _ h => h) (by rfl) ?hk13 ?_
  case hk13 => (intro W hSW; go_simp; try with_reducible rfl)
  (try simp only [Act.put, List.setIfInBounds_toArray, List.set_cons_zero, List.set_cons_succ])
  refine' RL.takeV (i := 16) (v := _) rfl (by kernel_rfl) (by kernel_rfl) (by kernel_rfl) (fun _ _ _ h => h) (by rfl) ?hk14 ?_
  case hk14 => (intro W hSW; go_simp; try with_reducible rfl)
  (try simp only [Act.put, List.setIfInBounds_toArray, List.set_cons_zero, List.set_cons_succ])
  refine' RL.takeV (i := 17) (v := _) rfl (by kernel_rfl) (by kernel_rfl) (by kernel_rfl) (fun _ _ _ h => h) (by rfl) ?hk15 ?_
  case hk15 => (intro W hSW; go_simp; try with_reducible rfl)
  (try simp only [Act.put, List.setIfInBounds_toArray, List.set_cons_zero, List.set_cons_succ])
  refine RL.takeV (i := 18) (v := .agg (u64s p.z.l)) rfl (by kernel_rfl) (by kernel_rfl) (by kernel_rfl) (fun _ _ _ h => h) (by rfl) (fun W hSW => run_at 53 _ rfl pa 5 rfl (u64s p.z.l) (pt_z (aft_row hSW HP.out)) Tryz.underlying53 rfl (by kernel_rfl)) ?_
  (try simp only [Act.put, List.setIfInBounds_toArray, List.set_cons_zero, List.set_cons_succ])
  refine' RL.takeC (i := 19) (v := .agg (u64s (r.z).l)) 39 #[.bool f, .agg (u64s q.z.l), .agg (u64s p.z.l)] rfl (by kernel_rfl) (by kernel_rfl) (by kernel_rfl) (fun _ _ _ h => h) (by rfl) ?hk16 ?hc16 ?_
  case hk16 => (intro W; go_simp; try with_reducible rfl)
  case hc16 => (intro W hSW; exact (HCr.out.2 W).mono (fun e w9 h9 => ⟨h9.1, h9.2, RL.Aft.lat hSW h9.2⟩))
  (try simp only [Act.put, List.setIfInBounds_toArray, List.set_cons_zero, List.set_cons_succ])
  refine RL.takeV (i := 20) (v := .agg (u64s ((r.x).l ++ (r.z).l))) rfl (by kernel_rfl) (by kernel_rfl) (by kernel_rfl) (fun _ _ _ h => h) (by rfl) (fun W hSW => run_build_op 57 _ rfl #[(0, .agg (u64s (r.x).l)), (1, .agg (u64s (r.z).l))] (by go_simp) _ (built_pt _ _)) ?_
  (try simp only [Act.put, List.setIfInBounds_toArray, List.set_cons_zero, List.set_cons_succ])
  refine RL.stepK (i := 21) rfl (by kernel_rfl) (by rfl) (fun w0 hlw0 hsw0 K hK => ?_)
  go_simp
  obtain ⟨a0, ha0⟩ : ∃ n, w0.heap.size = n := ⟨_, rfl⟩
  have hZa0 := Rg.Blk.newAt ha0.symm (#[.int .u64 0, .int .u64 0, .int .u64 0, .int .u64 0, .int .u64 0, .int .u64 0, .int .u64 0, .int .u64 0, .int .u64 0, .int .u64 0] : Array Value) 57
  have Ha0 := Lib.hid (show w.heap.size ≤ a0 from ha0 ▸ Below.size hsw0)
  refine hK.out _ _ (RL.Aft.alloc hsw0 _) ?_
  try rw [ha0]
  clear hK
  (try simp only [Act.put, List.setIfInBounds_toArray, List.set_cons_zero, List.set_cons_succ])
  refine RL.stepK (i := 22) rfl (by kernel_rfl) (by rfl) (fun v0 hlv0 hsv0 K hK => ?_)
  refine store_blk_op 57 _ _ rfl a0 (u64s (r.x.l ++ r.z.l)) (#[.int .u64 0, .int .u64 0, .int .u64 0, .int .u64 0, .int .u64 0, .int .u64 0, .int .u64 0, .int .u64 0, .int .u64 0, .int .u64 0] : Array Value) 57 rfl rfl (hZa0.below hlv0 hZa0.lt) (by kernel_rfl) rfl (u64s_one _) ?_
  intro Y hY hgY
  refine hK.out _ _ (Below.grown hsv0 hgY (Below.size hsv0) (fun k hk => by cases hk; exact Ha0.out)) ?_
  clear hK
  (try simp only [Act.put, List.setIfInBounds_toArray, List.set_cons_zero, List.set_cons_succ])
  refine RL.done (by kernel_rfl) (fun X0 hlX0 hsX0 => ?_)
  have HA0 := Lib.hid (show RL.Aft w X0 from hsX0)
  have HR0 := Lib.hid (show Row X0 a0 57 r.l from hY.below hlX0 hY.lt)
  clear hsX0 hlX0 hY hgY hsv0 hlv0 hZa0 hsw0 hlw0 ha0
  have HP1 := Lib.hid (aft_row HA0.out HP.out)
  have HQ1 := Lib.hid (aft_row HA0.out HQ.out)
  have HN0 := Lib.hid (show ¬ a0 = pa ∧ ¬ a0 = pb from by have h1 := HP.out.lt; have h2 := HQ.out.lt; have h3 := Ha0.out; omega)
  go_upto_region 1 with fail
  refine RL.start (RL.Aft X0) (by kernel_rfl) (RL.Aft.drew (RL.Aft.refl X0)) ?_
  refine' RL.takeV (i := 0) (v := _) rfl (by kernel_rfl) (by kernel_rfl) (by kernel_rfl) (fun _ _ _ h => h) (by rfl) ?hk17 ?_
  case hk17 => (intro W hSW; go_simp; try with_reducible rfl)
  (try simp only [Act.put, List.setIfInBounds_toArray, List.set_cons_zero, List.set_cons_succ])
  refine' RL.takeV (i := 1) (v := _) rfl (by kernel_rfl) (by kernel_rfl) (by kernel_rfl) (fun _ _ _ h => h) (by rfl) ?hk18 ?_
  case hk18 => (intro W hSW; go_simp; try with_reducible rfl)
  (try simp only [Act.put, List.setIfInBounds_toArray, List.set_cons_zero, List.set_cons_succ])
  refine' RL.takeV (i := 2) (v := _) rfl (by kernel_rfl) (by kernel_rfl) (by kernel_rfl) (fun _ _ _ h => h) (by rfl) ?hk19 ?_
  case hk19 => (intro W hSW; go_simp; try with_reducible rfl)
  (try simp only [Act.put, List.setIfInBounds_toArray, List.set_cons_zero, List.set_cons_succ])
  refine' RL.takeV (i := 3) (v := _) rfl (by kernel_rfl) (by kernel_rfl) (by kernel_rfl) (fun _ _ _ h => h) (by rfl) ?hk20 ?_
  case hk20 => (intro W hSW; go_simp; try with_reducible rfl)
  (try simp only [Act.put, List.setIfInBounds_toArray, List.set_cons_zero, List.set_cons_succ])
  refine RL.takeV (i := 4) (v := .agg (u64s p.x.l)) rfl (by kernel_rfl) (by kernel_rfl) (by kernel_rfl) (fun _ _ _ h => h) (by rfl) (fun W hSW => run_at 53 _ rfl pa 0 rfl (u64s p.x.l) (pt_x (aft_row hSW HP1.out)) Tryz.underlying53 rfl (by kernel_rfl)) ?_
  (try simp only [Act.put, List.setIfInBounds_toArray, List.set_cons_zero, List.set_cons_succ])
  refine' RL.takeV (i := 5) (v := _) rfl (by kernel_rfl) (by kernel_rfl) (by kernel_rfl) (fun _ _ _ h => h) (by rfl) ?hk21 ?_
  case hk21 => (intro W hSW; go_simp; try with_reducible rfl)
  (try simp only [Act.put, List.setIfInBounds_toArray, List.set_cons_zero, List.set_cons_succ])
  refine' RL.takeV (i := 6) (v := _) rfl (by kernel_rfl) (by kernel_rfl) (by kernel_rfl) (fun _ _ _ h => h) (by rfl) ?hk22 ?_
  case hk22 => (intro W hSW; go_simp; try with_reducible rfl)
  (try simp only [Act.put, List.setIfInBounds_toArray, List.set_cons_zero, List.set_cons_succ])
  refine' RL.takeV (i := 7) (v := _) rfl (by kernel_rfl) (by kernel_rfl) (by kernel_rfl) (fun _ _ _ h => h) (by rfl) ?hk23 ?_
  case hk23 => (intro W hSW; go_simp; try with_reducible rfl)
  (try simp only [Act.put, List.setIfInBounds_toArray, List.set_cons_zero, List.set_cons_succ])
  refine RL.takeV (i := 8) (v := .agg (u64s q.x.l)) rfl (by kernel_rfl) (by kernel_rfl) (by kernel_rfl) (fun _ _ _ h => h) (by rfl) (fun W hSW => run_at 53 _ rfl pb 0 rfl (u64s q.x.l) (pt_x (aft_row hSW HQ1.out)) Tryz.underlying53 rfl (by kernel_rfl)) ?_
  (try simp only [Act.put, List.setIfInBounds_toArray, List.set_cons_zero, List.set_cons_succ])
  refine' RL.takeC (i := 9) (v := .agg (u64s (s.x).l)) 39 #[.bool f, .agg (u64s p.x.l), .agg (u64s q.x.l)] rfl (by kernel_rfl) (by kernel_rfl) (by kernel_rfl) (fun _ _ _ h => h) (by rfl) ?hk24 ?hc24 ?_
  case hk24 => (intro W; go_simp; try with_reducible rfl)
  case hc24 => (intro W hSW; exact (HCs.out.1 W).mono (fun e w9 h9 => ⟨h9.1, h9.2, RL.Aft.lat hSW h9.2⟩))
  (try simp only [Act.put, List.setIfInBounds_toArray, List.set_cons_zero, List.set_cons_succ])
  refine' RL.takeV (i := 10) (v := _) rfl (by kernel_rfl) (by kernel_rfl) (by kernel_rfl) (fun _ _ _ h => h) (by rfl) ?hk25 ?_
  case hk25 => (intro W hSW; go_simp; try with_reducible rfl)
  (try simp only [Act.put, List.setIfInBounds_toArray, List.set_cons_zero, List.set_cons_succ])
  refine' RL.takeV (i := 11) (v := _) rfl (by kernel_rfl) (by kernel_rfl) (by kernel_rfl) (fun _ _ _ h => h) (by rfl) ?hk26 ?_
  case hk26 => (intro W hSW; go_simp; try with_reducible rfl)
  (try simp only [Act.put, List.setIfInBounds_toArray, List.set_cons_zero, List.set_cons_succ])
  refine' RL.takeV (i := 12) (v := _) rfl (by kernel_rfl) (by kernel_rfl) (by kernel_rfl) (fun _ _ _ h => h) (by rfl) ?hk27 ?_
  case hk27 => (intro W hSW; go_simp; try with_reducible rfl)
  (try simp only [Act.put, List.setIfInBounds_toArray, List.set_cons_zero, List.set_cons_succ])
  refine' RL.takeV (i := 13) (v := _) rfl (by kernel_rfl) (by kernel_rfl) (by kernel_rfl) (fun _ _ _ h => h) (by rfl) ?hk28 ?_
  case hk28 => (intro W hSW; go_simp; try with_reducible rfl)
  (try simp only [Act.put, List.setIfInBounds_toArray, List.set_cons_zero, List.set_cons_succ])
  refine RL.takeV (i := 14) (v := .agg (u64s p.z.l)) rfl (by kernel_rfl) (by kernel_rfl) (by kernel_rfl) (fun _ _ _ h => h) (by rfl) (fun W hSW => run_at 53 _ rfl pa 5 rfl (u64s p.z.l) (pt_z (aft_row hSW HP1.out)) Tryz.underlying53 rfl (by kernel_rfl)) ?_
  (try simp only [Act.put, List.setIfInBounds_toArray, List.set_cons_zero, List.set_cons_succ])
  refine' RL.takeV (i := 15) (v := _) rfl (by kernel_rfl) (by kernel_rfl) (by kernel_rfl) (fun _ _ _ h => h) (by rfl) ?hk29 ?_
  case hk29 => (intro W hSW; go_simp; try with_reducible rfl)
  (try simp only [Act.put, List.setIfInBounds_toArray, List.set_cons_zero, List.set_cons_succ])
  refine' RL.takeV (i := 16) (v := _) rfl (by kernel_rfl) (by kernel_rfl) (by kernel_rfl) (fun _ _ _ h => h) (by rfl) ?hk30 ?_
  case hk30 => (intro W hSW; go_simp; try with_reducible rfl)
  (try simp only [Act.put, List.setIfInBounds_toArray, List.set_cons_zero, List.set_cons_succ])
  refine' RL.takeV (i := 17) (v := _) rfl (by kernel_rfl) (by kernel_rfl) (by kernel_rfl) (fun _ _ _ h => h) (by rfl) ?hk31 ?_
  case hk31 => (intro W hSW; go_simp; try with_reducible rfl)
  (try simp only [Act.put, List.setIfInBounds_toArray, List.set_cons_zero, List.set_cons_succ])
  refine RL.takeV (i := 18) (v := .agg (u64s q.z.l)) rfl (by kernel_rfl) (by kernel_rfl) (by kernel_rfl) (fun _ _ _ h => h) (by rfl) (fun W hSW => run_at 53 _ rfl pb 5 rfl (u64s q.z.l) (pt_z (aft_row hSW HQ1.out)) Tryz.underlying53 rfl (by kernel_rfl)) ?_
  (try simp only [Act.put, List.setIfInBounds_toArray, List.set_cons_zero, List.set_cons_succ])
  refine' RL.takeC (i := 19) (v := .agg (u64s (s.z).l)) 39 #[.bool f, .agg (u64s p.z.l), .agg (u64s q.z.l)] rfl (by kernel_rfl) (by kernel_rfl) (by kernel_rfl) (fun _ _ _ h => h) (by rfl) ?hk32 ?hc32 ?_
  case hk32 => (intro W; go_simp; try with_reducible rfl)
  case hc32 => (intro W hSW; exact (HCs.out.2 W).mono (fun e w9 h9 => ⟨h9.1, h9.2, RL.Aft.lat hSW h9.2⟩))
  (try simp only [Act.put, List.setIfInBounds_toArray, List.set_cons_zero, List.set_cons_succ])
  refine RL.takeV (i := 20) (v := .agg (u64s ((s.x).l ++ (s.z).l))) rfl (by kernel_rfl) (by kernel_rfl) (by kernel_rfl) (fun _ _ _ h => h) (by rfl) (fun W hSW => run_build_op 57 _ rfl #[(0, .agg (u64s (s.x).l)), (1, .agg (u64s (s.z).l))] (by go_simp) _ (built_pt _ _)) ?_
  (try simp only [Act.put, List.setIfInBounds_toArray, List.set_cons_zero, List.set_cons_succ])
  refine RL.stepK (i := 21) rfl (by kernel_rfl) (by rfl) (fun w1 hlw1 hsw1 K hK => ?_)
  go_simp
  obtain ⟨a1, ha1⟩ : ∃ n, w1.heap.size = n := ⟨_, rfl⟩
  have hZa1 := Rg.Blk.newAt ha1.symm (#[.int .u64 0, .int .u64 0, .int .u64 0, .int .u64 0, .int .u64 0, .int .u64 0, .int .u64 0, .int .u64 0, .int .u64 0, .int .u64 0] : Array Value) 57
  have Ha1 := Lib.hid (show X0.heap.size ≤ a1 from ha1 ▸ Below.size hsw1)
  refine hK.out _ _ (RL.Aft.alloc hsw1 _) ?_
  try rw [ha1]
  clear hK
  (try simp only [Act.put, List.setIfInBounds_toArray, List.set_cons_zero, List.set_cons_succ])
  refine RL.stepK (i := 22) rfl (by kernel_rfl) (by rfl) (fun v1 hlv1 hsv1 K hK => ?_)
  refine store_blk_op 57 _ _ rfl a1 (u64s (s.x.l ++ s.z.l)) (#[.int .u64 0, .int .u64 0, .int .u64 0, .int .u64 0, .int .u64 0, .int .u64 0, .int .u64 0, .int .u64 0, .int .u64 0, .int .u64 0] : Array Value) 57 rfl rfl (hZa1.below hlv1 hZa1.lt) (by kernel_rfl) rfl (u64s_one _) ?_
  intro Y hY hgY
  refine hK.out _ _ (Below.grown hsv1 hgY (Below.size hsv1) (fun k hk => by cases hk; exact Ha1.out)) ?_
  clear hK
  (try simp only [Act.put, List.setIfInBounds_toArray, List.set_cons_zero, List.set_cons_succ])
  refine RL.done (by kernel_rfl) (fun X1 hlX1 hsX1 => ?_)
  have HA1 := Lib.hid (show RL.Aft X0 X1 from hsX1)
  have HR1 := Lib.hid (show Row X1 a1 57 s.l from hY.below hlX1 hY.lt)
  clear hsX1 hlX1 hY hgY hsv1 hlv1 hZa1 hsw1 hlw1 ha1
  have HR0' := HR0
  have HN1 := Lib.hid (show ¬ a1 = pa ∧ ¬ a1 = pb from by have h1 := HP1.out.lt; have h2 := HQ1.out.lt; have h3 := Ha1.out; omega)
  have HU0 := Lib.hid (show Sp.Upd w X1 [] from Sp.Upd.of_below (Below.trans HA0.out (Below.mono HA1.out (Below.size HA0.out))))
  have HR0 := Lib.hid (aft_row HA1.out HR0'.out)
  have HP := Lib.hid (aft_row HA1.out HP1.out)
  have HQ := Lib.hid (aft_row HA1.out HQ1.out)
  clear HR0' HP1 HQ1
  go_upto_region 2 with fail
  refine RL.start (fun W => Sp.Upd X1 W [pa, pb]) (by kernel_rfl) (Sp.Upd.trans (Sp.Upd.refl _ _) (Sp.Upd.of_below (Below.drew (Below.refl _ _))) (by simp)) ?_
  refine' RL.takeV (i := 0) (v := _) rfl (by kernel_rfl) (by kernel_rfl) (by kernel_rfl) (fun _ _ _ h => h) (by rfl) ?hk33 ?_
  case hk33 => (intro W hSW; go_simp; try with_reducible rfl)
  (try simp only [Act.put, List.setIfInBounds_toArray, List.set_cons_zero, List.set_cons_succ])
  refine' RL.takeV (i := 1) (v := _) rfl (by kernel_rfl) (by kernel_rfl) (by kernel_rfl) (fun _ _ _ h => h) (by rfl) ?hk34 ?_
  case hk34 => (intro W hSW; go_simp; try with_reducible rfl)
  (try simp only [Act.put, List.setIfInBounds_toArray, List.set_cons_zero, List.set_cons_succ])
  refine RL.takeV (i := 2) (v := .agg (u64s r.l)) rfl (by kernel_rfl) (by kernel_rfl) (by kernel_rfl) (fun _ _ _ h => h) (by rfl) (fun W hSW => run_at 57 _ rfl a0 0 rfl (u64s r.l) (pt_at (upd_row hSW HR0.out (by simp; exact HN0.out))) Tryz.underlying57 rfl (by kernel_rfl)) ?_
  (try simp only [Act.put, List.setIfInBounds_toArray, List.set_cons_zero, List.set_cons_succ])
  refine RL.takeV (i := 3) (v := .agg (u64s s.l)) rfl (by kernel_rfl) (by kernel_rfl) (by kernel_rfl) (fun _ _ _ h => h) (by rfl) (fun W hSW => run_at 57 _ rfl a1 0 rfl (u64s s.l) (pt_at (upd_row hSW HR1.out (by simp; exact HN1.out))) Tryz.underlying57 rfl (by kernel_rfl)) ?_
  (try simp only [Act.put, List.setIfInBounds_toArray, List.set_cons_zero, List.set_cons_succ])
  refine' RL.takeV (i := 4) (v := _) rfl (by kernel_rfl) (by kernel_rfl) (by kernel_rfl) (fun _ _ _ h => h) (by rfl) ?hk35 ?_
  case hk35 => (intro W hSW; go_simp; try with_reducible rfl)
  (try simp only [Act.put, List.setIfInBounds_toArray, List.set_cons_zero, List.set_cons_succ])
  refine RL.stepK (i := 5) rfl (by kernel_rfl) (by rfl) (fun wa hlwa hswa K hK => ?_)
  refine store_blk_op 57 _ _ rfl pa (u64s r.l) (u64s p.l) 57 rfl rfl (row_blk ((HP.out.below (Below.drew (Below.refl _ _)) HP.out.lt).below hlwa (by have := HP.out.lt; simpa using this))) (by kernel_rfl) rfl (u64s_one _) ?_
  intro Y hY hgY
  have hsY : Sp.Upd X1 Y [pa, pb] := Sp.Upd.trans hswa (Sp.Upd.of_grown1 hgY) (fun k hk => .inl (by simp at hk; simp [hk]))
  refine hK.out _ _ hsY ?_
  clear hK
  (try simp only [Act.put, List.setIfInBounds_toArray, List.set_cons_zero, List.set_cons_succ])
  refine' RL.takeV (i := 6) (v := _) rfl (by kernel_rfl) (by kernel_rfl) (by kernel_rfl) (fun _ _ _ h => h) (by rfl) ?hk36 ?_
  case hk36 => (intro W hSW; go_simp; try with_reducible rfl)
  (try simp only [Act.put, List.setIfInBounds_toArray, List.set_cons_zero, List.set_cons_succ])
  refine RL.stepK (i := 7) rfl (by kernel_rfl) (by rfl) (fun wb hlwb hswb K hK => ?_)
  have hqY := ((row_other ((HQ.out.below (Below.drew (Below.refl _ _)) HQ.out.lt).below hlwa (by have := HQ.out.lt; simpa using this)) hgY HNE.out))
  refine store_blk_op 57 _ _ rfl pb (u64s s.l) (u64s q.l) 57 rfl rfl (row_blk (hqY.below hlwb hqY.lt)) (by kernel_rfl) rfl (u64s_one _) ?_
  intro Y2 hY2 hgY2
  have hsY2 : Sp.Upd X1 Y2 [pa, pb] := Sp.Upd.trans hswb (Sp.Upd.of_grown1 hgY2) (fun k hk => .inl (by simp at hk; simp [hk]))
  have hpY2 := row_other (Row.below hY hlwb hY.lt) hgY2 (fun e => HNE.out e.symm)
  refine hK.out _ _ hsY2 ?_
  clear hK
  (try simp only [Act.put, List.setIfInBounds_toArray, List.set_cons_zero, List.set_cons_succ])
  refine RL.done (by kernel_rfl) (fun wd hlwd hswd => ?_)
  have HRA := Lib.hid (show Row wd pa 57 r.l from Row.below hpY2 hlwd hpY2.lt)
  have HRB := Lib.hid (show Row wd pb 57 s.l from Row.below hY2 hlwd hY2.lt)
  have HUP := Lib.hid hswd
  clear hpY2 hsY2 hY2 hgY2 hqY hlwb hswb hsY hY hgY hlwa hswa hlwd hswd
  go_wp2_with fail
  go_end0
  exact ⟨⟨_, rfl⟩, HRA.out, HRB.out, Sp.Upd.trans (Sp.Upd.trans (Sp.Upd.refl w [pa, pb]) HU0.out (by simp)) HUP.out (fun k hk => .inl hk)⟩
end Go.Proofs.YtfaeigbfnjkojaaGreatDoor.Kx
