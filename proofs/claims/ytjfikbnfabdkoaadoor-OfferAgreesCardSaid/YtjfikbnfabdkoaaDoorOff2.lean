/- The reference's Skip. -/
import Derived.Test.YtjfikbnfabdkoaaDoorOff1
set_option linter.unusedVariables false
set_option linter.unusedSimpArgs false
namespace Go.Proofs.YtjfikbnfabdkoaaDoor.Of
open Go.RowKit Go.Proofs.YtjfikbnfabdkoaaDoor.Wi Go.Proofs.YtjfikbnfabdkoaaDoor.Ow Go.Proofs.YtjfikbnfabdkoaaDoor.Be Go.Proofs.YtjfikbnfabdkoaaDoor.Mg
theorem str_nebne {a b : ByteArray} (h : a ≠ b) : (a.toList != b.toList) = true := by
  rw [bne, str_ne h]; rfl
set_option maxRecDepth 20000 in
set_option maxHeartbeats 4000000 in
theorem RefSkip_a (w : World) (a b : Msg) (vu vs vn vb xu xs xn xb : Value) (ha : IsMsg w a vu vs vn vb) (hbm : IsMsg w b xu xs xn xb) (h1 : 0 < a.b.length) (h2 : 2 ≤ a.n.length) (h3 : 2 ≤ b.n.length) (hz : (∀ l ∈ a.n, ∀ x ∈ l, x.size ≤ 1000000) ∧ ∀ l ∈ b.n, ∀ x ∈ l, x.size ≤ 1000000) (hb : a.b.headD false = false) :
    Calls Tryd.prog 27 #[.agg (mC a.kind vu vs vn vb), .agg (mC b.kind xu xs xn xb)] w fun e w' => e = .returned (.bool false) ∧ Below w.heap.size w w' := by
  obtain ⟨pu, pnu, pcu, rfl, _⟩ := ha.u
  obtain ⟨ps, pns, pcs, rfl, _⟩ := ha.s
  obtain ⟨pvals, ⟨pn, pnn, pcn, rfl, pln, pR, ple, pmx⟩, pvl, pvn⟩ := ha.n
  obtain ⟨pb, pnb, pcb, rfl, plb, pRb, pbe, pbm⟩ := ha.b
  obtain ⟨qu, qnu, qcu, rfl, _⟩ := hbm.u
  obtain ⟨qs, qns, qcs, rfl, _⟩ := hbm.s
  obtain ⟨qvals, ⟨qn, qnn, qcn, rfl, qln, qR, qle, qmx⟩, qvl, qvn⟩ := hbm.n
  obtain ⟨qb, qnb, qcb, rfl, qlb, qRb, qbe, qbm⟩ := hbm.b
  obtain ⟨pk, hpk⟩ : ∃ pk, a.kind = pk := ⟨_, rfl⟩
  obtain ⟨qk, hqk⟩ : ∃ qk, b.kind = qk := ⟨_, rfl⟩
  rw [hpk, hqk]
  obtain ⟨bb, bo, rfl, hbl, hbc⟩ := headb pRb h1
  rw [hb] at hbc
  have gb : (0 : Int) < pnb := by have := plb; rw [List.length_map] at this; omega
  obtain ⟨b0, o0, B0, n0, c0, rfl, l0, k0, s0, _, _⟩ := nth_list pR pvn 0 (by omega)
  obtain ⟨b1, o1, B1, n1, c1, e1, l1, k1, s1, _, _⟩ := nth_list pR pvn 1 (by omega)
  cases e1
  obtain ⟨b2, o2, B2, n2, c2, rfl, l2, k2, s2, _, _⟩ := nth_list qR qvn 0 (by omega)
  obtain ⟨b3, o3, B3, n3, c3, e3, l3, k3, s3, _, _⟩ := nth_list qR qvn 1 (by omega)
  cases e3
  rw [Nat.add_zero] at k0 k2
  have gz : ∀ (m : Msg) (k : Nat), (∀ l ∈ m.n, ∀ x ∈ l, x.size ≤ 1000000) → k < m.n.length → ∀ x ∈ m.n.getD k [], x.size ≤ 1000000 := fun m k h hk x hx => h _ (by rw [List.getD, List.getElem?_eq_getElem hk]; exact List.getElem_mem hk) x hx
  obtain ⟨F0, hF0⟩ : ∃ F, frst (a.n.getD 0 []) = F := ⟨_, rfl⟩
  have HF0 := Lib.hid (show ∀ W, Below w.heap.size w W → Calls Tryd.prog 44 #[.slice B0 n0 c0] W fun e w' => e = .returned (.string F0) ∧ W = w' from fun W hW => by
    have := RefFirst_any W _ _ (s0.below hW) (gz a 0 hz.1 (by omega))
    rw [hF0] at this
    exact this)
  obtain ⟨F1, hF1⟩ : ∃ F, frst (a.n.getD 1 []) = F := ⟨_, rfl⟩
  have HF1 := Lib.hid (show ∀ W, Below w.heap.size w W → Calls Tryd.prog 44 #[.slice B1 n1 c1] W fun e w' => e = .returned (.string F1) ∧ W = w' from fun W hW => by
    have := RefFirst_any W _ _ (s1.below hW) (gz a 1 hz.1 (by omega))
    rw [hF1] at this
    exact this)
  obtain ⟨F2, hF2⟩ : ∃ F, frst (b.n.getD 0 []) = F := ⟨_, rfl⟩
  have HF2 := Lib.hid (show ∀ W, Below w.heap.size w W → Calls Tryd.prog 44 #[.slice B2 n2 c2] W fun e w' => e = .returned (.string F2) ∧ W = w' from fun W hW => by
    have := RefFirst_any W _ _ (s2.below hW) (gz b 0 hz.2 (by omega))
    rw [hF2] at this
    exact this)
  obtain ⟨F3, hF3⟩ : ∃ F, frst (b.n.getD 1 []) = F := ⟨_, rfl⟩
  have HF3 := Lib.hid (show ∀ W, Below w.heap.size w W → Calls Tryd.prog 44 #[.slice B3 n3 c3] W fun e w' => e = .returned (.string F3) ∧ W = w' from fun W hW => by
    have := RefFirst_any W _ _ (s3.below hW) (gz b 1 hz.2 (by omega))
    rw [hF3] at this
    exact this)
  have HK0 := Lib.hid (And.intro l0 k0)
  have HK1 := Lib.hid (And.intro l1 k1)
  have HK2 := Lib.hid (And.intro l2 k2)
  have HK3 := Lib.hid (And.intro l3 k3)
  have HKB := Lib.hid (And.intro hbl hbc)
  have hpb0 : 0 < pnb := by omega
  have hpn0 : 0 < pnn := by omega
  have hpn1 : 1 < pnn := by omega
  have hqn0 : 0 < qnn := by omega
  have hqn1 : 1 < qnn := by omega
  have gp0 : (0 : Int) < pnn := by omega
  have gp1 : (1 : Int) < pnn := by omega
  have gq0 : (0 : Int) < qnn := by omega
  have gq1 : (1 : Int) < qnn := by omega
  clear ha hbm plb h1 h2 h3 pR qR pvn qvn pln qln pvl qvl hpk hqk pRb qRb qlb ple qle pbe qbe pmx qmx pbm qbm hb hz gz l0 l1 l2 l3 k0 k1 k2 k3 s0 s1 s2 s3 hbl hbc hF0 hF1 hF2 hF3
  unfold mC
  go_enter Tryd.func27, Tryd.ntmps27
  go_upto_region 1 with (fail)
  refine wp_nameO (fun X hX => ?_)
  have HX1 := Lib.hid (show Rg.Blk X w.heap.size 36 #[.int .i64 pk, .slice pu pnu pcu, .slice ps pns pcs, .slice (some ⟨b0, o0, none⟩) pnn pcn, .slice (some ⟨bb, bo, none⟩) pnb pcb] by rw [hX]; exact (Rg.Blk.new w _ _).alloc _)
  have HX2 := Lib.hid (show Rg.Blk X (w.heap.size + 1) 36 #[.int .i64 qk, .slice qu qnu qcu, .slice qs qns qcs, .slice (some ⟨b2, o2, none⟩) qnn qcn, .slice qb qnb qcb] by rw [hX]; exact Rg.Blk.newAt (by simp) _ _)
  have HXW := Lib.hid (show Below w.heap.size w X by rw [hX]; exact ((Below.refl _ _).alloc (Nat.le_refl _) _).alloc (by simp) _)
  clear hX
  refine RL.start (RL.Aft X) (by kernel_rfl) (RL.Aft.drew (RL.Aft.refl X)) ?_
  refine' RL.takeV (i := 0) (v := _) rfl (by kernel_rfl) (by kernel_rfl) (by kernel_rfl) (fun _ _ _ h => h) (by rfl) ?hk29 ?_
  case hk29 => (intro W hSW; go_simp; try with_reducible rfl)
  (try simp only [Act.put, List.setIfInBounds_toArray, List.set_cons_zero, List.set_cons_succ])
  refine' RL.takeV (i := 1) (v := _) rfl (by kernel_rfl) (by kernel_rfl) (by kernel_rfl) (fun _ _ _ h => h) (by rfl) ?hk30 ?_
  case hk30 => (intro W hSW; have g := (HX1.out.below hSW HX1.out.lt).cell 4 (v := .slice (some ⟨bb, bo, none⟩) pnb pcb) rfl; go_simp; try with_reducible rfl)
  (try simp only [Act.put, List.setIfInBounds_toArray, List.set_cons_zero, List.set_cons_succ])
  refine' RL.takeV (i := 2) (v := _) rfl (by kernel_rfl) (by kernel_rfl) (by kernel_rfl) (fun _ _ _ h => h) (by rfl) ?hk31 ?_
  case hk31 => (intro W hSW; go_simp; try with_reducible rfl)
  (try simp only [Act.put, List.setIfInBounds_toArray, List.set_cons_zero, List.set_cons_succ])
  refine' RL.takeV (i := 3) (v := _) rfl (by kernel_rfl) (by kernel_rfl) (by kernel_rfl) (fun _ _ _ h => h) (by rfl) ?hk32 ?_
  case hk32 => (intro W hSW; have g : W.cell? ⟨bb, bo, none⟩ = some (.bool false) := ((HXW.out.trans (hSW.mono HXW.out.size)).cell (p := ⟨bb, bo, none⟩) HKB.out.1).trans HKB.out.2; go_simp; try with_reducible rfl)
  (try simp only [Act.put, List.setIfInBounds_toArray, List.set_cons_zero, List.set_cons_succ])
  refine' RL.takeV (i := 4) (v := _) rfl (by kernel_rfl) (by kernel_rfl) (by kernel_rfl) (fun _ _ _ h => h) (by rfl) ?hk33 ?_
  case hk33 => (intro W hSW; go_simp; try with_reducible rfl)
  (try simp only [Act.put, List.setIfInBounds_toArray, List.set_cons_zero, List.set_cons_succ])
  refine' RL.takeU (i := 5) rfl (by kernel_rfl) (by kernel_rfl) (by kernel_rfl) (fun _ _ _ h => h) (by rfl) ?_
  (try simp only [Act.put, List.setIfInBounds_toArray, List.set_cons_zero, List.set_cons_succ])
  refine' RL.takeU (i := 6) rfl (by kernel_rfl) (by kernel_rfl) (by kernel_rfl) (fun _ _ _ h => h) (by rfl) ?_
  (try simp only [Act.put, List.setIfInBounds_toArray, List.set_cons_zero, List.set_cons_succ])
  refine' RL.takeU (i := 7) rfl (by kernel_rfl) (by kernel_rfl) (by kernel_rfl) (fun _ _ _ h => h) (by rfl) ?_
  (try simp only [Act.put, List.setIfInBounds_toArray, List.set_cons_zero, List.set_cons_succ])
  refine' RL.takeU (i := 8) rfl (by kernel_rfl) (by kernel_rfl) (by kernel_rfl) (fun _ _ _ h => h) (by rfl) ?_
  (try simp only [Act.put, List.setIfInBounds_toArray, List.set_cons_zero, List.set_cons_succ])
  refine' RL.takeU (i := 9) rfl (by kernel_rfl) (by kernel_rfl) (by kernel_rfl) (fun _ _ _ h => h) (by rfl) ?_
  (try simp only [Act.put, List.setIfInBounds_toArray, List.set_cons_zero, List.set_cons_succ])
  refine' RL.takeU (i := 10) rfl (by kernel_rfl) (by kernel_rfl) (by kernel_rfl) (fun _ _ _ h => h) (by rfl) ?_
  (try simp only [Act.put, List.setIfInBounds_toArray, List.set_cons_zero, List.set_cons_succ])
  refine' RL.takeU (i := 11) rfl (by kernel_rfl) (by kernel_rfl) (by kernel_rfl) (fun _ _ _ h => h) (by rfl) ?_
  (try simp only [Act.put, List.setIfInBounds_toArray, List.set_cons_zero, List.set_cons_succ])
  refine' RL.takeU (i := 12) rfl (by kernel_rfl) (by kernel_rfl) (by kernel_rfl) (fun _ _ _ h => h) (by rfl) ?_
  (try simp only [Act.put, List.setIfInBounds_toArray, List.set_cons_zero, List.set_cons_succ])
  refine' RL.takeU (i := 13) rfl (by kernel_rfl) (by kernel_rfl) (by kernel_rfl) (fun _ _ _ h => h) (by rfl) ?_
  (try simp only [Act.put, List.setIfInBounds_toArray, List.set_cons_zero, List.set_cons_succ])
  refine' RL.takeU (i := 14) rfl (by kernel_rfl) (by kernel_rfl) (by kernel_rfl) (fun _ _ _ h => h) (by rfl) ?_
  (try simp only [Act.put, List.setIfInBounds_toArray, List.set_cons_zero, List.set_cons_succ])
  refine' RL.takeU (i := 15) rfl (by kernel_rfl) (by kernel_rfl) (by kernel_rfl) (fun _ _ _ h => h) (by rfl) ?_
  (try simp only [Act.put, List.setIfInBounds_toArray, List.set_cons_zero, List.set_cons_succ])
  refine' RL.takeU (i := 16) rfl (by kernel_rfl) (by kernel_rfl) (by kernel_rfl) (fun _ _ _ h => h) (by rfl) ?_
  (try simp only [Act.put, List.setIfInBounds_toArray, List.set_cons_zero, List.set_cons_succ])
  refine' RL.takeU (i := 17) rfl (by kernel_rfl) (by kernel_rfl) (by kernel_rfl) (fun _ _ _ h => h) (by rfl) ?_
  (try simp only [Act.put, List.setIfInBounds_toArray, List.set_cons_zero, List.set_cons_succ])
  refine' RL.takeU (i := 18) rfl (by kernel_rfl) (by kernel_rfl) (by kernel_rfl) (fun _ _ _ h => h) (by rfl) ?_
  (try simp only [Act.put, List.setIfInBounds_toArray, List.set_cons_zero, List.set_cons_succ])
  refine' RL.takeU (i := 19) rfl (by kernel_rfl) (by kernel_rfl) (by kernel_rfl) (fun _ _ _ h => h) (by rfl) ?_
  (try simp only [Act.put, List.setIfInBounds_toArray, List.set_cons_zero, List.set_cons_succ])
  refine' RL.takeU (i := 20) rfl (by kernel_rfl) (by kernel_rfl) (by kernel_rfl) (fun _ _ _ h => h) (by rfl) ?_
  (try simp only [Act.put, List.setIfInBounds_toArray, List.set_cons_zero, List.set_cons_succ])
  refine' RL.takeU (i := 21) rfl (by kernel_rfl) (by kernel_rfl) (by kernel_rfl) (fun _ _ _ h => h) (by rfl) ?_
  (try simp only [Act.put, List.setIfInBounds_toArray, List.set_cons_zero, List.set_cons_succ])
  refine' RL.takeU (i := 22) rfl (by kernel_rfl) (by kernel_rfl) (by kernel_rfl) (fun _ _ _ h => h) (by rfl) ?_
  (try simp only [Act.put, List.setIfInBounds_toArray, List.set_cons_zero, List.set_cons_succ])
  refine' RL.takeU (i := 23) rfl (by kernel_rfl) (by kernel_rfl) (by kernel_rfl) (fun _ _ _ h => h) (by rfl) ?_
  (try simp only [Act.put, List.setIfInBounds_toArray, List.set_cons_zero, List.set_cons_succ])
  refine' RL.takeU (i := 24) rfl (by kernel_rfl) (by kernel_rfl) (by kernel_rfl) (fun _ _ _ h => h) (by rfl) ?_
  (try simp only [Act.put, List.setIfInBounds_toArray, List.set_cons_zero, List.set_cons_succ])
  refine' RL.takeU (i := 25) rfl (by kernel_rfl) (by kernel_rfl) (by kernel_rfl) (fun _ _ _ h => h) (by rfl) ?_
  (try simp only [Act.put, List.setIfInBounds_toArray, List.set_cons_zero, List.set_cons_succ])
  refine' RL.takeU (i := 26) rfl (by kernel_rfl) (by kernel_rfl) (by kernel_rfl) (fun _ _ _ h => h) (by rfl) ?_
  (try simp only [Act.put, List.setIfInBounds_toArray, List.set_cons_zero, List.set_cons_succ])
  refine' RL.takeU (i := 27) rfl (by kernel_rfl) (by kernel_rfl) (by kernel_rfl) (fun _ _ _ h => h) (by rfl) ?_
  (try simp only [Act.put, List.setIfInBounds_toArray, List.set_cons_zero, List.set_cons_succ])
  refine' RL.takeU (i := 28) rfl (by kernel_rfl) (by kernel_rfl) (by kernel_rfl) (fun _ _ _ h => h) (by rfl) ?_
  (try simp only [Act.put, List.setIfInBounds_toArray, List.set_cons_zero, List.set_cons_succ])
  refine' RL.takeV (i := 29) (v := _) rfl (by kernel_rfl) (by kernel_rfl) (by kernel_rfl) (fun _ _ _ h => h) (by rfl) ?hk34 ?_
  case hk34 => (intro W hSW; go_simp; try with_reducible rfl)
  (try simp only [Act.put, List.setIfInBounds_toArray, List.set_cons_zero, List.set_cons_succ])
  refine' RL.takeV (i := 30) (v := _) rfl (by kernel_rfl) (by kernel_rfl) (by kernel_rfl) (fun _ _ _ h => h) (by rfl) ?hk35 ?_
  case hk35 => (intro W hSW; go_simp; try with_reducible rfl)
  (try simp only [Act.put, List.setIfInBounds_toArray, List.set_cons_zero, List.set_cons_succ])
  refine RL.done (by kernel_rfl) (fun wd hlwd hswd => ?_)
  have HD := Lib.hid (HXW.out.trans (Below.mono hswd HXW.out.size))
  clear hlwd hswd
  go_wp2_with fail
  go_ret
  exact ⟨rfl, HD.out⟩
set_option maxRecDepth 20000 in
set_option maxHeartbeats 4000000 in
theorem RefSkip_b (w : World) (a b : Msg) (vu vs vn vb xu xs xn xb : Value) (ha : IsMsg w a vu vs vn vb) (hbm : IsMsg w b xu xs xn xb) (h1 : 0 < a.b.length) (h2 : 2 ≤ a.n.length) (h3 : 2 ≤ b.n.length) (hz : (∀ l ∈ a.n, ∀ x ∈ l, x.size ≤ 1000000) ∧ ∀ l ∈ b.n, ∀ x ∈ l, x.size ≤ 1000000) (hb : a.b.headD false = true) (hn : frst (a.n.getD 0 []) ≠ frst (b.n.getD 0 [])) :
    Calls Tryd.prog 27 #[.agg (mC a.kind vu vs vn vb), .agg (mC b.kind xu xs xn xb)] w fun e w' => e = .returned (.bool true) ∧ Below w.heap.size w w' := by
  obtain ⟨pu, pnu, pcu, rfl, _⟩ := ha.u
  obtain ⟨ps, pns, pcs, rfl, _⟩ := ha.s
  obtain ⟨pvals, ⟨pn, pnn, pcn, rfl, pln, pR, ple, pmx⟩, pvl, pvn⟩ := ha.n
  obtain ⟨pb, pnb, pcb, rfl, plb, pRb, pbe, pbm⟩ := ha.b
  obtain ⟨qu, qnu, qcu, rfl, _⟩ := hbm.u
  obtain ⟨qs, qns, qcs, rfl, _⟩ := hbm.s
  obtain ⟨qvals, ⟨qn, qnn, qcn, rfl, qln, qR, qle, qmx⟩, qvl, qvn⟩ := hbm.n
  obtain ⟨qb, qnb, qcb, rfl, qlb, qRb, qbe, qbm⟩ := hbm.b
  obtain ⟨pk, hpk⟩ : ∃ pk, a.kind = pk := ⟨_, rfl⟩
  obtain ⟨qk, hqk⟩ : ∃ qk, b.kind = qk := ⟨_, rfl⟩
  rw [hpk, hqk]
  obtain ⟨bb, bo, rfl, hbl, hbc⟩ := headb pRb h1
  rw [hb] at hbc
  have gb : (0 : Int) < pnb := by have := plb; rw [List.length_map] at this; omega
  obtain ⟨b0, o0, B0, n0, c0, rfl, l0, k0, s0, _, _⟩ := nth_list pR pvn 0 (by omega)
  obtain ⟨b1, o1, B1, n1, c1, e1, l1, k1, s1, _, _⟩ := nth_list pR pvn 1 (by omega)
  cases e1
  obtain ⟨b2, o2, B2, n2, c2, rfl, l2, k2, s2, _, _⟩ := nth_list qR qvn 0 (by omega)
  obtain ⟨b3, o3, B3, n3, c3, e3, l3, k3, s3, _, _⟩ := nth_list qR qvn 1 (by omega)
  cases e3
  rw [Nat.add_zero] at k0 k2
  have gz : ∀ (m : Msg) (k : Nat), (∀ l ∈ m.n, ∀ x ∈ l, x.size ≤ 1000000) → k < m.n.length → ∀ x ∈ m.n.getD k [], x.size ≤ 1000000 := fun m k h hk x hx => h _ (by rw [List.getD, List.getElem?_eq_getElem hk]; exact List.getElem_mem hk) x hx
  obtain ⟨F0, hF0⟩ : ∃ F, frst (a.n.getD 0 []) = F := ⟨_, rfl⟩
  have HF0 := Lib.hid (show ∀ W, Below w.heap.size w W → Calls Tryd.prog 44 #[.slice B0 n0 c0] W fun e w' => e = .returned (.string F0) ∧ W = w' from fun W hW => by
    have := RefFirst_any W _ _ (s0.below hW) (gz a 0 hz.1 (by omega))
    rw [hF0] at this
    exact this)
  obtain ⟨F1, hF1⟩ : ∃ F, frst (a.n.getD 1 []) = F := ⟨_, rfl⟩
  have HF1 := Lib.hid (show ∀ W, Below w.heap.size w W → Calls Tryd.prog 44 #[.slice B1 n1 c1] W fun e w' => e = .returned (.string F1) ∧ W = w' from fun W hW => by
    have := RefFirst_any W _ _ (s1.below hW) (gz a 1 hz.1 (by omega))
    rw [hF1] at this
    exact this)
  obtain ⟨F2, hF2⟩ : ∃ F, frst (b.n.getD 0 []) = F := ⟨_, rfl⟩
  have HF2 := Lib.hid (show ∀ W, Below w.heap.size w W → Calls Tryd.prog 44 #[.slice B2 n2 c2] W fun e w' => e = .returned (.string F2) ∧ W = w' from fun W hW => by
    have := RefFirst_any W _ _ (s2.below hW) (gz b 0 hz.2 (by omega))
    rw [hF2] at this
    exact this)
  obtain ⟨F3, hF3⟩ : ∃ F, frst (b.n.getD 1 []) = F := ⟨_, rfl⟩
  have HF3 := Lib.hid (show ∀ W, Below w.heap.size w W → Calls Tryd.prog 44 #[.slice B3 n3 c3] W fun e w' => e = .returned (.string F3) ∧ W = w' from fun W hW => by
    have := RefFirst_any W _ _ (s3.below hW) (gz b 1 hz.2 (by omega))
    rw [hF3] at this
    exact this)
  rw [hF0, hF2] at hn
  have hs0 := str_nebne hn
  have hs0b := str_ne hn
  clear hn
  have HK0 := Lib.hid (And.intro l0 k0)
  have HK1 := Lib.hid (And.intro l1 k1)
  have HK2 := Lib.hid (And.intro l2 k2)
  have HK3 := Lib.hid (And.intro l3 k3)
  have HKB := Lib.hid (And.intro hbl hbc)
  have hpb0 : 0 < pnb := by omega
  have hpn0 : 0 < pnn := by omega
  have hpn1 : 1 < pnn := by omega
  have hqn0 : 0 < qnn := by omega
  have hqn1 : 1 < qnn := by omega
  have gp0 : (0 : Int) < pnn := by omega
  have gp1 : (1 : Int) < pnn := by omega
  have gq0 : (0 : Int) < qnn := by omega
  have gq1 : (1 : Int) < qnn := by omega
  clear ha hbm plb h1 h2 h3 pR qR pvn qvn pln qln pvl qvl hpk hqk pRb qRb qlb ple qle pbe qbe pmx qmx pbm qbm hb hz gz l0 l1 l2 l3 k0 k1 k2 k3 s0 s1 s2 s3 hbl hbc hF0 hF1 hF2 hF3
  unfold mC
  go_enter Tryd.func27, Tryd.ntmps27
  go_upto_region 1 with (fail)
  refine wp_nameO (fun X hX => ?_)
  have HX1 := Lib.hid (show Rg.Blk X w.heap.size 36 #[.int .i64 pk, .slice pu pnu pcu, .slice ps pns pcs, .slice (some ⟨b0, o0, none⟩) pnn pcn, .slice (some ⟨bb, bo, none⟩) pnb pcb] by rw [hX]; exact (Rg.Blk.new w _ _).alloc _)
  have HX2 := Lib.hid (show Rg.Blk X (w.heap.size + 1) 36 #[.int .i64 qk, .slice qu qnu qcu, .slice qs qns qcs, .slice (some ⟨b2, o2, none⟩) qnn qcn, .slice qb qnb qcb] by rw [hX]; exact Rg.Blk.newAt (by simp) _ _)
  have HXW := Lib.hid (show Below w.heap.size w X by rw [hX]; exact ((Below.refl _ _).alloc (Nat.le_refl _) _).alloc (by simp) _)
  clear hX
  refine RL.start (RL.Aft X) (by kernel_rfl) (RL.Aft.drew (RL.Aft.refl X)) ?_
  refine' RL.takeV (i := 0) (v := _) rfl (by kernel_rfl) (by kernel_rfl) (by kernel_rfl) (fun _ _ _ h => h) (by rfl) ?hk36 ?_
  case hk36 => (intro W hSW; go_simp; try with_reducible rfl)
  (try simp only [Act.put, List.setIfInBounds_toArray, List.set_cons_zero, List.set_cons_succ])
  refine' RL.takeV (i := 1) (v := _) rfl (by kernel_rfl) (by kernel_rfl) (by kernel_rfl) (fun _ _ _ h => h) (by rfl) ?hk37 ?_
  case hk37 => (intro W hSW; have g := (HX1.out.below hSW HX1.out.lt).cell 4 (v := .slice (some ⟨bb, bo, none⟩) pnb pcb) rfl; go_simp; try with_reducible rfl)
  (try simp only [Act.put, List.setIfInBounds_toArray, List.set_cons_zero, List.set_cons_succ])
  refine' RL.takeV (i := 2) (v := _) rfl (by kernel_rfl) (by kernel_rfl) (by kernel_rfl) (fun _ _ _ h => h) (by rfl) ?hk38 ?_
  case hk38 => (intro W hSW; go_simp; try with_reducible rfl)
  (try simp only [Act.put, List.setIfInBounds_toArray, List.set_cons_zero, List.set_cons_succ])
  refine' RL.takeV (i := 3) (v := _) rfl (by kernel_rfl) (by kernel_rfl) (by kernel_rfl) (fun _ _ _ h => h) (by rfl) ?hk39 ?_
  case hk39 => (intro W hSW; have g : W.cell? ⟨bb, bo, none⟩ = some (.bool true) := ((HXW.out.trans (hSW.mono HXW.out.size)).cell (p := ⟨bb, bo, none⟩) HKB.out.1).trans HKB.out.2; go_simp; try with_reducible rfl)
  (try simp only [Act.put, List.setIfInBounds_toArray, List.set_cons_zero, List.set_cons_succ])
  refine' RL.takeV (i := 4) (v := _) rfl (by kernel_rfl) (by kernel_rfl) (by kernel_rfl) (fun _ _ _ h => h) (by rfl) ?hk40 ?_
  case hk40 => (intro W hSW; go_simp; try with_reducible rfl)
  (try simp only [Act.put, List.setIfInBounds_toArray, List.set_cons_zero, List.set_cons_succ])
  refine' RL.takeV (i := 5) (v := _) rfl (by kernel_rfl) (by kernel_rfl) (by kernel_rfl) (fun _ _ _ h => h) (by rfl) ?hk41 ?_
  case hk41 => (intro W hSW; go_simp; try with_reducible rfl)
  (try simp only [Act.put, List.setIfInBounds_toArray, List.set_cons_zero, List.set_cons_succ])
  refine' RL.takeV (i := 6) (v := _) rfl (by kernel_rfl) (by kernel_rfl) (by kernel_rfl) (fun _ _ _ h => h) (by rfl) ?hk42 ?_
  case hk42 => (intro W hSW; have g := (HX1.out.below hSW HX1.out.lt).cell 3 (v := .slice (some ⟨b0, o0, none⟩) pnn pcn) rfl; go_simp; try with_reducible rfl)
  (try simp only [Act.put, List.setIfInBounds_toArray, List.set_cons_zero, List.set_cons_succ])
  refine' RL.takeV (i := 7) (v := _) rfl (by kernel_rfl) (by kernel_rfl) (by kernel_rfl) (fun _ _ _ h => h) (by rfl) ?hk43 ?_
  case hk43 => (intro W hSW; go_simp; try with_reducible rfl)
  (try simp only [Act.put, List.setIfInBounds_toArray, List.set_cons_zero, List.set_cons_succ])
  refine' RL.takeV (i := 8) (v := _) rfl (by kernel_rfl) (by kernel_rfl) (by kernel_rfl) (fun _ _ _ h => h) (by rfl) ?hk44 ?_
  case hk44 => (intro W hSW; have g : W.cell? ⟨b0, o0, none⟩ = some (.slice B0 n0 c0) := ((HXW.out.trans (hSW.mono HXW.out.size)).cell (p := ⟨b0, o0, none⟩) HK0.out.1).trans HK0.out.2; go_simp; try with_reducible rfl)
  (try simp only [Act.put, List.setIfInBounds_toArray, List.set_cons_zero, List.set_cons_succ])
  refine' RL.takeC (i := 9) (v := .string F0) 44 #[.slice B0 n0 c0] rfl (by kernel_rfl) (by kernel_rfl) (by kernel_rfl) (fun _ _ _ h => h) (by rfl) ?hk45 ?hc45 ?_
  case hk45 => (intro W; go_simp; try with_reducible rfl)
  case hc45 => (intro W hSW; exact (HF0.out W (HXW.out.trans (hSW.mono HXW.out.size))).mono fun e w' h => ⟨h.1, h.2 ▸ RL.Lat.refl _, h.2 ▸ hSW⟩)
  (try simp only [Act.put, List.setIfInBounds_toArray, List.set_cons_zero, List.set_cons_succ])
  refine' RL.takeV (i := 10) (v := _) rfl (by kernel_rfl) (by kernel_rfl) (by kernel_rfl) (fun _ _ _ h => h) (by rfl) ?hk46 ?_
  case hk46 => (intro W hSW; go_simp; try with_reducible rfl)
  (try simp only [Act.put, List.setIfInBounds_toArray, List.set_cons_zero, List.set_cons_succ])
  refine' RL.takeV (i := 11) (v := _) rfl (by kernel_rfl) (by kernel_rfl) (by kernel_rfl) (fun _ _ _ h => h) (by rfl) ?hk47 ?_
  case hk47 => (intro W hSW; have g := (HX2.out.below hSW HX2.out.lt).cell 3 (v := .slice (some ⟨b2, o2, none⟩) qnn qcn) rfl; go_simp; try with_reducible rfl)
  (try simp only [Act.put, List.setIfInBounds_toArray, List.set_cons_zero, List.set_cons_succ])
  refine' RL.takeV (i := 12) (v := _) rfl (by kernel_rfl) (by kernel_rfl) (by kernel_rfl) (fun _ _ _ h => h) (by rfl) ?hk48 ?_
  case hk48 => (intro W hSW; go_simp; try with_reducible rfl)
  (try simp only [Act.put, List.setIfInBounds_toArray, List.set_cons_zero, List.set_cons_succ])
  refine' RL.takeV (i := 13) (v := _) rfl (by kernel_rfl) (by kernel_rfl) (by kernel_rfl) (fun _ _ _ h => h) (by rfl) ?hk49 ?_
  case hk49 => (intro W hSW; have g : W.cell? ⟨b2, o2, none⟩ = some (.slice B2 n2 c2) := ((HXW.out.trans (hSW.mono HXW.out.size)).cell (p := ⟨b2, o2, none⟩) HK2.out.1).trans HK2.out.2; go_simp; try with_reducible rfl)
  (try simp only [Act.put, List.setIfInBounds_toArray, List.set_cons_zero, List.set_cons_succ])
  refine' RL.takeC (i := 14) (v := .string F2) 44 #[.slice B2 n2 c2] rfl (by kernel_rfl) (by kernel_rfl) (by kernel_rfl) (fun _ _ _ h => h) (by rfl) ?hk50 ?hc50 ?_
  case hk50 => (intro W; go_simp; try with_reducible rfl)
  case hc50 => (intro W hSW; exact (HF2.out W (HXW.out.trans (hSW.mono HXW.out.size))).mono fun e w' h => ⟨h.1, h.2 ▸ RL.Lat.refl _, h.2 ▸ hSW⟩)
  (try simp only [Act.put, List.setIfInBounds_toArray, List.set_cons_zero, List.set_cons_succ])
  refine' RL.takeV (i := 15) (v := _) rfl (by kernel_rfl) (by kernel_rfl) (by kernel_rfl) (fun _ _ _ h => h) (by rfl) ?hk51 ?_
  case hk51 => (intro W hSW; go_simp; try with_reducible rfl)
  (try simp only [Act.put, List.setIfInBounds_toArray, List.set_cons_zero, List.set_cons_succ])
  refine' RL.takeV (i := 16) (v := _) rfl (by kernel_rfl) (by kernel_rfl) (by kernel_rfl) (fun _ _ _ h => h) (by rfl) ?hk52 ?_
  case hk52 => (intro W hSW; go_simp; try with_reducible rfl)
  (try simp only [Act.put, List.setIfInBounds_toArray, List.set_cons_zero, List.set_cons_succ])
  refine' RL.takeU (i := 17) rfl (by kernel_rfl) (by kernel_rfl) (by kernel_rfl) (fun _ _ _ h => h) (by rfl) ?_
  (try simp only [Act.put, List.setIfInBounds_toArray, List.set_cons_zero, List.set_cons_succ])
  refine' RL.takeU (i := 18) rfl (by kernel_rfl) (by kernel_rfl) (by kernel_rfl) (fun _ _ _ h => h) (by rfl) ?_
  (try simp only [Act.put, List.setIfInBounds_toArray, List.set_cons_zero, List.set_cons_succ])
  refine' RL.takeU (i := 19) rfl (by kernel_rfl) (by kernel_rfl) (by kernel_rfl) (fun _ _ _ h => h) (by rfl) ?_
  (try simp only [Act.put, List.setIfInBounds_toArray, List.set_cons_zero, List.set_cons_succ])
  refine' RL.takeU (i := 20) rfl (by kernel_rfl) (by kernel_rfl) (by kernel_rfl) (fun _ _ _ h => h) (by rfl) ?_
  (try simp only [Act.put, List.setIfInBounds_toArray, List.set_cons_zero, List.set_cons_succ])
  refine' RL.takeU (i := 21) rfl (by kernel_rfl) (by kernel_rfl) (by kernel_rfl) (fun _ _ _ h => h) (by rfl) ?_
  (try simp only [Act.put, List.setIfInBounds_toArray, List.set_cons_zero, List.set_cons_succ])
  refine' RL.takeU (i := 22) rfl (by kernel_rfl) (by kernel_rfl) (by kernel_rfl) (fun _ _ _ h => h) (by rfl) ?_
  (try simp only [Act.put, List.setIfInBounds_toArray, List.set_cons_zero, List.set_cons_succ])
  refine' RL.takeU (i := 23) rfl (by kernel_rfl) (by kernel_rfl) (by kernel_rfl) (fun _ _ _ h => h) (by rfl) ?_
  (try simp only [Act.put, List.setIfInBounds_toArray, List.set_cons_zero, List.set_cons_succ])
  refine' RL.takeU (i := 24) rfl (by kernel_rfl) (by kernel_rfl) (by kernel_rfl) (fun _ _ _ h => h) (by rfl) ?_
  (try simp only [Act.put, List.setIfInBounds_toArray, List.set_cons_zero, List.set_cons_succ])
  refine' RL.takeU (i := 25) rfl (by kernel_rfl) (by kernel_rfl) (by kernel_rfl) (fun _ _ _ h => h) (by rfl) ?_
  (try simp only [Act.put, List.setIfInBounds_toArray, List.set_cons_zero, List.set_cons_succ])
  refine' RL.takeU (i := 26) rfl (by kernel_rfl) (by kernel_rfl) (by kernel_rfl) (fun _ _ _ h => h) (by rfl) ?_
  (try simp only [Act.put, List.setIfInBounds_toArray, List.set_cons_zero, List.set_cons_succ])
  refine' RL.takeU (i := 27) rfl (by kernel_rfl) (by kernel_rfl) (by kernel_rfl) (fun _ _ _ h => h) (by rfl) ?_
  (try simp only [Act.put, List.setIfInBounds_toArray, List.set_cons_zero, List.set_cons_succ])
  refine' RL.takeV (i := 28) (v := _) rfl (by kernel_rfl) (by kernel_rfl) (by kernel_rfl) (fun _ _ _ h => h) (by rfl) ?hk53 ?_
  case hk53 => (intro W hSW; go_simp; try with_reducible rfl)
  (try simp only [Act.put, List.setIfInBounds_toArray, List.set_cons_zero, List.set_cons_succ])
  refine' RL.takeV (i := 29) (v := _) rfl (by kernel_rfl) (by kernel_rfl) (by kernel_rfl) (fun _ _ _ h => h) (by rfl) ?hk54 ?_
  case hk54 => (intro W hSW; go_simp; try with_reducible rfl)
  (try simp only [Act.put, List.setIfInBounds_toArray, List.set_cons_zero, List.set_cons_succ])
  refine' RL.takeV (i := 30) (v := _) rfl (by kernel_rfl) (by kernel_rfl) (by kernel_rfl) (fun _ _ _ h => h) (by rfl) ?hk55 ?_
  case hk55 => (intro W hSW; go_simp; try with_reducible rfl)
  (try simp only [Act.put, List.setIfInBounds_toArray, List.set_cons_zero, List.set_cons_succ])
  refine RL.done (by kernel_rfl) (fun wd hlwd hswd => ?_)
  have HD := Lib.hid (HXW.out.trans (Below.mono hswd HXW.out.size))
  clear hlwd hswd
  go_wp2_with fail
  go_ret
  exact ⟨rfl, HD.out⟩
set_option maxRecDepth 20000 in
set_option maxHeartbeats 4000000 in
theorem RefSkip_c (w : World) (a b : Msg) (vu vs vn vb xu xs xn xb : Value) (ha : IsMsg w a vu vs vn vb) (hbm : IsMsg w b xu xs xn xb) (h1 : 0 < a.b.length) (h2 : 2 ≤ a.n.length) (h3 : 2 ≤ b.n.length) (hz : (∀ l ∈ a.n, ∀ x ∈ l, x.size ≤ 1000000) ∧ ∀ l ∈ b.n, ∀ x ∈ l, x.size ≤ 1000000) (hb : a.b.headD false = true) (hn : frst (a.n.getD 0 []) = frst (b.n.getD 0 [])) (hm : frst (a.n.getD 1 []) ≠ frst (b.n.getD 1 [])) :
    Calls Tryd.prog 27 #[.agg (mC a.kind vu vs vn vb), .agg (mC b.kind xu xs xn xb)] w fun e w' => e = .returned (.bool true) ∧ Below w.heap.size w w' := by
  obtain ⟨pu, pnu, pcu, rfl, _⟩ := ha.u
  obtain ⟨ps, pns, pcs, rfl, _⟩ := ha.s
  obtain ⟨pvals, ⟨pn, pnn, pcn, rfl, pln, pR, ple, pmx⟩, pvl, pvn⟩ := ha.n
  obtain ⟨pb, pnb, pcb, rfl, plb, pRb, pbe, pbm⟩ := ha.b
  obtain ⟨qu, qnu, qcu, rfl, _⟩ := hbm.u
  obtain ⟨qs, qns, qcs, rfl, _⟩ := hbm.s
  obtain ⟨qvals, ⟨qn, qnn, qcn, rfl, qln, qR, qle, qmx⟩, qvl, qvn⟩ := hbm.n
  obtain ⟨qb, qnb, qcb, rfl, qlb, qRb, qbe, qbm⟩ := hbm.b
  obtain ⟨pk, hpk⟩ : ∃ pk, a.kind = pk := ⟨_, rfl⟩
  obtain ⟨qk, hqk⟩ : ∃ qk, b.kind = qk := ⟨_, rfl⟩
  rw [hpk, hqk]
  obtain ⟨bb, bo, rfl, hbl, hbc⟩ := headb pRb h1
  rw [hb] at hbc
  have gb : (0 : Int) < pnb := by have := plb; rw [List.length_map] at this; omega
  obtain ⟨b0, o0, B0, n0, c0, rfl, l0, k0, s0, _, _⟩ := nth_list pR pvn 0 (by omega)
  obtain ⟨b1, o1, B1, n1, c1, e1, l1, k1, s1, _, _⟩ := nth_list pR pvn 1 (by omega)
  cases e1
  obtain ⟨b2, o2, B2, n2, c2, rfl, l2, k2, s2, _, _⟩ := nth_list qR qvn 0 (by omega)
  obtain ⟨b3, o3, B3, n3, c3, e3, l3, k3, s3, _, _⟩ := nth_list qR qvn 1 (by omega)
  cases e3
  rw [Nat.add_zero] at k0 k2
  have gz : ∀ (m : Msg) (k : Nat), (∀ l ∈ m.n, ∀ x ∈ l, x.size ≤ 1000000) → k < m.n.length → ∀ x ∈ m.n.getD k [], x.size ≤ 1000000 := fun m k h hk x hx => h _ (by rw [List.getD, List.getElem?_eq_getElem hk]; exact List.getElem_mem hk) x hx
  obtain ⟨F0, hF0⟩ : ∃ F, frst (a.n.getD 0 []) = F := ⟨_, rfl⟩
  have HF0 := Lib.hid (show ∀ W, Below w.heap.size w W → Calls Tryd.prog 44 #[.slice B0 n0 c0] W fun e w' => e = .returned (.string F0) ∧ W = w' from fun W hW => by
    have := RefFirst_any W _ _ (s0.below hW) (gz a 0 hz.1 (by omega))
    rw [hF0] at this
    exact this)
  obtain ⟨F1, hF1⟩ : ∃ F, frst (a.n.getD 1 []) = F := ⟨_, rfl⟩
  have HF1 := Lib.hid (show ∀ W, Below w.heap.size w W → Calls Tryd.prog 44 #[.slice B1 n1 c1] W fun e w' => e = .returned (.string F1) ∧ W = w' from fun W hW => by
    have := RefFirst_any W _ _ (s1.below hW) (gz a 1 hz.1 (by omega))
    rw [hF1] at this
    exact this)
  obtain ⟨F2, hF2⟩ : ∃ F, frst (b.n.getD 0 []) = F := ⟨_, rfl⟩
  have HF2 := Lib.hid (show ∀ W, Below w.heap.size w W → Calls Tryd.prog 44 #[.slice B2 n2 c2] W fun e w' => e = .returned (.string F2) ∧ W = w' from fun W hW => by
    have := RefFirst_any W _ _ (s2.below hW) (gz b 0 hz.2 (by omega))
    rw [hF2] at this
    exact this)
  obtain ⟨F3, hF3⟩ : ∃ F, frst (b.n.getD 1 []) = F := ⟨_, rfl⟩
  have HF3 := Lib.hid (show ∀ W, Below w.heap.size w W → Calls Tryd.prog 44 #[.slice B3 n3 c3] W fun e w' => e = .returned (.string F3) ∧ W = w' from fun W hW => by
    have := RefFirst_any W _ _ (s3.below hW) (gz b 1 hz.2 (by omega))
    rw [hF3] at this
    exact this)
  rw [hF0, hF2] at hn
  subst hn
  have hs0 : (F0.toList != F0.toList) = false := by simp
  rw [hF1, hF3] at hm
  have hs1 := str_nebne hm
  have hs1b := str_ne hm
  clear hm
  have HK0 := Lib.hid (And.intro l0 k0)
  have HK1 := Lib.hid (And.intro l1 k1)
  have HK2 := Lib.hid (And.intro l2 k2)
  have HK3 := Lib.hid (And.intro l3 k3)
  have HKB := Lib.hid (And.intro hbl hbc)
  have hpb0 : 0 < pnb := by omega
  have hpn0 : 0 < pnn := by omega
  have hpn1 : 1 < pnn := by omega
  have hqn0 : 0 < qnn := by omega
  have hqn1 : 1 < qnn := by omega
  have gp0 : (0 : Int) < pnn := by omega
  have gp1 : (1 : Int) < pnn := by omega
  have gq0 : (0 : Int) < qnn := by omega
  have gq1 : (1 : Int) < qnn := by omega
  clear ha hbm plb h1 h2 h3 pR qR pvn qvn pln qln pvl qvl hpk hqk pRb qRb qlb ple qle pbe qbe pmx qmx pbm qbm hb hz gz l0 l1 l2 l3 k0 k1 k2 k3 s0 s1 s2 s3 hbl hbc hF0 hF1 hF2 hF3
  unfold mC
  go_enter Tryd.func27, Tryd.ntmps27
  go_upto_region 1 with (fail)
  refine wp_nameO (fun X hX => ?_)
  have HX1 := Lib.hid (show Rg.Blk X w.heap.size 36 #[.int .i64 pk, .slice pu pnu pcu, .slice ps pns pcs, .slice (some ⟨b0, o0, none⟩) pnn pcn, .slice (some ⟨bb, bo, none⟩) pnb pcb] by rw [hX]; exact (Rg.Blk.new w _ _).alloc _)
  have HX2 := Lib.hid (show Rg.Blk X (w.heap.size + 1) 36 #[.int .i64 qk, .slice qu qnu qcu, .slice qs qns qcs, .slice (some ⟨b2, o2, none⟩) qnn qcn, .slice qb qnb qcb] by rw [hX]; exact Rg.Blk.newAt (by simp) _ _)
  have HXW := Lib.hid (show Below w.heap.size w X by rw [hX]; exact ((Below.refl _ _).alloc (Nat.le_refl _) _).alloc (by simp) _)
  clear hX
  refine RL.start (RL.Aft X) (by kernel_rfl) (RL.Aft.drew (RL.Aft.refl X)) ?_
  refine' RL.takeV (i := 0) (v := _) rfl (by kernel_rfl) (by kernel_rfl) (by kernel_rfl) (fun _ _ _ h => h) (by rfl) ?hk56 ?_
  case hk56 => (intro W hSW; go_simp; try with_reducible rfl)
  (try simp only [Act.put, List.setIfInBounds_toArray, List.set_cons_zero, List.set_cons_succ])
  refine' RL.takeV (i := 1) (v := _) rfl (by kernel_rfl) (by kernel_rfl) (by kernel_rfl) (fun _ _ _ h => h) (by rfl) ?hk57 ?_
  case hk57 => (intro W hSW; have g := (HX1.out.below hSW HX1.out.lt).cell 4 (v := .slice (some ⟨bb, bo, none⟩) pnb pcb) rfl; go_simp; try with_reducible rfl)
  (try simp only [Act.put, List.setIfInBounds_toArray, List.set_cons_zero, List.set_cons_succ])
  refine' RL.takeV (i := 2) (v := _) rfl (by kernel_rfl) (by kernel_rfl) (by kernel_rfl) (fun _ _ _ h => h) (by rfl) ?hk58 ?_
  case hk58 => (intro W hSW; go_simp; try with_reducible rfl)
  (try simp only [Act.put, List.setIfInBounds_toArray, List.set_cons_zero, List.set_cons_succ])
  refine' RL.takeV (i := 3) (v := _) rfl (by kernel_rfl) (by kernel_rfl) (by kernel_rfl) (fun _ _ _ h => h) (by rfl) ?hk59 ?_
  case hk59 => (intro W hSW; have g : W.cell? ⟨bb, bo, none⟩ = some (.bool true) := ((HXW.out.trans (hSW.mono HXW.out.size)).cell (p := ⟨bb, bo, none⟩) HKB.out.1).trans HKB.out.2; go_simp; try with_reducible rfl)
  (try simp only [Act.put, List.setIfInBounds_toArray, List.set_cons_zero, List.set_cons_succ])
  refine' RL.takeV (i := 4) (v := _) rfl (by kernel_rfl) (by kernel_rfl) (by kernel_rfl) (fun _ _ _ h => h) (by rfl) ?hk60 ?_
  case hk60 => (intro W hSW; go_simp; try with_reducible rfl)
  (try simp only [Act.put, List.setIfInBounds_toArray, List.set_cons_zero, List.set_cons_succ])
  refine' RL.takeV (i := 5) (v := _) rfl (by kernel_rfl) (by kernel_rfl) (by kernel_rfl) (fun _ _ _ h => h) (by rfl) ?hk61 ?_
  case hk61 => (intro W hSW; go_simp; try with_reducible rfl)
  (try simp only [Act.put, List.setIfInBounds_toArray, List.set_cons_zero, List.set_cons_succ])
  refine' RL.takeV (i := 6) (v := _) rfl (by kernel_rfl) (by kernel_rfl) (by kernel_rfl) (fun _ _ _ h => h) (by rfl) ?hk62 ?_
  case hk62 => (intro W hSW; have g := (HX1.out.below hSW HX1.out.lt).cell 3 (v := .slice (some ⟨b0, o0, none⟩) pnn pcn) rfl; go_simp; try with_reducible rfl)
  (try simp only [Act.put, List.setIfInBounds_toArray, List.set_cons_zero, List.set_cons_succ])
  refine' RL.takeV (i := 7) (v := _) rfl (by kernel_rfl) (by kernel_rfl) (by kernel_rfl) (fun _ _ _ h => h) (by rfl) ?hk63 ?_
  case hk63 => (intro W hSW; go_simp; try with_reducible rfl)
  (try simp only [Act.put, List.setIfInBounds_toArray, List.set_cons_zero, List.set_cons_succ])
  refine' RL.takeV (i := 8) (v := _) rfl (by kernel_rfl) (by kernel_rfl) (by kernel_rfl) (fun _ _ _ h => h) (by rfl) ?hk64 ?_
  case hk64 => (intro W hSW; have g : W.cell? ⟨b0, o0, none⟩ = some (.slice B0 n0 c0) := ((HXW.out.trans (hSW.mono HXW.out.size)).cell (p := ⟨b0, o0, none⟩) HK0.out.1).trans HK0.out.2; go_simp; try with_reducible rfl)
  (try simp only [Act.put, List.setIfInBounds_toArray, List.set_cons_zero, List.set_cons_succ])
  refine' RL.takeC (i := 9) (v := .string F0) 44 #[.slice B0 n0 c0] rfl (by kernel_rfl) (by kernel_rfl) (by kernel_rfl) (fun _ _ _ h => h) (by rfl) ?hk65 ?hc65 ?_
  case hk65 => (intro W; go_simp; try with_reducible rfl)
  case hc65 => (intro W hSW; exact (HF0.out W (HXW.out.trans (hSW.mono HXW.out.size))).mono fun e w' h => ⟨h.1, h.2 ▸ RL.Lat.refl _, h.2 ▸ hSW⟩)
  (try simp only [Act.put, List.setIfInBounds_toArray, List.set_cons_zero, List.set_cons_succ])
  refine' RL.takeV (i := 10) (v := _) rfl (by kernel_rfl) (by kernel_rfl) (by kernel_rfl) (fun _ _ _ h => h) (by rfl) ?hk66 ?_
  case hk66 => (intro W hSW; go_simp; try with_reducible rfl)
  (try simp only [Act.put, List.setIfInBounds_toArray, List.set_cons_zero, List.set_cons_succ])
  refine' RL.takeV (i := 11) (v := _) rfl (by kernel_rfl) (by kernel_rfl) (by kernel_rfl) (fun _ _ _ h => h) (by rfl) ?hk67 ?_
  case hk67 => (intro W hSW; have g := (HX2.out.below hSW HX2.out.lt).cell 3 (v := .slice (some ⟨b2, o2, none⟩) qnn qcn) rfl; go_simp; try with_reducible rfl)
  (try simp only [Act.put, List.setIfInBounds_toArray, List.set_cons_zero, List.set_cons_succ])
  refine' RL.takeV (i := 12) (v := _) rfl (by kernel_rfl) (by kernel_rfl) (by kernel_rfl) (fun _ _ _ h => h) (by rfl) ?hk68 ?_
  case hk68 => (intro W hSW; go_simp; try with_reducible rfl)
  (try simp only [Act.put, List.setIfInBounds_toArray, List.set_cons_zero, List.set_cons_succ])
  refine' RL.takeV (i := 13) (v := _) rfl (by kernel_rfl) (by kernel_rfl) (by kernel_rfl) (fun _ _ _ h => h) (by rfl) ?hk69 ?_
  case hk69 => (intro W hSW; have g : W.cell? ⟨b2, o2, none⟩ = some (.slice B2 n2 c2) := ((HXW.out.trans (hSW.mono HXW.out.size)).cell (p := ⟨b2, o2, none⟩) HK2.out.1).trans HK2.out.2; go_simp; try with_reducible rfl)
  (try simp only [Act.put, List.setIfInBounds_toArray, List.set_cons_zero, List.set_cons_succ])
  refine' RL.takeC (i := 14) (v := .string F0) 44 #[.slice B2 n2 c2] rfl (by kernel_rfl) (by kernel_rfl) (by kernel_rfl) (fun _ _ _ h => h) (by rfl) ?hk70 ?hc70 ?_
  case hk70 => (intro W; go_simp; try with_reducible rfl)
  case hc70 => (intro W hSW; exact (HF2.out W (HXW.out.trans (hSW.mono HXW.out.size))).mono fun e w' h => ⟨h.1, h.2 ▸ RL.Lat.refl _, h.2 ▸ hSW⟩)
  (try simp only [Act.put, List.setIfInBounds_toArray, List.set_cons_zero, List.set_cons_succ])
  refine' RL.takeV (i := 15) (v := _) rfl (by kernel_rfl) (by kernel_rfl) (by kernel_rfl) (fun _ _ _ h => h) (by rfl) ?hk71 ?_
  case hk71 => (intro W hSW; go_simp; try with_reducible rfl)
  (try simp only [Act.put, List.setIfInBounds_toArray, List.set_cons_zero, List.set_cons_succ])
  refine' RL.takeV (i := 16) (v := _) rfl (by kernel_rfl) (by kernel_rfl) (by kernel_rfl) (fun _ _ _ h => h) (by rfl) ?hk72 ?_
  case hk72 => (intro W hSW; go_simp; try with_reducible rfl)
  (try simp only [Act.put, List.setIfInBounds_toArray, List.set_cons_zero, List.set_cons_succ])
  refine' RL.takeV (i := 17) (v := _) rfl (by kernel_rfl) (by kernel_rfl) (by kernel_rfl) (fun _ _ _ h => h) (by rfl) ?hk73 ?_
  case hk73 => (intro W hSW; go_simp; try with_reducible rfl)
  (try simp only [Act.put, List.setIfInBounds_toArray, List.set_cons_zero, List.set_cons_succ])
  refine' RL.takeV (i := 18) (v := _) rfl (by kernel_rfl) (by kernel_rfl) (by kernel_rfl) (fun _ _ _ h => h) (by rfl) ?hk74 ?_
  case hk74 => (intro W hSW; have g := (HX1.out.below hSW HX1.out.lt).cell 3 (v := .slice (some ⟨b0, o0, none⟩) pnn pcn) rfl; go_simp; try with_reducible rfl)
  (try simp only [Act.put, List.setIfInBounds_toArray, List.set_cons_zero, List.set_cons_succ])
  refine' RL.takeV (i := 19) (v := _) rfl (by kernel_rfl) (by kernel_rfl) (by kernel_rfl) (fun _ _ _ h => h) (by rfl) ?hk75 ?_
  case hk75 => (intro W hSW; go_simp; try with_reducible rfl)
  (try simp only [Act.put, List.setIfInBounds_toArray, List.set_cons_zero, List.set_cons_succ])
  refine' RL.takeV (i := 20) (v := _) rfl (by kernel_rfl) (by kernel_rfl) (by kernel_rfl) (fun _ _ _ h => h) (by rfl) ?hk76 ?_
  case hk76 => (intro W hSW; have g : W.cell? ⟨b0, o0 + 1, none⟩ = some (.slice B1 n1 c1) := ((HXW.out.trans (hSW.mono HXW.out.size)).cell (p := ⟨b0, o0 + 1, none⟩) HK1.out.1).trans HK1.out.2; go_simp; try with_reducible rfl)
  (try simp only [Act.put, List.setIfInBounds_toArray, List.set_cons_zero, List.set_cons_succ])
  refine' RL.takeC (i := 21) (v := .string F1) 44 #[.slice B1 n1 c1] rfl (by kernel_rfl) (by kernel_rfl) (by kernel_rfl) (fun _ _ _ h => h) (by rfl) ?hk77 ?hc77 ?_
  case hk77 => (intro W; go_simp; try with_reducible rfl)
  case hc77 => (intro W hSW; exact (HF1.out W (HXW.out.trans (hSW.mono HXW.out.size))).mono fun e w' h => ⟨h.1, h.2 ▸ RL.Lat.refl _, h.2 ▸ hSW⟩)
  (try simp only [Act.put, List.setIfInBounds_toArray, List.set_cons_zero, List.set_cons_succ])
  refine' RL.takeV (i := 22) (v := _) rfl (by kernel_rfl) (by kernel_rfl) (by kernel_rfl) (fun _ _ _ h => h) (by rfl) ?hk78 ?_
  case hk78 => (intro W hSW; go_simp; try with_reducible rfl)
  (try simp only [Act.put, List.setIfInBounds_toArray, List.set_cons_zero, List.set_cons_succ])
  refine' RL.takeV (i := 23) (v := _) rfl (by kernel_rfl) (by kernel_rfl) (by kernel_rfl) (fun _ _ _ h => h) (by rfl) ?hk79 ?_
  case hk79 => (intro W hSW; have g := (HX2.out.below hSW HX2.out.lt).cell 3 (v := .slice (some ⟨b2, o2, none⟩) qnn qcn) rfl; go_simp; try with_reducible rfl)
  (try simp only [Act.put, List.setIfInBounds_toArray, List.set_cons_zero, List.set_cons_succ])
  refine' RL.takeV (i := 24) (v := _) rfl (by kernel_rfl) (by kernel_rfl) (by kernel_rfl) (fun _ _ _ h => h) (by rfl) ?hk80 ?_
  case hk80 => (intro W hSW; go_simp; try with_reducible rfl)
  (try simp only [Act.put, List.setIfInBounds_toArray, List.set_cons_zero, List.set_cons_succ])
  refine' RL.takeV (i := 25) (v := _) rfl (by kernel_rfl) (by kernel_rfl) (by kernel_rfl) (fun _ _ _ h => h) (by rfl) ?hk81 ?_
  case hk81 => (intro W hSW; have g : W.cell? ⟨b2, o2 + 1, none⟩ = some (.slice B3 n3 c3) := ((HXW.out.trans (hSW.mono HXW.out.size)).cell (p := ⟨b2, o2 + 1, none⟩) HK3.out.1).trans HK3.out.2; go_simp; try with_reducible rfl)
  (try simp only [Act.put, List.setIfInBounds_toArray, List.set_cons_zero, List.set_cons_succ])
  refine' RL.takeC (i := 26) (v := .string F3) 44 #[.slice B3 n3 c3] rfl (by kernel_rfl) (by kernel_rfl) (by kernel_rfl) (fun _ _ _ h => h) (by rfl) ?hk82 ?hc82 ?_
  case hk82 => (intro W; go_simp; try with_reducible rfl)
  case hc82 => (intro W hSW; exact (HF3.out W (HXW.out.trans (hSW.mono HXW.out.size))).mono fun e w' h => ⟨h.1, h.2 ▸ RL.Lat.refl _, h.2 ▸ hSW⟩)
  (try simp only [Act.put, List.setIfInBounds_toArray, List.set_cons_zero, List.set_cons_succ])
  refine' RL.takeV (i := 27) (v := _) rfl (by kernel_rfl) (by kernel_rfl) (by kernel_rfl) (fun _ _ _ h => h) (by rfl) ?hk83 ?_
  case hk83 => (intro W hSW; go_simp; try with_reducible rfl)
  (try simp only [Act.put, List.setIfInBounds_toArray, List.set_cons_zero, List.set_cons_succ])
  refine' RL.takeV (i := 28) (v := _) rfl (by kernel_rfl) (by kernel_rfl) (by kernel_rfl) (fun _ _ _ h => h) (by rfl) ?hk84 ?_
  case hk84 => (intro W hSW; go_simp; try with_reducible rfl)
  (try simp only [Act.put, List.setIfInBounds_toArray, List.set_cons_zero, List.set_cons_succ])
  refine' RL.takeV (i := 29) (v := _) rfl (by kernel_rfl) (by kernel_rfl) (by kernel_rfl) (fun _ _ _ h => h) (by rfl) ?hk85 ?_
  case hk85 => (intro W hSW; go_simp; try with_reducible rfl)
  (try simp only [Act.put, List.setIfInBounds_toArray, List.set_cons_zero, List.set_cons_succ])
  refine' RL.takeV (i := 30) (v := _) rfl (by kernel_rfl) (by kernel_rfl) (by kernel_rfl) (fun _ _ _ h => h) (by rfl) ?hk86 ?_
  case hk86 => (intro W hSW; go_simp; try with_reducible rfl)
  (try simp only [Act.put, List.setIfInBounds_toArray, List.set_cons_zero, List.set_cons_succ])
  refine RL.done (by kernel_rfl) (fun wd hlwd hswd => ?_)
  have HD := Lib.hid (HXW.out.trans (Below.mono hswd HXW.out.size))
  clear hlwd hswd
  go_wp2_with fail
  go_ret
  exact ⟨rfl, HD.out⟩
set_option maxRecDepth 20000 in
set_option maxHeartbeats 4000000 in
theorem RefSkip_d (w : World) (a b : Msg) (vu vs vn vb xu xs xn xb : Value) (ha : IsMsg w a vu vs vn vb) (hbm : IsMsg w b xu xs xn xb) (h1 : 0 < a.b.length) (h2 : 2 ≤ a.n.length) (h3 : 2 ≤ b.n.length) (hz : (∀ l ∈ a.n, ∀ x ∈ l, x.size ≤ 1000000) ∧ ∀ l ∈ b.n, ∀ x ∈ l, x.size ≤ 1000000) (hb : a.b.headD false = true) (hn : frst (a.n.getD 0 []) = frst (b.n.getD 0 [])) (hm : frst (a.n.getD 1 []) = frst (b.n.getD 1 [])) :
    Calls Tryd.prog 27 #[.agg (mC a.kind vu vs vn vb), .agg (mC b.kind xu xs xn xb)] w fun e w' => e = .returned (.bool false) ∧ Below w.heap.size w w' := by
  obtain ⟨pu, pnu, pcu, rfl, _⟩ := ha.u
  obtain ⟨ps, pns, pcs, rfl, _⟩ := ha.s
  obtain ⟨pvals, ⟨pn, pnn, pcn, rfl, pln, pR, ple, pmx⟩, pvl, pvn⟩ := ha.n
  obtain ⟨pb, pnb, pcb, rfl, plb, pRb, pbe, pbm⟩ := ha.b
  obtain ⟨qu, qnu, qcu, rfl, _⟩ := hbm.u
  obtain ⟨qs, qns, qcs, rfl, _⟩ := hbm.s
  obtain ⟨qvals, ⟨qn, qnn, qcn, rfl, qln, qR, qle, qmx⟩, qvl, qvn⟩ := hbm.n
  obtain ⟨qb, qnb, qcb, rfl, qlb, qRb, qbe, qbm⟩ := hbm.b
  obtain ⟨pk, hpk⟩ : ∃ pk, a.kind = pk := ⟨_, rfl⟩
  obtain ⟨qk, hqk⟩ : ∃ qk, b.kind = qk := ⟨_, rfl⟩
  rw [hpk, hqk]
  obtain ⟨bb, bo, rfl, hbl, hbc⟩ := headb pRb h1
  rw [hb] at hbc
  have gb : (0 : Int) < pnb := by have := plb; rw [List.length_map] at this; omega
  obtain ⟨b0, o0, B0, n0, c0, rfl, l0, k0, s0, _, _⟩ := nth_list pR pvn 0 (by omega)
  obtain ⟨b1, o1, B1, n1, c1, e1, l1, k1, s1, _, _⟩ := nth_list pR pvn 1 (by omega)
  cases e1
  obtain ⟨b2, o2, B2, n2, c2, rfl, l2, k2, s2, _, _⟩ := nth_list qR qvn 0 (by omega)
  obtain ⟨b3, o3, B3, n3, c3, e3, l3, k3, s3, _, _⟩ := nth_list qR qvn 1 (by omega)
  cases e3
  rw [Nat.add_zero] at k0 k2
  have gz : ∀ (m : Msg) (k : Nat), (∀ l ∈ m.n, ∀ x ∈ l, x.size ≤ 1000000) → k < m.n.length → ∀ x ∈ m.n.getD k [], x.size ≤ 1000000 := fun m k h hk x hx => h _ (by rw [List.getD, List.getElem?_eq_getElem hk]; exact List.getElem_mem hk) x hx
  obtain ⟨F0, hF0⟩ : ∃ F, frst (a.n.getD 0 []) = F := ⟨_, rfl⟩
  have HF0 := Lib.hid (show ∀ W, Below w.heap.size w W → Calls Tryd.prog 44 #[.slice B0 n0 c0] W fun e w' => e = .returned (.string F0) ∧ W = w' from fun W hW => by
    have := RefFirst_any W _ _ (s0.below hW) (gz a 0 hz.1 (by omega))
    rw [hF0] at this
    exact this)
  obtain ⟨F1, hF1⟩ : ∃ F, frst (a.n.getD 1 []) = F := ⟨_, rfl⟩
  have HF1 := Lib.hid (show ∀ W, Below w.heap.size w W → Calls Tryd.prog 44 #[.slice B1 n1 c1] W fun e w' => e = .returned (.string F1) ∧ W = w' from fun W hW => by
    have := RefFirst_any W _ _ (s1.below hW) (gz a 1 hz.1 (by omega))
    rw [hF1] at this
    exact this)
  obtain ⟨F2, hF2⟩ : ∃ F, frst (b.n.getD 0 []) = F := ⟨_, rfl⟩
  have HF2 := Lib.hid (show ∀ W, Below w.heap.size w W → Calls Tryd.prog 44 #[.slice B2 n2 c2] W fun e w' => e = .returned (.string F2) ∧ W = w' from fun W hW => by
    have := RefFirst_any W _ _ (s2.below hW) (gz b 0 hz.2 (by omega))
    rw [hF2] at this
    exact this)
  obtain ⟨F3, hF3⟩ : ∃ F, frst (b.n.getD 1 []) = F := ⟨_, rfl⟩
  have HF3 := Lib.hid (show ∀ W, Below w.heap.size w W → Calls Tryd.prog 44 #[.slice B3 n3 c3] W fun e w' => e = .returned (.string F3) ∧ W = w' from fun W hW => by
    have := RefFirst_any W _ _ (s3.below hW) (gz b 1 hz.2 (by omega))
    rw [hF3] at this
    exact this)
  rw [hF0, hF2] at hn
  subst hn
  have hs0 : (F0.toList != F0.toList) = false := by simp
  rw [hF1, hF3] at hm
  subst hm
  have hs1 : (F1.toList != F1.toList) = false := by simp
  have HK0 := Lib.hid (And.intro l0 k0)
  have HK1 := Lib.hid (And.intro l1 k1)
  have HK2 := Lib.hid (And.intro l2 k2)
  have HK3 := Lib.hid (And.intro l3 k3)
  have HKB := Lib.hid (And.intro hbl hbc)
  have hpb0 : 0 < pnb := by omega
  have hpn0 : 0 < pnn := by omega
  have hpn1 : 1 < pnn := by omega
  have hqn0 : 0 < qnn := by omega
  have hqn1 : 1 < qnn := by omega
  have gp0 : (0 : Int) < pnn := by omega
  have gp1 : (1 : Int) < pnn := by omega
  have gq0 : (0 : Int) < qnn := by omega
  have gq1 : (1 : Int) < qnn := by omega
  clear ha hbm plb h1 h2 h3 pR qR pvn qvn pln qln pvl qvl hpk hqk pRb qRb qlb ple qle pbe qbe pmx qmx pbm qbm hb hz gz l0 l1 l2 l3 k0 k1 k2 k3 s0 s1 s2 s3 hbl hbc hF0 hF1 hF2 hF3
  unfold mC
  go_enter Tryd.func27, Tryd.ntmps27
  go_upto_region 1 with (fail)
  refine wp_nameO (fun X hX => ?_)
  have HX1 := Lib.hid (show Rg.Blk X w.heap.size 36 #[.int .i64 pk, .slice pu pnu pcu, .slice ps pns pcs, .slice (some ⟨b0, o0, none⟩) pnn pcn, .slice (some ⟨bb, bo, none⟩) pnb pcb] by rw [hX]; exact (Rg.Blk.new w _ _).alloc _)
  have HX2 := Lib.hid (show Rg.Blk X (w.heap.size + 1) 36 #[.int .i64 qk, .slice qu qnu qcu, .slice qs qns qcs, .slice (some ⟨b2, o2, none⟩) qnn qcn, .slice qb qnb qcb] by rw [hX]; exact Rg.Blk.newAt (by simp) _ _)
  have HXW := Lib.hid (show Below w.heap.size w X by rw [hX]; exact ((Below.refl _ _).alloc (Nat.le_refl _) _).alloc (by simp) _)
  clear hX
  refine RL.start (RL.Aft X) (by kernel_rfl) (RL.Aft.drew (RL.Aft.refl X)) ?_
  refine' RL.takeV (i := 0) (v := _) rfl (by kernel_rfl) (by kernel_rfl) (by kernel_rfl) (fun _ _ _ h => h) (by rfl) ?hk87 ?_
  case hk87 => (intro W hSW; go_simp; try with_reducible rfl)
  (try simp only [Act.put, List.setIfInBounds_toArray, List.set_cons_zero, List.set_cons_succ])
  refine' RL.takeV (i := 1) (v := _) rfl (by kernel_rfl) (by kernel_rfl) (by kernel_rfl) (fun _ _ _ h => h) (by rfl) ?hk88 ?_
  case hk88 => (intro W hSW; have g := (HX1.out.below hSW HX1.out.lt).cell 4 (v := .slice (some ⟨bb, bo, none⟩) pnb pcb) rfl; go_simp; try with_reducible rfl)
  (try simp only [Act.put, List.setIfInBounds_toArray, List.set_cons_zero, List.set_cons_succ])
  refine' RL.takeV (i := 2) (v := _) rfl (by kernel_rfl) (by kernel_rfl) (by kernel_rfl) (fun _ _ _ h => h) (by rfl) ?hk89 ?_
  case hk89 => (intro W hSW; go_simp; try with_reducible rfl)
  (try simp only [Act.put, List.setIfInBounds_toArray, List.set_cons_zero, List.set_cons_succ])
  refine' RL.takeV (i := 3) (v := _) rfl (by kernel_rfl) (by kernel_rfl) (by kernel_rfl) (fun _ _ _ h => h) (by rfl) ?hk90 ?_
  case hk90 => (intro W hSW; have g : W.cell? ⟨bb, bo, none⟩ = some (.bool true) := ((HXW.out.trans (hSW.mono HXW.out.size)).cell (p := ⟨bb, bo, none⟩) HKB.out.1).trans HKB.out.2; go_simp; try with_reducible rfl)
  (try simp only [Act.put, List.setIfInBounds_toArray, List.set_cons_zero, List.set_cons_succ])
  refine' RL.takeV (i := 4) (v := _) rfl (by kernel_rfl) (by kernel_rfl) (by kernel_rfl) (fun _ _ _ h => h) (by rfl) ?hk91 ?_
  case hk91 => (intro W hSW; go_simp; try with_reducible rfl)
  (try simp only [Act.put, List.setIfInBounds_toArray, List.set_cons_zero, List.set_cons_succ])
  refine' RL.takeV (i := 5) (v := _) rfl (by kernel_rfl) (by kernel_rfl) (by kernel_rfl) (fun _ _ _ h => h) (by rfl) ?hk92 ?_
  case hk92 => (intro W hSW; go_simp; try with_reducible rfl)
  (try simp only [Act.put, List.setIfInBounds_toArray, List.set_cons_zero, List.set_cons_succ])
  refine' RL.takeV (i := 6) (v := _) rfl (by kernel_rfl) (by kernel_rfl) (by kernel_rfl) (fun _ _ _ h => h) (by rfl) ?hk93 ?_
  case hk93 => (intro W hSW; have g := (HX1.out.below hSW HX1.out.lt).cell 3 (v := .slice (some ⟨b0, o0, none⟩) pnn pcn) rfl; go_simp; try with_reducible rfl)
  (try simp only [Act.put, List.setIfInBounds_toArray, List.set_cons_zero, List.set_cons_succ])
  refine' RL.takeV (i := 7) (v := _) rfl (by kernel_rfl) (by kernel_rfl) (by kernel_rfl) (fun _ _ _ h => h) (by rfl) ?hk94 ?_
  case hk94 => (intro W hSW; go_simp; try with_reducible rfl)
  (try simp only [Act.put, List.setIfInBounds_toArray, List.set_cons_zero, List.set_cons_succ])
  refine' RL.takeV (i := 8) (v := _) rfl (by kernel_rfl) (by kernel_rfl) (by kernel_rfl) (fun _ _ _ h => h) (by rfl) ?hk95 ?_
  case hk95 => (intro W hSW; have g : W.cell? ⟨b0, o0, none⟩ = some (.slice B0 n0 c0) := ((HXW.out.trans (hSW.mono HXW.out.size)).cell (p := ⟨b0, o0, none⟩) HK0.out.1).trans HK0.out.2; go_simp; try with_reducible rfl)
  (try simp only [Act.put, List.setIfInBounds_toArray, List.set_cons_zero, List.set_cons_succ])
  refine' RL.takeC (i := 9) (v := .string F0) 44 #[.slice B0 n0 c0] rfl (by kernel_rfl) (by kernel_rfl) (by kernel_rfl) (fun _ _ _ h => h) (by rfl) ?hk96 ?hc96 ?_
  case hk96 => (intro W; go_simp; try with_reducible rfl)
  case hc96 => (intro W hSW; exact (HF0.out W (HXW.out.trans (hSW.mono HXW.out.size))).mono fun e w' h => ⟨h.1, h.2 ▸ RL.Lat.refl _, h.2 ▸ hSW⟩)
  (try simp only [Act.put, List.setIfInBounds_toArray, List.set_cons_zero, List.set_cons_succ])
  refine' RL.takeV (i := 10) (v := _) rfl (by kernel_rfl) (by kernel_rfl) (by kernel_rfl) (fun _ _ _ h => h) (by rfl) ?hk97 ?_
  case hk97 => (intro W hSW; go_simp; try with_reducible rfl)
  (try simp only [Act.put, List.setIfInBounds_toArray, List.set_cons_zero, List.set_cons_succ])
  refine' RL.takeV (i := 11) (v := _) rfl (by kernel_rfl) (by kernel_rfl) (by kernel_rfl) (fun _ _ _ h => h) (by rfl) ?hk98 ?_
  case hk98 => (intro W hSW; have g := (HX2.out.below hSW HX2.out.lt).cell 3 (v := .slice (some ⟨b2, o2, none⟩) qnn qcn) rfl; go_simp; try with_reducible rfl)
  (try simp only [Act.put, List.setIfInBounds_toArray, List.set_cons_zero, List.set_cons_succ])
  refine' RL.takeV (i := 12) (v := _) rfl (by kernel_rfl) (by kernel_rfl) (by kernel_rfl) (fun _ _ _ h => h) (by rfl) ?hk99 ?_
  case hk99 => (intro W hSW; go_simp; try with_reducible rfl)
  (try simp only [Act.put, List.setIfInBounds_toArray, List.set_cons_zero, List.set_cons_succ])
  refine' RL.takeV (i := 13) (v := _) rfl (by kernel_rfl) (by kernel_rfl) (by kernel_rfl) (fun _ _ _ h => h) (by rfl) ?hk100 ?_
  case hk100 => (intro W hSW; have g : W.cell? ⟨b2, o2, none⟩ = some (.slice B2 n2 c2) := ((HXW.out.trans (hSW.mono HXW.out.size)).cell (p := ⟨b2, o2, none⟩) HK2.out.1).trans HK2.out.2; go_simp; try with_reducible rfl)
  (try simp only [Act.put, List.setIfInBounds_toArray, List.set_cons_zero, List.set_cons_succ])
  refine' RL.takeC (i := 14) (v := .string F0) 44 #[.slice B2 n2 c2] rfl (by kernel_rfl) (by kernel_rfl) (by kernel_rfl) (fun _ _ _ h => h) (by rfl) ?hk101 ?hc101 ?_
  case hk101 => (intro W; go_simp; try with_reducible rfl)
  case hc101 => (intro W hSW; exact (HF2.out W (HXW.out.trans (hSW.mono HXW.out.size))).mono fun e w' h => ⟨h.1, h.2 ▸ RL.Lat.refl _, h.2 ▸ hSW⟩)
  (try simp only [Act.put, List.setIfInBounds_toArray, List.set_cons_zero, List.set_cons_succ])
  refine' RL.takeV (i := 15) (v := _) rfl (by kernel_rfl) (by kernel_rfl) (by kernel_rfl) (fun _ _ _ h => h) (by rfl) ?hk102 ?_
  case hk102 => (intro W hSW; go_simp; try with_reducible rfl)
  (try simp only [Act.put, List.setIfInBounds_toArray, List.set_cons_zero, List.set_cons_succ])
  refine' RL.takeV (i := 16) (v := _) rfl (by kernel_rfl) (by kernel_rfl) (by kernel_rfl) (fun _ _ _ h => h) (by rfl) ?hk103 ?_
  case hk103 => (intro W hSW; go_simp; try with_reducible rfl)
  (try simp only [Act.put, List.setIfInBounds_toArray, List.set_cons_zero, List.set_cons_succ])
  refine' RL.takeV (i := 17) (v := _) rfl (by kernel_rfl) (by kernel_rfl) (by kernel_rfl) (fun _ _ _ h => h) (by rfl) ?hk104 ?_
  case hk104 => (intro W hSW; go_simp; try with_reducible rfl)
  (try simp only [Act.put, List.setIfInBounds_toArray, List.set_cons_zero, List.set_cons_succ])
  refine' RL.takeV (i := 18) (v := _) rfl (by kernel_rfl) (by kernel_rfl) (by kernel_rfl) (fun _ _ _ h => h) (by rfl) ?hk105 ?_
  case hk105 => (intro W hSW; have g := (HX1.out.below hSW HX1.out.lt).cell 3 (v := .slice (some ⟨b0, o0, none⟩) pnn pcn) rfl; go_simp; try with_reducible rfl)
  (try simp only [Act.put, List.setIfInBounds_toArray, List.set_cons_zero, List.set_cons_succ])
  refine' RL.takeV (i := 19) (v := _) rfl (by kernel_rfl) (by kernel_rfl) (by kernel_rfl) (fun _ _ _ h => h) (by rfl) ?hk106 ?_
  case hk106 => (intro W hSW; go_simp; try with_reducible rfl)
  (try simp only [Act.put, List.setIfInBounds_toArray, List.set_cons_zero, List.set_cons_succ])
  refine' RL.takeV (i := 20) (v := _) rfl (by kernel_rfl) (by kernel_rfl) (by kernel_rfl) (fun _ _ _ h => h) (by rfl) ?hk107 ?_
  case hk107 => (intro W hSW; have g : W.cell? ⟨b0, o0 + 1, none⟩ = some (.slice B1 n1 c1) := ((HXW.out.trans (hSW.mono HXW.out.size)).cell (p := ⟨b0, o0 + 1, none⟩) HK1.out.1).trans HK1.out.2; go_simp; try with_reducible rfl)
  (try simp only [Act.put, List.setIfInBounds_toArray, List.set_cons_zero, List.set_cons_succ])
  refine' RL.takeC (i := 21) (v := .string F1) 44 #[.slice B1 n1 c1] rfl (by kernel_rfl) (by kernel_rfl) (by kernel_rfl) (fun _ _ _ h => h) (by rfl) ?hk108 ?hc108 ?_
  case hk108 => (intro W; go_simp; try with_reducible rfl)
  case hc108 => (intro W hSW; exact (HF1.out W (HXW.out.trans (hSW.mono HXW.out.size))).mono fun e w' h => ⟨h.1, h.2 ▸ RL.Lat.refl _, h.2 ▸ hSW⟩)
  (try simp only [Act.put, List.setIfInBounds_toArray, List.set_cons_zero, List.set_cons_succ])
  refine' RL.takeV (i := 22) (v := _) rfl (by kernel_rfl) (by kernel_rfl) (by kernel_rfl) (fun _ _ _ h => h) (by rfl) ?hk109 ?_
  case hk109 => (intro W hSW; go_simp; try with_reducible rfl)
  (try simp only [Act.put, List.setIfInBounds_toArray, List.set_cons_zero, List.set_cons_succ])
  refine' RL.takeV (i := 23) (v := _) rfl (by kernel_rfl) (by kernel_rfl) (by kernel_rfl) (fun _ _ _ h => h) (by rfl) ?hk110 ?_
  case hk110 => (intro W hSW; have g := (HX2.out.below hSW HX2.out.lt).cell 3 (v := .slice (some ⟨b2, o2, none⟩) qnn qcn) rfl; go_simp; try with_reducible rfl)
  (try simp only [Act.put, List.setIfInBounds_toArray, List.set_cons_zero, List.set_cons_succ])
  refine' RL.takeV (i := 24) (v := _) rfl (by kernel_rfl) (by kernel_rfl) (by kernel_rfl) (fun _ _ _ h => h) (by rfl) ?hk111 ?_
  case hk111 => (intro W hSW; go_simp; try with_reducible rfl)
  (try simp only [Act.put, List.setIfInBounds_toArray, List.set_cons_zero, List.set_cons_succ])
  refine' RL.takeV (i := 25) (v := _) rfl (by kernel_rfl) (by kernel_rfl) (by kernel_rfl) (fun _ _ _ h => h) (by rfl) ?hk112 ?_
  case hk112 => (intro W hSW; have g : W.cell? ⟨b2, o2 + 1, none⟩ = some (.slice B3 n3 c3) := ((HXW.out.trans (hSW.mono HXW.out.size)).cell (p := ⟨b2, o2 + 1, none⟩) HK3.out.1).trans HK3.out.2; go_simp; try with_reducible rfl)
  (try simp only [Act.put, List.setIfInBounds_toArray, List.set_cons_zero, List.set_cons_succ])
  refine' RL.takeC (i := 26) (v := .string F1) 44 #[.slice B3 n3 c3] rfl (by kernel_rfl) (by kernel_rfl) (by kernel_rfl) (fun _ _ _ h => h) (by rfl) ?hk113 ?hc113 ?_
  case hk113 => (intro W; go_simp; try with_reducible rfl)
  case hc113 => (intro W hSW; exact (HF3.out W (HXW.out.trans (hSW.mono HXW.out.size))).mono fun e w' h => ⟨h.1, h.2 ▸ RL.Lat.refl _, h.2 ▸ hSW⟩)
  (try simp only [Act.put, List.setIfInBounds_toArray, List.set_cons_zero, List.set_cons_succ])
  refine' RL.takeV (i := 27) (v := _) rfl (by kernel_rfl) (by kernel_rfl) (by kernel_rfl) (fun _ _ _ h => h) (by rfl) ?hk114 ?_
  case hk114 => (intro W hSW; go_simp; try with_reducible rfl)
  (try simp only [Act.put, List.setIfInBounds_toArray, List.set_cons_zero, List.set_cons_succ])
  refine' RL.takeV (i := 28) (v := _) rfl (by kernel_rfl) (by kernel_rfl) (by kernel_rfl) (fun _ _ _ h => h) (by rfl) ?hk115 ?_
  case hk115 => (intro W hSW; go_simp; try with_reducible rfl)
  (try simp only [Act.put, List.setIfInBounds_toArray, List.set_cons_zero, List.set_cons_succ])
  refine' RL.takeV (i := 29) (v := _) rfl (by kernel_rfl) (by kernel_rfl) (by kernel_rfl) (fun _ _ _ h => h) (by rfl) ?hk116 ?_
  case hk116 => (intro W hSW; go_simp; try with_reducible rfl)
  (try simp only [Act.put, List.setIfInBounds_toArray, List.set_cons_zero, List.set_cons_succ])
  refine' RL.takeV (i := 30) (v := _) rfl (by kernel_rfl) (by kernel_rfl) (by kernel_rfl) (fun _ _ _ h => h) (by rfl) ?hk117 ?_
  case hk117 => (intro W hSW; go_simp; try with_reducible rfl)
  (try simp only [Act.put, List.setIfInBounds_toArray, List.set_cons_zero, List.set_cons_succ])
  refine RL.done (by kernel_rfl) (fun wd hlwd hswd => ?_)
  have HD := Lib.hid (HXW.out.trans (Below.mono hswd HXW.out.size))
  clear hlwd hswd
  go_wp2_with fail
  go_ret
  exact ⟨rfl, HD.out⟩
theorem RefSkip_any (w : World) (a b : Msg) (vu vs vn vb xu xs xn xb : Value) (ha : IsMsg w a vu vs vn vb) (hbm : IsMsg w b xu xs xn xb) (h1 : 0 < a.b.length) (h2 : 2 ≤ a.n.length) (h3 : 2 ≤ b.n.length) (hz : (∀ l ∈ a.n, ∀ x ∈ l, x.size ≤ 1000000) ∧ ∀ l ∈ b.n, ∀ x ∈ l, x.size ≤ 1000000) :
    Calls Tryd.prog 27 #[.agg (mC a.kind vu vs vn vb), .agg (mC b.kind xu xs xn xb)] w fun e w' => e = .returned (.bool (skp a b)) ∧ Below w.heap.size w w' := by
  cases hb : a.b.headD false with
  | false => rw [skp_false (b := b) hb]; exact RefSkip_a w a b vu vs vn vb xu xs xn xb ha hbm h1 h2 h3 hz hb
  | true =>
    by_cases hn : frst (a.n.getD 0 []) = frst (b.n.getD 0 [])
    · by_cases hm : frst (a.n.getD 1 []) = frst (b.n.getD 1 [])
      · rw [skp_alike (a := a) (b := b) (fun i hi => by
          match i, hi with
          | 0, _ => exact (frst_eq _ _).1 hn
          | 1, _ => exact (frst_eq _ _).1 hm)]
        exact RefSkip_d w a b vu vs vn vb xu xs xn xb ha hbm h1 h2 h3 hz hb hn hm
      · rw [skp_true hb 1 (by omega) (fun e => hm ((frst_eq _ _).2 e))]
        exact RefSkip_c w a b vu vs vn vb xu xs xn xb ha hbm h1 h2 h3 hz hb hn hm
    · rw [skp_true hb 0 (by omega) (fun e => hn ((frst_eq _ _).2 e))]
      exact RefSkip_b w a b vu vs vn vb xu xs xn xb ha hbm h1 h2 h3 hz hb hn
end Go.Proofs.YtjfikbnfabdkoaaDoor.Of
