/- offer.guessed and the reference's Skip. -/
import Derived.Test.YtjfikbnfabdkoaaDoorOff0
set_option linter.unusedVariables false
set_option linter.unusedSimpArgs false
namespace Go.Proofs.YtjfikbnfabdkoaaDoor.Of
open Go.RowKit Go.Proofs.YtjfikbnfabdkoaaDoor.Wi Go.Proofs.YtjfikbnfabdkoaaDoor.Ow Go.Proofs.YtjfikbnfabdkoaaDoor.Be Go.Proofs.YtjfikbnfabdkoaaDoor.Mg
theorem SL.take1 {w : World} {A : Option Addr} {n c : Nat} {xs : List ByteArray} (h : SL w (.slice A n c) (xs.map Value.string)) : SL w (.slice A (min 1 n) c) ((xs.take 1).map Value.string) := by
  obtain ⟨A', n', c', h1, h2, h3, h4, h5⟩ := h
  injection h1 with e1 e2 e3
  subst e1 e2 e3
  rw [List.length_map] at h2
  refine ⟨A, min 1 n, c, rfl, by rw [List.length_map, List.length_take]; omega, fun j x hx => h3 j x ?_, by omega, h5⟩
  rw [List.map_take, List.getElem?_take] at hx
  split at hx
  · exact hx
  · cases hx
/-- the k-th list of names: its place and what it reads as -/
theorem nth_list {w : World} {A : Option Addr} {vals : List Value} {ns : List (List ByteArray)} (hR : Rd w A vals) (hv : ∀ (j : Nat) (l : List ByteArray), ns[j]? = some l → ∃ u, vals[j]? = some u ∧ SL w u (l.map Value.string)) (k : Nat) (hk : k < ns.length) :
    ∃ b o B n c, A = some ⟨b, o, none⟩ ∧ b < w.heap.size ∧ w.cell? ⟨b, o + k, none⟩ = some (.slice B n c) ∧ SL w (.slice B n c) ((ns.getD k []).map Value.string) ∧ n ≤ c ∧ c ≤ maxLen := by
  have e : ns[k]? = some (ns.getD k []) := by rw [List.getD, List.getElem?_eq_getElem hk]; rfl
  obtain ⟨u, hu, hs⟩ := hv k _ e
  obtain ⟨b, o, hA, hl, hc⟩ := hR k u hu
  have hs2 := hs
  obtain ⟨B, n, c, rfl, _, _, h4, h5⟩ := hs2
  exact ⟨b, o, B, n, c, hA, hl, hc, hs, h4, h5⟩
theorem headb {w : World} {A : Option Addr} {bs : List Bool} (hR : Rd w A (bs.map Value.bool)) (h : 0 < bs.length) : ∃ b o, A = some ⟨b, o, none⟩ ∧ b < w.heap.size ∧ w.cell? ⟨b, o, none⟩ = some (.bool (bs.headD false)) := by
  cases bs with
  | nil => simp at h
  | cons x bs =>
    obtain ⟨b, o, hA, hl, hc⟩ := hR 0 (.bool x) rfl
    exact ⟨b, o, hA, hl, hc⟩
theorem wp_nameO {P : Program} {c : Code} {Q : Exit → Act → World → Prop} {a : Act} {W : World} (h : ∀ X, X = W → c.wp P Q a X) : c.wp P Q a W := h W rfl
def Alike (a b : Msg) (k : Nat) : Prop := ∀ i, i < k → (a.n.getD i []).take 1 = (b.n.getD i []).take 1
theorem skp_false {a b : Msg} (h : a.b.headD false = false) : skp a b = false := by unfold skp; rw [h]; rfl
theorem skp_alike {a b : Msg} (h : Alike a b 2) : skp a b = false := by
  unfold skp
  rw [h 0 (by omega), h 1 (by omega)]
  simp
theorem skp_true {a b : Msg} (h : a.b.headD false = true) (k : Nat) (hk : k < 2) (hne : (a.n.getD k []).take 1 ≠ (b.n.getD k []).take 1) : skp a b = true := by
  unfold skp
  rw [h]
  match k, hk with
  | 0, _ => simp only [hne, ne_eq, not_false_eq_true, decide_true, Bool.true_or, Bool.and_self]
  | 1, _ => simp only [hne, ne_eq, not_false_eq_true, decide_true, Bool.or_true, Bool.and_self]
set_option maxRecDepth 20000 in
set_option maxHeartbeats 4000000 in
theorem guessed_any (w : World) (a b : Msg) (vu vs vn vb xu xs xn xb : Value) (ha : IsMsg w a vu vs vn vb) (hb : IsMsg w b xu xs xn xb) (h1 : 0 < a.b.length) (h2 : 2 ≤ a.n.length) (h3 : 2 ≤ b.n.length) :
    Calls Tryd.prog 42 #[.agg (mC a.kind vu vs vn vb), .agg (mC b.kind xu xs xn xb)] w fun e w' => e = .returned (.bool (skp a b)) ∧ Below w.heap.size w w' := by
  obtain ⟨pu, pnu, pcu, rfl, _⟩ := ha.u
  obtain ⟨ps, pns, pcs, rfl, _⟩ := ha.s
  obtain ⟨pvals, ⟨pn, pnn, pcn, rfl, pln, pR, ple, pmx⟩, pvl, pvn⟩ := ha.n
  obtain ⟨pb, pnb, pcb, rfl, plb, pRb, pbe, pbm⟩ := ha.b
  obtain ⟨qu, qnu, qcu, rfl, _⟩ := hb.u
  obtain ⟨qs, qns, qcs, rfl, _⟩ := hb.s
  obtain ⟨qvals, ⟨qn, qnn, qcn, rfl, qln, qR, qle, qmx⟩, qvl, qvn⟩ := hb.n
  obtain ⟨qb, qnb, qcb, rfl, qlb, qRb, qbe, qbm⟩ := hb.b
  obtain ⟨pk, hpk⟩ : ∃ pk, a.kind = pk := ⟨_, rfl⟩
  obtain ⟨qk, hqk⟩ : ∃ qk, b.kind = qk := ⟨_, rfl⟩
  rw [hpk, hqk]
  obtain ⟨bb, bo, rfl, hbl, hbc⟩ := headb pRb h1
  have gb : (0 : Int) < pnb := by have := plb; rw [List.length_map] at this; omega
  have HPV := Lib.hid pvn
  have HQV := Lib.hid qvn
  have HPR := Lib.hid pR
  have HQR := Lib.hid qR
  have HN := Lib.hid (show 2 ≤ pnn ∧ 2 ≤ qnn by omega)
  have H2 := Lib.hid h2
  have H3 := Lib.hid h3
  clear ha hb plb h1 h2 h3 pR qR pvn qvn pln qln pvl qvl hpk hqk pRb qRb qlb ple qle pbe qbe pmx qmx pbm qbm
  unfold mC
  cases hh : a.b.headD false with
  | false =>
    rw [hh] at hbc
    have HS := Lib.hid (skp_false (b := b) hh)
    clear hh
    go_enter Tryd.func42, Tryd.ntmps42
    go_wp2_with fail
    go_ret
    exact ⟨by rw [HS.out]; rfl, (((Below.refl _ _).alloc (Nat.le_refl _) _).alloc (by simp) _)⟩
  | true =>
    rw [hh] at hbc
    have HH := Lib.hid hh
    clear hh
    go_enter Tryd.func42, Tryd.ntmps42
    go_upto_region 3 with (fail)
    refine wp_nameO (fun X hX => ?_)
    have HX1 := Lib.hid (show Rg.Blk X w.heap.size 32 #[.int .i64 pk, .slice pu pnu pcu, .slice ps pns pcs, .slice pn pnn pcn, .slice (some ⟨bb, bo, none⟩) pnb pcb] by rw [hX]; exact (Rg.Blk.new w _ _).alloc _)
    have HX2 := Lib.hid (show Rg.Blk X (w.heap.size + 1) 32 #[.int .i64 qk, .slice qu qnu qcu, .slice qs qns qcs, .slice qn qnn qcn, .slice qb qnb qcb] by rw [hX]; exact Rg.Blk.newAt (by simp) _ _)
    have HXW := Lib.hid (show Below w.heap.size w X by rw [hX]; exact ((Below.refl _ _).alloc (Nat.le_refl _) _).alloc (by simp) _)
    clear hX
    go_wp2_with fail
    go_loopw [11] (fun i wr => ∃ k : Nat, k ≤ 2 ∧ i = .int .i64 k ∧ Alike a b k ∧ Below X.heap.size X wr) (fun i _ => 3 - (intOf i).toNat)
    case atStart => exact ⟨0, by omega, rfl, fun i h => absurd h (by omega), Below.refl _ _⟩
    case round =>
      obtain ⟨k, hk, rfl, hal, hbw⟩ := hrel
      have HB := Lib.hid hbw
      have HA := Lib.hid hal
      clear hal hbw
      by_cases hk2 : k < 2
      · have hki : (k : Int) < 2 := by omega
        have hkp : (k : Int) < pnn := by have := HN.out; omega
        have hkq : (k : Int) < qnn := by have := HN.out; omega
        obtain ⟨pb2, po, pB, pm, pc, rfl, hpl, hpc, hps, hpz, hpx⟩ := nth_list HPR.out HPV.out k (by have := H2.out; omega)
        obtain ⟨qb2, qo, qB, qm, qc, rfl, hql, hqc, hqs, hqz, hqx⟩ := nth_list HQR.out HQV.out k (by have := H3.out; omega)
        unfold maxLen at hpx hqx
        have HPC := Lib.hid (And.intro hpl hpc)
        have HQC := Lib.hid (And.intro hql hqc)
        obtain ⟨m1, hm1⟩ : ∃ m1, min 1 pm = m1 := ⟨_, rfl⟩
        obtain ⟨m2, hm2⟩ : ∃ m2, min 1 qm = m2 := ⟨_, rfl⟩
        have t1 := SL.take1 hps
        have t2 := SL.take1 hqs
        rw [hm1] at t1
        rw [hm2] at t2
        have HT1 := Lib.hid t1
        have HT2 := Lib.hid t2
        have e1 : min (1 : Int) (pm : Int) = (m1 : Nat) := by omega
        have e2 : min (1 : Int) (qm : Int) = (m2 : Nat) := by omega
        have l1 : m1 ≤ pm := by omega
        have l2 : m2 ≤ qm := by omega
        have g1 : m1 ≤ pc := by omega
        have g2 : m2 ≤ qc := by omega
        have g3 : (m1 : Int) ≤ pc := by omega
        have g4 : (m2 : Int) ≤ qc := by omega
        clear hpl hpc hps hql hqc hqs t1 t2 hm1 hm2
        obtain ⟨r, hr⟩ : ∃ r : Bool, decide ((a.n.getD k []).take 1 = (b.n.getD k []).take 1) = r := ⟨_, rfl⟩
        have HEQ := Lib.hid (show ∀ W, Below w.heap.size w W → Calls Tryd.prog 79 #[.slice pB m1 pc, .slice qB m2 qc] W fun e w' => e = .returned (.bool r) ∧ Below W.heap.size W w' from fun W hW => by
          have := Equal_any W _ _ _ _ (HT1.out.below hW) (HT2.out.below hW)
          rw [hr] at this
          exact this)
        have HRR := Lib.hid hr
        clear hr
        go_upto_region 6 with (fail)
        refine RL.start (RL.Aft wr) (by kernel_rfl) (RL.Aft.drew (RL.Aft.refl wr)) ?_
        refine' RL.takeV (i := 0) (v := _) rfl (by kernel_rfl) (by kernel_rfl) (by kernel_rfl) (fun _ _ _ h => h) (by rfl) ?hk1 ?_
        case hk1 => (intro W hSW; go_simp; try with_reducible rfl)
        (try simp only [Act.put, List.setIfInBounds_toArray, List.set_cons_zero, List.set_cons_succ])
        refine' RL.takeV (i := 1) (v := _) rfl (by kernel_rfl) (by kernel_rfl) (by kernel_rfl) (fun _ _ _ h => h) (by rfl) ?hk2 ?_
        case hk2 => (intro W hSW; have g := (HX1.out.below (HB.out.trans (hSW.mono HB.out.size)) HX1.out.lt).cell 3 (v := .slice (some ⟨pb2, po, none⟩) pnn pcn) rfl; go_simp; try with_reducible rfl)
        (try simp only [Act.put, List.setIfInBounds_toArray, List.set_cons_zero, List.set_cons_succ])
        refine' RL.takeV (i := 2) (v := _) rfl (by kernel_rfl) (by kernel_rfl) (by kernel_rfl) (fun _ _ _ h => h) (by rfl) ?hk3 ?_
        case hk3 => (intro W hSW; go_simp; try with_reducible rfl)
        (try simp only [Act.put, List.setIfInBounds_toArray, List.set_cons_zero, List.set_cons_succ])
        refine' RL.takeV (i := 3) (v := _) rfl (by kernel_rfl) (by kernel_rfl) (by kernel_rfl) (fun _ _ _ h => h) (by rfl) ?hk4 ?_
        case hk4 => (intro W hSW; go_simp; try with_reducible rfl)
        (try simp only [Act.put, List.setIfInBounds_toArray, List.set_cons_zero, List.set_cons_succ])
        refine' RL.takeV (i := 4) (v := _) rfl (by kernel_rfl) (by kernel_rfl) (by kernel_rfl) (fun _ _ _ h => h) (by rfl) ?hk5 ?_
        case hk5 => (intro W hSW; have g : W.cell? ⟨pb2, po + k, none⟩ = some (.slice pB pm pc) := (((HXW.out.trans ((HB.out.trans (hSW.mono HB.out.size)).mono HXW.out.size)).cell (p := ⟨pb2, po + k, none⟩) HPC.out.1)).trans HPC.out.2; go_simp; try with_reducible rfl)
        (try simp only [Act.put, List.setIfInBounds_toArray, List.set_cons_zero, List.set_cons_succ])
        refine' RL.takeV (i := 5) (v := _) rfl (by kernel_rfl) (by kernel_rfl) (by kernel_rfl) (fun _ _ _ h => h) (by rfl) ?hk6 ?_
        case hk6 => (intro W hSW; go_simp; try with_reducible rfl)
        (try simp only [Act.put, List.setIfInBounds_toArray, List.set_cons_zero, List.set_cons_succ])
        refine' RL.takeV (i := 6) (v := _) rfl (by kernel_rfl) (by kernel_rfl) (by kernel_rfl) (fun _ _ _ h => h) (by rfl) ?hk7 ?_
        case hk7 => (intro W hSW; have g := (HX1.out.below (HB.out.trans (hSW.mono HB.out.size)) HX1.out.lt).cell 3 (v := .slice (some ⟨pb2, po, none⟩) pnn pcn) rfl; go_simp; try with_reducible rfl)
        (try simp only [Act.put, List.setIfInBounds_toArray, List.set_cons_zero, List.set_cons_succ])
        refine' RL.takeV (i := 7) (v := _) rfl (by kernel_rfl) (by kernel_rfl) (by kernel_rfl) (fun _ _ _ h => h) (by rfl) ?hk8 ?_
        case hk8 => (intro W hSW; go_simp; try with_reducible rfl)
        (try simp only [Act.put, List.setIfInBounds_toArray, List.set_cons_zero, List.set_cons_succ])
        refine' RL.takeV (i := 8) (v := _) rfl (by kernel_rfl) (by kernel_rfl) (by kernel_rfl) (fun _ _ _ h => h) (by rfl) ?hk9 ?_
        case hk9 => (intro W hSW; go_simp; try with_reducible rfl)
        (try simp only [Act.put, List.setIfInBounds_toArray, List.set_cons_zero, List.set_cons_succ])
        refine' RL.takeV (i := 9) (v := _) rfl (by kernel_rfl) (by kernel_rfl) (by kernel_rfl) (fun _ _ _ h => h) (by rfl) ?hk10 ?_
        case hk10 => (intro W hSW; have g : W.cell? ⟨pb2, po + k, none⟩ = some (.slice pB pm pc) := (((HXW.out.trans ((HB.out.trans (hSW.mono HB.out.size)).mono HXW.out.size)).cell (p := ⟨pb2, po + k, none⟩) HPC.out.1)).trans HPC.out.2; go_simp; try with_reducible rfl)
        (try simp only [Act.put, List.setIfInBounds_toArray, List.set_cons_zero, List.set_cons_succ])
        refine' RL.takeV (i := 10) (v := _) rfl (by kernel_rfl) (by kernel_rfl) (by kernel_rfl) (fun _ _ _ h => h) (by rfl) ?hk11 ?_
        case hk11 => (intro W hSW; go_simp; try with_reducible rfl)
        (try simp only [Act.put, List.setIfInBounds_toArray, List.set_cons_zero, List.set_cons_succ])
        refine' RL.takeV (i := 11) (v := _) rfl (by kernel_rfl) (by kernel_rfl) (by kernel_rfl) (fun _ _ _ h => h) (by rfl) ?hk12 ?_
        case hk12 => (intro W hSW; go_simp; try with_reducible rfl)
        (try simp only [Act.put, List.setIfInBounds_toArray, List.set_cons_zero, List.set_cons_succ])
        refine' RL.takeV (i := 12) (v := _) rfl (by kernel_rfl) (by kernel_rfl) (by kernel_rfl) (fun _ _ _ h => h) (by rfl) ?hk13 ?_
        case hk13 => (intro W hSW; go_simp; try with_reducible rfl)
        (try simp only [Act.put, List.setIfInBounds_toArray, List.set_cons_zero, List.set_cons_succ])
        refine' RL.takeV (i := 13) (v := _) rfl (by kernel_rfl) (by kernel_rfl) (by kernel_rfl) (fun _ _ _ h => h) (by rfl) ?hk14 ?_
        case hk14 => (intro W hSW; go_simp; try with_reducible rfl)
        (try simp only [Act.put, List.setIfInBounds_toArray, List.set_cons_zero, List.set_cons_succ])
        refine' RL.takeV (i := 14) (v := _) rfl (by kernel_rfl) (by kernel_rfl) (by kernel_rfl) (fun _ _ _ h => h) (by rfl) ?hk15 ?_
        case hk15 => (intro W hSW; have g := (HX2.out.below (HB.out.trans (hSW.mono HB.out.size)) HX2.out.lt).cell 3 (v := .slice (some ⟨qb2, qo, none⟩) qnn qcn) rfl; go_simp; try with_reducible rfl)
        (try simp only [Act.put, List.setIfInBounds_toArray, List.set_cons_zero, List.set_cons_succ])
        refine' RL.takeV (i := 15) (v := _) rfl (by kernel_rfl) (by kernel_rfl) (by kernel_rfl) (fun _ _ _ h => h) (by rfl) ?hk16 ?_
        case hk16 => (intro W hSW; go_simp; try with_reducible rfl)
        (try simp only [Act.put, List.setIfInBounds_toArray, List.set_cons_zero, List.set_cons_succ])
        refine' RL.takeV (i := 16) (v := _) rfl (by kernel_rfl) (by kernel_rfl) (by kernel_rfl) (fun _ _ _ h => h) (by rfl) ?hk17 ?_
        case hk17 => (intro W hSW; go_simp; try with_reducible rfl)
        (try simp only [Act.put, List.setIfInBounds_toArray, List.set_cons_zero, List.set_cons_succ])
        refine' RL.takeV (i := 17) (v := _) rfl (by kernel_rfl) (by kernel_rfl) (by kernel_rfl) (fun _ _ _ h => h) (by rfl) ?hk18 ?_
        case hk18 => (intro W hSW; have g : W.cell? ⟨qb2, qo + k, none⟩ = some (.slice qB qm qc) := (((HXW.out.trans ((HB.out.trans (hSW.mono HB.out.size)).mono HXW.out.size)).cell (p := ⟨qb2, qo + k, none⟩) HQC.out.1)).trans HQC.out.2; go_simp; try with_reducible rfl)
        (try simp only [Act.put, List.setIfInBounds_toArray, List.set_cons_zero, List.set_cons_succ])
        refine' RL.takeV (i := 18) (v := _) rfl (by kernel_rfl) (by kernel_rfl) (by kernel_rfl) (fun _ _ _ h => h) (by rfl) ?hk19 ?_
        case hk19 => (intro W hSW; go_simp; try with_reducible rfl)
        (try simp only [Act.put, List.setIfInBounds_toArray, List.set_cons_zero, List.set_cons_succ])
        refine' RL.takeV (i := 19) (v := _) rfl (by kernel_rfl) (by kernel_rfl) (by kernel_rfl) (fun _ _ _ h => h) (by rfl) ?hk20 ?_
        case hk20 => (intro W hSW; have g := (HX2.out.below (HB.out.trans (hSW.mono HB.out.size)) HX2.out.lt).cell 3 (v := .slice (some ⟨qb2, qo, none⟩) qnn qcn) rfl; go_simp; try with_reducible rfl)
        (try simp only [Act.put, List.setIfInBounds_toArray, List.set_cons_zero, List.set_cons_succ])
        refine' RL.takeV (i := 20) (v := _) rfl (by kernel_rfl) (by kernel_rfl) (by kernel_rfl) (fun _ _ _ h => h) (by rfl) ?hk21 ?_
        case hk21 => (intro W hSW; go_simp; try with_reducible rfl)
        (try simp only [Act.put, List.setIfInBounds_toArray, List.set_cons_zero, List.set_cons_succ])
        refine' RL.takeV (i := 21) (v := _) rfl (by kernel_rfl) (by kernel_rfl) (by kernel_rfl) (fun _ _ _ h => h) (by rfl) ?hk22 ?_
        case hk22 => (intro W hSW; go_simp; try with_reducible rfl)
        (try simp only [Act.put, List.setIfInBounds_toArray, List.set_cons_zero, List.set_cons_succ])
        refine' RL.takeV (i := 22) (v := _) rfl (by kernel_rfl) (by kernel_rfl) (by kernel_rfl) (fun _ _ _ h => h) (by rfl) ?hk23 ?_
        case hk23 => (intro W hSW; have g : W.cell? ⟨qb2, qo + k, none⟩ = some (.slice qB qm qc) := (((HXW.out.trans ((HB.out.trans (hSW.mono HB.out.size)).mono HXW.out.size)).cell (p := ⟨qb2, qo + k, none⟩) HQC.out.1)).trans HQC.out.2; go_simp; try with_reducible rfl)
        (try simp only [Act.put, List.setIfInBounds_toArray, List.set_cons_zero, List.set_cons_succ])
        refine' RL.takeV (i := 23) (v := _) rfl (by kernel_rfl) (by kernel_rfl) (by kernel_rfl) (fun _ _ _ h => h) (by rfl) ?hk24 ?_
        case hk24 => (intro W hSW; go_simp; try with_reducible rfl)
        (try simp only [Act.put, List.setIfInBounds_toArray, List.set_cons_zero, List.set_cons_succ])
        refine' RL.takeV (i := 24) (v := _) rfl (by kernel_rfl) (by kernel_rfl) (by kernel_rfl) (fun _ _ _ h => h) (by rfl) ?hk25 ?_
        case hk25 => (intro W hSW; go_simp; try with_reducible rfl)
        (try simp only [Act.put, List.setIfInBounds_toArray, List.set_cons_zero, List.set_cons_succ])
        refine' RL.takeV (i := 25) (v := _) rfl (by kernel_rfl) (by kernel_rfl) (by kernel_rfl) (fun _ _ _ h => h) (by rfl) ?hk26 ?_
        case hk26 => (intro W hSW; go_simp; try with_reducible rfl)
        (try simp only [Act.put, List.setIfInBounds_toArray, List.set_cons_zero, List.set_cons_succ])
        refine' RL.takeC (i := 26) (v := .bool r) 79 #[.slice pB m1 pc, .slice qB m2 qc] rfl (by kernel_rfl) (by kernel_rfl) (by kernel_rfl) (fun _ _ _ h => h) (by rfl) ?hk27 ?hc27 ?_
        case hk27 => (intro W; go_simp; try with_reducible rfl)
        case hc27 => (intro W hSW; exact (HEQ.out W (HXW.out.trans ((HB.out.trans (hSW.mono HB.out.size)).mono HXW.out.size))).mono fun e w' h => ⟨h.1, h.2, RL.Aft.lat hSW h.2⟩)
        (try simp only [Act.put, List.setIfInBounds_toArray, List.set_cons_zero, List.set_cons_succ])
        refine' RL.takeV (i := 27) (v := _) rfl (by kernel_rfl) (by kernel_rfl) (by kernel_rfl) (fun _ _ _ h => h) (by rfl) ?hk28 ?_
        case hk28 => (intro W hSW; go_simp; try with_reducible rfl)
        (try simp only [Act.put, List.setIfInBounds_toArray, List.set_cons_zero, List.set_cons_succ])
        refine RL.done (by kernel_rfl) (fun wd hlwd hswd => ?_)
        have HD := Lib.hid (HB.out.trans (Below.mono hswd HB.out.size))
        clear hlwd hswd e1 e2 l1 l2 g1 g2 g3 g4
        cases r with
        | true =>
          have heq : (a.n.getD k []).take 1 = (b.n.getD k []).take 1 := by have := HRR.out; simpa using this
          have HAN := Lib.hid (show Alike a b (k + 1) from fun i hi => by
            by_cases e : i = k
            · subst e; exact heq
            · exact HA.out i (by omega))
          clear heq
          go_wp2_with fail
          go_roundw
          case rel =>
            first
              | exact ⟨k + 1, by omega, by go_num, HAN.out, HD.out⟩
              | ((repeat apply Exists.intro); refine ⟨?_, rfl⟩; exact ⟨k + 1, by omega, by go_num, HAN.out, HD.out⟩)
          case measure => (first | (simp [intOf]; done) | (simp [intOf]; omega))
        | false =>
          have heq : (a.n.getD k []).take 1 ≠ (b.n.getD k []).take 1 := by have := HRR.out; simpa using this
          have HS := Lib.hid (skp_true HH.out k hk2 heq)
          clear heq
          go_wp2_with fail
          go_ret
          exact ⟨by rw [HS.out]; rfl, HXW.out.trans (HD.out.mono HXW.out.size)⟩
      · obtain rfl : k = 2 := by omega
        have HS := Lib.hid (skp_alike HA.out)
        go_wp2_with fail
        go_ret
        exact ⟨by rw [HS.out]; rfl, HXW.out.trans (HB.out.mono HXW.out.size)⟩
end Go.Proofs.YtjfikbnfabdkoaaDoor.Of
