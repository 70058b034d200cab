/- Know.Derives: shares; all terms. -/
import Derived.Test.YtfcemnebhapidaaDoorTmDv
set_option linter.unusedVariables false
set_option linter.unusedSimpArgs false
namespace Go.Proofs.YtfcemnebhapidaaDoor.Te
open Go.RowKit Go.Proofs.YtfcemnebhapidaaDoor.Ow Go.Proofs.YtfcemnebhapidaaDoor.Mp Go.Maps
theorem ts_at {w : World} {b o c : Nat} {t : Tm} {p : Value} (hr : ∀ j v, (tcl (t, p))[j]? = some v → w.cell? ⟨b, o + j, none⟩ = some v) (hb : b < w.heap.size) (h1 : 1 ≤ c) (h2 : c ≤ maxLen) (hp : TP w t p) : TS (TP w) w (.slice (some ⟨b, o, none⟩) 1 c) [t] :=
  ⟨some ⟨b, o, none⟩, c, [p], rfl, h1, h2, rfl, fun j v hv => ⟨b, o, rfl, hb, hr j v (by rw [show [t].zip [p] = [(t, p)] from rfl, tcs_one] at hv; exact hv)⟩, fun j t' p' hj hp' => by
    match j, hj, hp' with
    | 0, hj, hp' => cases hj; cases hp'; exact hp
    | j + 1, hj, _ => simp at hj⟩
/-- an array loaded out of a row, as one operation -/
theorem run_cellsAt {P : Program} {o : Oper} {a : Act} {w : World} (ty : TypeId) (x : Operand) (ho : o.op = .load ty x) (b off : Nat) (hx : a.eval x = .pointer (some ⟨b, off, none⟩)) (cs : Array Value) (hc : ∀ j v, cs[j]? = some v → w.cell? ⟨b, off + j, none⟩ = some v) {d : TypeDesc}
    (hu : P.underlying ty = some d) (hd : (match d with | .struct _ | .array _ _ => true | _ => false) = true) (hi : (P.info? ty).map (·.size) = some cs.size) : (execOp a.eval o).run P w = .ok (.value (.agg cs)) w := by
  unfold execOp
  simp only [ho, hx, Instr.loadAt, Instr.sureAddr, Sem.run_bind, Sem.run_pure, Result.andThen_ok, Cv.run_loadVar_cells w b off ty cs d hc hu hd hi]
set_option maxRecDepth 20000 in
set_option maxHeartbeats 4000000 in
theorem Derives_share (a b : Tm) (iha : ∀ (w : World) (kb mb n N : Nat) (G : List Tm) (p : Value) (h : IsKn w kb mb n N G) (ht : Tm.wf a) (hp : TP w a p) (hl : (Tm.txt a).length ≤ 5000), Calls Tryd.prog 15 #[.pointer (some ⟨kb, 0, none⟩), .agg (tv a p)] w fun e w' => e = .returned (.bool (syn G a)) ∧ Below w.heap.size w w' ) (ihb : ∀ (w : World) (kb mb n N : Nat) (G : List Tm) (p : Value) (h : IsKn w kb mb n N G) (ht : Tm.wf b) (hp : TP w b p) (hl : (Tm.txt b).length ≤ 5000), Calls Tryd.prog 15 #[.pointer (some ⟨kb, 0, none⟩), .agg (tv b p)] w fun e w' => e = .returned (.bool (syn G b)) ∧ Below w.heap.size w w' ) (w : World) (kb mb n N : Nat) (G : List Tm) (p : Value) (h : IsKn w kb mb n N G) (ht : Tm.wf (.two 4 a b)) (hp : TP w (.two 4 a b) p) (hl : (Tm.txt (.two 4 a b)).length ≤ 5000) : Calls Tryd.prog 15 #[.pointer (some ⟨kb, 0, none⟩), .agg (tv (.two 4 a b) p)] w fun e w' => e = .returned (.bool (syn G (.two 4 a b))) ∧ Below w.heap.size w w'  := by
  obtain ⟨A, c, pa, pb, rfl, h1, h2, hR, hpa, hpb⟩ := id hp
  obtain ⟨b0, o0, rfl, hbl, _⟩ := hR.place (by rw [tcs_length]; simp)
  obtain ⟨Aa, ca, rfl⟩ := hpa.slice
  obtain ⟨Ab, cb, rfl⟩ := hpb.slice
  have hc1 : ¬ c = 1 := by omega
  have hs1 : ((strB (Tm.knd (.two 4 a b))).toList == [115, 104, 97, 114, 101]) = true := by rw [strB_toList]; rfl
  by_cases hm : (.two 4 a b) ∈ G
  · have hb : decide ((.two 4 a b) ∈ G) = true := decide_eq_true hm
    have HSY := Lib.hid (show syn G (.two 4 a b) = true from syn_mem hm)
    have HTP := Lib.hid hp
    have HKN := Lib.hid h
    have HHS := Lib.hid (fun W (hW : Below w.heap.size w W) => has_any W kb mb n N G (h.below hW) (.two 4 a b) ht (by omega) (.slice (some ⟨b0, o0, none⟩) 2 c) ⟨_, _, _, rfl⟩)
    have hte : ((strB (Tm.txt (.two 4 a b))).toList == []) = false := by rw [strB_toList, beq_eq_false_iff_ne]; exact txt_ne ht
    rw [hb] at HHS
    clear h ht hp hl
    go_enter Tryd.func15, Tryd.ntmps15
    go_upto_region 1 with (refine Rg.box_fresh rfl 31 _ rfl #[.string (strB (Tm.knd (.two 4 a b))), .string (strB (Tm.txt (.two 4 a b))), .slice (some ⟨b0, o0, none⟩) 2 c] rfl ?_; intro X hX hbX hnX; have HX := Lib.hid hX; have HBX := Lib.hid hbX; clear hX hbX hnX)
    have c1 := HX.out.cell 1 (v := .string (strB (Tm.txt (.two 4 a b)))) rfl
    go_wp2_with (first
      | (refine Cv.load_cells rfl 31 _ rfl w.heap.size 0 rfl #[.string (strB (Tm.knd (.two 4 a b))), .string (strB (Tm.txt (.two 4 a b))), .slice (some ⟨b0, o0, none⟩) 2 c] _ (fun j v hv => by rw [Nat.zero_add]; exact HX.out.cell j hv) Tryd.underlying31 rfl (by kernel_rfl) ?_; skip)
      | (go_at_call 34; refine (HHS.out _ HBX.out).mono ?_; rintro e W1 ⟨rfl, hb1⟩; skip; have HBW := Lib.hid (HBX.out.trans (Below.mono hb1 HBX.out.size)); have HXW := Lib.hid (HX.out.below hb1 HX.out.lt); clear hb1))
    go_ret
    exact ⟨by rw [HSY.out]; rfl, HBW.out⟩
  · have hb : decide ((.two 4 a b) ∈ G) = false := decide_eq_false hm
    have HTP := Lib.hid hp
    have HKN := Lib.hid h
    have HHS := Lib.hid (fun W (hW : Below w.heap.size w W) => has_any W kb mb n N G (h.below hW) (.two 4 a b) ht (by omega) (.slice (some ⟨b0, o0, none⟩) 2 c) ⟨_, _, _, rfl⟩)
    have hte : ((strB (Tm.txt (.two 4 a b))).toList == []) = false := by rw [strB_toList, beq_eq_false_iff_ne]; exact txt_ne ht
    have hlx : a.txt.length ≤ 5000 ∧ b.txt.length ≤ 5000 := by have h9 := hl; unfold Tm.txt at h9; simp at h9; omega
    have HCa := Lib.hid (show ∀ W, Below w.heap.size w W → ∀ j v, (tcl (a, Value.slice Aa (Tm.prt a).length ca))[j]? = some v → W.cell? ⟨b0, o0 + j, none⟩ = some v from fun W hW j v hv => by
      have h9 := rd_cell (hR.below hW) (0 + j) v (by rw [tcs_two]; rw [Nat.zero_add, List.getElem?_append_left (List.getElem?_eq_some_iff.1 hv).1]; exact hv)
      rw [Nat.zero_add] at h9; exact h9)
    have HCb := Lib.hid (show ∀ W, Below w.heap.size w W → ∀ j v, (tcl (b, Value.slice Ab (Tm.prt b).length cb))[j]? = some v → W.cell? ⟨b0, o0 + 3 + j, none⟩ = some v from fun W hW j v hv => by
      have h9 := rd_cell (hR.below hW) (3 + j) v (by rw [tcs_two]; rw [List.getElem?_append_right (by simp [tcl]), show 3 + j - (tcl (a, Value.slice Aa a.prt.length ca)).length = j by simp [tcl]]; exact hv)
      rw [← Nat.add_assoc] at h9; exact h9)
    have HDa := Lib.hid (fun W (hW : Below w.heap.size w W) => iha W kb mb n N G _ (h.below hW) ht.2.2.1 (hpa.below hW) (by have h9 := hl; unfold Tm.txt at h9; simp at h9; omega))
    have HPa := Lib.hid (fun W (hW : Below w.heap.size w W) g' c' => has_any W kb mb n N G (h.below hW) (.one 1 a) ⟨by decide, ht.2.2.1⟩ (by have h9 := hl; unfold Tm.txt at h9 ⊢; simp at h9 ⊢; unfold word; simp; omega) (.slice (some ⟨g', 0, none⟩) 1 c') ⟨_, _, _, rfl⟩)
    have HBa := Lib.hid (fun W (hW : Below w.heap.size w W) => build_one (fun t p (h : TP W t p) => h.one) W (.slice (some ⟨b0, o0, none⟩) 1 c) a 1 (by decide) (ts_at (HCa.out W hW) (Nat.lt_of_lt_of_le hbl hW.size) (by omega) (by omega) (hpa.below hW)) (by have h9 := hlx; omega))
    have HDb := Lib.hid (fun W (hW : Below w.heap.size w W) => ihb W kb mb n N G _ (h.below hW) ht.2.2.2.1 (hpb.below hW) (by have h9 := hl; unfold Tm.txt at h9; simp at h9; omega))
    have HPb := Lib.hid (fun W (hW : Below w.heap.size w W) g' c' => has_any W kb mb n N G (h.below hW) (.one 1 b) ⟨by decide, ht.2.2.2.1⟩ (by have h9 := hl; unfold Tm.txt at h9 ⊢; simp at h9 ⊢; unfold word; simp; omega) (.slice (some ⟨g', 0, none⟩) 1 c') ⟨_, _, _, rfl⟩)
    have HBb := Lib.hid (fun W (hW : Below w.heap.size w W) => build_one (fun t p (h : TP W t p) => h.one) W (.slice (some ⟨b0, o0 + 3, none⟩) 1 (c - 1)) b 1 (by decide) (ts_at (HCb.out W hW) (Nat.lt_of_lt_of_le hbl hW.size) (by omega) (by omega) (hpb.below hW)) (by have h9 := hlx; omega))
    clear hR hpa hpb hlx
    rw [hb] at HHS
    clear h ht hp hl
    go_enter Tryd.func15, Tryd.ntmps15
    go_upto_region 1 with (refine Rg.box_fresh rfl 31 _ rfl #[.string (strB (Tm.knd (.two 4 a b))), .string (strB (Tm.txt (.two 4 a b))), .slice (some ⟨b0, o0, none⟩) 2 c] rfl ?_; intro X hX hbX hnX; have HX := Lib.hid hX; have HBX := Lib.hid hbX; clear hX hbX hnX)
    have c1 := HX.out.cell 1 (v := .string (strB (Tm.txt (.two 4 a b)))) rfl
    go_upto_region 5 with (first
      | (refine Cv.load_cells rfl 31 _ rfl w.heap.size 0 rfl #[.string (strB (Tm.knd (.two 4 a b))), .string (strB (Tm.txt (.two 4 a b))), .slice (some ⟨b0, o0, none⟩) 2 c] _ (fun j v hv => by rw [Nat.zero_add]; exact HX.out.cell j hv) Tryd.underlying31 rfl (by kernel_rfl) ?_; skip)
      | (go_at_call 34; refine (HHS.out _ HBX.out).mono ?_; rintro e W1 ⟨rfl, hb1⟩; skip; have HBW := Lib.hid (HBX.out.trans (Below.mono hb1 HBX.out.size)); have HXW := Lib.hid (HX.out.below hb1 HX.out.lt); clear hb1))
    clear c1 hte
    have x0 := HXW.out.cell 0 (v := .string (strB (Tm.knd (.two 4 a b)))) rfl
    go_upto_region 6 with fail
    clear x0 hs1
    obtain ⟨sa, hsa⟩ : ∃ x, syn G a = x := ⟨_, rfl⟩
    obtain ⟨sb, hsb⟩ : ∃ x, syn G b = x := ⟨_, rfl⟩
    rw [hsa] at HDa
    rw [hsb] at HDb
    obtain ⟨qa, hqa⟩ : ∃ x, decide (Tm.one 1 a ∈ G) = x := ⟨_, rfl⟩
    obtain ⟨qb, hqb⟩ : ∃ x, decide (Tm.one 1 b ∈ G) = x := ⟨_, rfl⟩
    rw [hqa] at HPa
    rw [hqb] at HPb
    have HSY := Lib.hid (show syn G (.two 4 a b) = ((sa && sb) || (sa && qb) || (sb && qa)) by unfold syn; rw [if_pos rfl, hb, hsa, hsb, hqa, hqb]; rfl)
    clear hsa hsb hqa hqb
    refine RL.start (RL.Aft W1) (by kernel_rfl) (RL.Aft.drew (RL.Aft.refl W1)) ?_
    refine' RL.takeV (i := 0) (v := _) rfl (by kernel_rfl) (by kernel_rfl) (by kernel_rfl) (fun _ _ _ h => h) (by rfl) ?hk1 ?_
    case hk1 => (intro W hSW; go_simp; try with_reducible rfl)
    (try simp only [Act.put, List.setIfInBounds_toArray, List.set_cons_zero, List.set_cons_succ])
    refine' RL.takeV (i := 1) (v := _) rfl (by kernel_rfl) (by kernel_rfl) (by kernel_rfl) (fun _ _ _ h => h) (by rfl) ?hk2 ?_
    case hk2 => (intro W hSW; go_simp; try with_reducible rfl)
    (try simp only [Act.put, List.setIfInBounds_toArray, List.set_cons_zero, List.set_cons_succ])
    refine' RL.takeV (i := 2) (v := _) rfl (by kernel_rfl) (by kernel_rfl) (by kernel_rfl) (fun _ _ _ h => h) (by rfl) ?hk3 ?_
    case hk3 => (intro W hSW; have x2 := (HXW.out.below hSW HXW.out.lt).cell 2 (v := .slice (some ⟨b0, o0, none⟩) 2 c) rfl; go_simp; try with_reducible rfl)
    (try simp only [Act.put, List.setIfInBounds_toArray, List.set_cons_zero, List.set_cons_succ])
    refine' RL.takeV (i := 3) (v := _) rfl (by kernel_rfl) (by kernel_rfl) (by kernel_rfl) (fun _ _ _ h => h) (by rfl) ?hk4 ?_
    case hk4 => (intro W hSW; go_simp; try with_reducible rfl)
    (try simp only [Act.put, List.setIfInBounds_toArray, List.set_cons_zero, List.set_cons_succ])
    refine RL.takeV (i := 4) (v := .agg #[.string (strB (Tm.knd a)), .string (strB (Tm.txt a)), .slice Aa (Tm.prt a).length ca]) rfl (by kernel_rfl) (by kernel_rfl) (by kernel_rfl) (fun _ _ _ h => h) (by rfl) (fun W hSW => run_cellsAt 31 _ rfl b0 o0 rfl #[.string (strB (Tm.knd a)), .string (strB (Tm.txt a)), .slice Aa (Tm.prt a).length ca] (fun j v hv => HCa.out W (HBW.out.trans (Below.mono hSW HBW.out.size)) j v (by simpa [tcl] using hv)) Tryd.underlying31 rfl (by kernel_rfl)) ?_
    (try simp only [Act.put, List.setIfInBounds_toArray, List.set_cons_zero, List.set_cons_succ])
    refine' RL.takeV (i := 6) (v := _) rfl (by kernel_rfl) (by kernel_rfl) (by kernel_rfl) (fun _ _ _ h => h) (by rfl) ?hk5 ?_
    case hk5 => (intro W hSW; go_simp; try with_reducible rfl)
    (try simp only [Act.put, List.setIfInBounds_toArray, List.set_cons_zero, List.set_cons_succ])
    refine' RL.takeV (i := 7) (v := _) rfl (by kernel_rfl) (by kernel_rfl) (by kernel_rfl) (fun _ _ _ h => h) (by rfl) ?hk6 ?_
    case hk6 => (intro W hSW; go_simp; try with_reducible rfl)
    (try simp only [Act.put, List.setIfInBounds_toArray, List.set_cons_zero, List.set_cons_succ])
    refine' RL.takeV (i := 8) (v := _) rfl (by kernel_rfl) (by kernel_rfl) (by kernel_rfl) (fun _ _ _ h => h) (by rfl) ?hk7 ?_
    case hk7 => (intro W hSW; have x2 := (HXW.out.below hSW HXW.out.lt).cell 2 (v := .slice (some ⟨b0, o0, none⟩) 2 c) rfl; go_simp; try with_reducible rfl)
    (try simp only [Act.put, List.setIfInBounds_toArray, List.set_cons_zero, List.set_cons_succ])
    refine' RL.takeV (i := 9) (v := _) rfl (by kernel_rfl) (by kernel_rfl) (by kernel_rfl) (fun _ _ _ h => h) (by rfl) ?hk8 ?_
    case hk8 => (intro W hSW; go_simp; try with_reducible rfl)
    (try simp only [Act.put, List.setIfInBounds_toArray, List.set_cons_zero, List.set_cons_succ])
    refine RL.takeV (i := 10) (v := .agg #[.string (strB (Tm.knd b)), .string (strB (Tm.txt b)), .slice Ab (Tm.prt b).length cb]) rfl (by kernel_rfl) (by kernel_rfl) (by kernel_rfl) (fun _ _ _ h => h) (by rfl) (fun W hSW => run_cellsAt 31 _ rfl b0 (o0 + 3) rfl #[.string (strB (Tm.knd b)), .string (strB (Tm.txt b)), .slice Ab (Tm.prt b).length cb] (fun j v hv => HCb.out W (HBW.out.trans (Below.mono hSW HBW.out.size)) j v (by simpa [tcl] using hv)) Tryd.underlying31 rfl (by kernel_rfl)) ?_
    (try simp only [Act.put, List.setIfInBounds_toArray, List.set_cons_zero, List.set_cons_succ])
    refine RL.stepK (i := 5) rfl (by kernel_rfl) (by rfl) (fun wa hlwa hswa KK hK => ?_)
    have hc := HDa.out wa (HBW.out.trans (Below.mono hswa HBW.out.size))
    go_simp
    refine hc.mono ?_
    rintro e wo1 ⟨rfl, hb5⟩
    refine hK.out _ _ (RL.Aft.lat hswa hb5) ?_
    clear hK hc hb5
    (try simp only [Act.put, List.setIfInBounds_toArray, List.set_cons_zero, List.set_cons_succ])
    refine RL.stepK (i := 11) rfl (by kernel_rfl) (by rfl) (fun wb hlwb hswb KK hK => ?_)
    have hc := HDb.out wb (HBW.out.trans (Below.mono hswb HBW.out.size))
    go_simp
    refine hc.mono ?_
    rintro e wo2 ⟨rfl, hb5⟩
    refine hK.out _ _ (RL.Aft.lat hswb hb5) ?_
    clear hK hc hb5
    (try simp only [Act.put, List.setIfInBounds_toArray, List.set_cons_zero, List.set_cons_succ])
    refine' RL.takeV (i := 12) (v := _) rfl (by kernel_rfl) (by kernel_rfl) (by kernel_rfl) (fun _ _ _ h => h) (by rfl) ?hk9 ?_
    case hk9 => (intro W hSW; go_simp; try with_reducible rfl)
    (try simp only [Act.put, List.setIfInBounds_toArray, List.set_cons_zero, List.set_cons_succ])
    refine' RL.takeV (i := 13) (v := _) rfl (by kernel_rfl) (by kernel_rfl) (by kernel_rfl) (fun _ _ _ h => h) (by rfl) ?hk10 ?_
    case hk10 => (intro W hSW; go_simp; try with_reducible rfl)
    (try simp only [Act.put, List.setIfInBounds_toArray, List.set_cons_zero, List.set_cons_succ])
    refine RL.done (by kernel_rfl) (fun W2 hlW2 hsW2 => ?_)
    have HB2 := Lib.hid (HBW.out.trans (Below.mono (show Below W1.heap.size W1 W2 from hsW2) HBW.out.size))
    have HX2 := Lib.hid (HXW.out.below (show Below W1.heap.size W1 W2 from hsW2) HXW.out.lt)
    clear hlW2 hsW2
    have x2 := HX2.out.cell 2 (v := .slice (some ⟨b0, o0, none⟩) 2 c) rfl
    cases sa with
    | true =>
      cases sb with
      | true =>
        go_wp2
        go_ret
        exact ⟨by rw [HSY.out]; rfl, HB2.out⟩
      | false =>
        cases qb with
        | true =>
          go_wp2_with (first
            | (go_at_call 35; refine (HBb.out _ HB2.out).mono ?_; rintro e W5 ⟨g, c', p', rfl, _, _, _, _, _, _, hb5⟩; skip; have HB2x := Lib.hid (HB2.out.trans (Below.mono hb5 HB2.out.size)); clear HB2; have HB2 := HB2x; clear HB2x; clear hb5)
            | (go_at_call 34; refine (HPb.out _ HB2.out _ _).mono ?_; rintro e W6 ⟨rfl, hb6⟩; skip; have HB2x := Lib.hid (HB2.out.trans (Below.mono hb6 HB2.out.size)); clear HB2; have HB2 := HB2x; clear HB2x; clear hb6))
          go_ret
          exact ⟨by rw [HSY.out]; rfl, HB2.out⟩
        | false =>
          go_wp2_with (first
            | (go_at_call 35; refine (HBb.out _ HB2.out).mono ?_; rintro e W5 ⟨g, c', p', rfl, _, _, _, _, _, _, hb5⟩; skip; have HB2x := Lib.hid (HB2.out.trans (Below.mono hb5 HB2.out.size)); clear HB2; have HB2 := HB2x; clear HB2x; clear hb5)
            | (go_at_call 34; refine (HPb.out _ HB2.out _ _).mono ?_; rintro e W6 ⟨rfl, hb6⟩; skip; have HB2x := Lib.hid (HB2.out.trans (Below.mono hb6 HB2.out.size)); clear HB2; have HB2 := HB2x; clear HB2x; clear hb6))
          go_ret
          exact ⟨by rw [HSY.out]; rfl, HB2.out⟩
    | false =>
      cases sb with
      | true =>
        cases qa with
        | true =>
          go_wp2_with (first
            | (go_at_call 35; refine (HBa.out _ HB2.out).mono ?_; rintro e W5 ⟨g, c', p', rfl, _, _, _, _, _, _, hb5⟩; skip; have HB2x := Lib.hid (HB2.out.trans (Below.mono hb5 HB2.out.size)); clear HB2; have HB2 := HB2x; clear HB2x; clear hb5)
            | (go_at_call 34; refine (HPa.out _ HB2.out _ _).mono ?_; rintro e W6 ⟨rfl, hb6⟩; skip; have HB2x := Lib.hid (HB2.out.trans (Below.mono hb6 HB2.out.size)); clear HB2; have HB2 := HB2x; clear HB2x; clear hb6))
          go_ret
          exact ⟨by rw [HSY.out]; rfl, HB2.out⟩
        | false =>
          go_wp2_with (first
            | (go_at_call 35; refine (HBa.out _ HB2.out).mono ?_; rintro e W5 ⟨g, c', p', rfl, _, _, _, _, _, _, hb5⟩; skip; have HB2x := Lib.hid (HB2.out.trans (Below.mono hb5 HB2.out.size)); clear HB2; have HB2 := HB2x; clear HB2x; clear hb5)
            | (go_at_call 34; refine (HPa.out _ HB2.out _ _).mono ?_; rintro e W6 ⟨rfl, hb6⟩; skip; have HB2x := Lib.hid (HB2.out.trans (Below.mono hb6 HB2.out.size)); clear HB2; have HB2 := HB2x; clear HB2x; clear hb6))
          go_ret
          exact ⟨by rw [HSY.out]; rfl, HB2.out⟩
      | false =>
        go_wp2
        go_ret
        exact ⟨by rw [HSY.out]; rfl, HB2.out⟩
theorem Derives_any : ∀ (t : Tm) (w : World) (kb mb n N : Nat) (G : List Tm) (p : Value) (h : IsKn w kb mb n N G) (ht : Tm.wf t) (hp : TP w t p) (hl : (Tm.txt t).length ≤ 5000), Calls Tryd.prog 15 #[.pointer (some ⟨kb, 0, none⟩), .agg (tv t p)] w fun e w' => e = .returned (.bool (syn G t)) ∧ Below w.heap.size w w' 
  | .atom s, w, kb, mb, n, N, G, p, h, ht, hp, hl => Derives_atom s w kb mb n N G p h ht hp hl
  | .one k a, w, kb, mb, n, N, G, p, h, ht, hp, hl => Derives_one k a (Derives_any a) w kb mb n N G p h ht hp hl
  | .two k a b, w, kb, mb, n, N, G, p, h, ht, hp, hl => by
    by_cases h4 : k = 4
    · subst h4
      exact Derives_share a b (Derives_any a) (Derives_any b) w kb mb n N G p h ht hp hl
    · exact Derives_two k a b (Derives_any a) (Derives_any b) h4 w kb mb n N G p h ht hp hl
end Go.Proofs.YtfcemnebhapidaaDoor.Te
