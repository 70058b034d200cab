/- Know.take: pairs and signs; all terms. -/
import Derived.Test.YtfcemnebhapidaaDoorTmTk
set_option linter.unusedVariables false
set_option linter.unusedSimpArgs false
namespace Go.Proofs.YtfcemnebhapidaaDoor.Te
open Go.RowKit Go.Proofs.YtfcemnebhapidaaDoor.Ow Go.Proofs.YtfcemnebhapidaaDoor.Mp Go.Maps
theorem rd_cell {w : World} {b o : Nat} {xs : List Value} (h : Rd w (some ⟨b, o, none⟩) xs) : ∀ j x, xs[j]? = some x → w.cell? ⟨b, o + j, none⟩ = some x := fun j x hx => by
  obtain ⟨b', o', e, _, hc⟩ := h j x hx
  injection e with e
  injection e with e1 e2
  subst e1 e2
  exact hc
set_option maxRecDepth 20000 in
set_option maxHeartbeats 8000000 in
theorem take_pair (a b : Tm) (iha : ∀ (w : World) (kb mb n N : Nat) (K : List Tm) (p : Value) (h : IsKn w kb mb n N K) (ht : Tm.wf a) (hp : TP w a p) (hl : (Tm.txt a).length ≤ 100000) (hN : N + (subs a).length ≤ 1000000), Calls Tryd.prog 36 #[.pointer (some ⟨kb, 0, none⟩), .agg (tv a p)] w fun e w' => (∃ v, e = .returned v) ∧ IsKn w' kb mb n (N + (subs a).length) (tk a K) ∧ Gb w mb w' ) (ihb : ∀ (w : World) (kb mb n N : Nat) (K : List Tm) (p : Value) (h : IsKn w kb mb n N K) (ht : Tm.wf b) (hp : TP w b p) (hl : (Tm.txt b).length ≤ 100000) (hN : N + (subs b).length ≤ 1000000), Calls Tryd.prog 36 #[.pointer (some ⟨kb, 0, none⟩), .agg (tv b p)] w fun e w' => (∃ v, e = .returned v) ∧ IsKn w' kb mb n (N + (subs b).length) (tk b K) ∧ Gb w mb w' ) (w : World) (kb mb n N : Nat) (K : List Tm) (p : Value) (h : IsKn w kb mb n N K) (ht : Tm.wf (.two 3 a b)) (hp : TP w (.two 3 a b) p) (hl : (Tm.txt (.two 3 a b)).length ≤ 100000) (hN : N + (subs (.two 3 a b)).length ≤ 1000000) : Calls Tryd.prog 36 #[.pointer (some ⟨kb, 0, none⟩), .agg (tv (.two 3 a b) p)] w fun e w' => (∃ v, e = .returned v) ∧ IsKn w' kb mb n (N + (subs (.two 3 a b)).length) (tk (.two 3 a b) K) ∧ Gb w mb w'  := by
  obtain ⟨A, c, pa, pb, rfl, h1, h2, hR, hpa, hpb⟩ := id hp
  obtain ⟨b0, o0, rfl, hbl, _⟩ := hR.place (by rw [tcs_length]; simp)
  obtain ⟨Aa, ca, rfl⟩ := hpa.slice
  obtain ⟨Ab, cb, rfl⟩ := hpb.slice
  have hwa : a.wf := ht.2.2.1
  have hwb : b.wf := ht.2.2.2.1
  have hlx : a.txt.length ≤ 100000 ∧ b.txt.length ≤ 100000 := by have h9 := hl; unfold Tm.txt at h9; simp at h9; omega
  have hnx : N + 1 + (subs a).length + (subs b).length ≤ 1000000 := by have h9 := hN; unfold subs at h9; simp at h9; omega
  have hs1 : ((strB (Tm.knd (.two 3 a b))).toList == [112, 97, 105, 114]) = true := by rw [strB_toList]; rfl
  have hs2 : ((strB (Tm.knd (.two 3 a b))).toList == [115, 105, 103, 110]) = false := by rw [strB_toList]; rfl
  have hNp : N < 1000000 := by omega
  by_cases hm : (.two 3 a b) ∈ K
  · have hb : decide ((.two 3 a b) ∈ K) = true := decide_eq_true hm
    have HTP := Lib.hid hp
    have HTW := Lib.hid ht
    have HTL := Lib.hid hl
    have HNN := Lib.hid hN
    have HKN := Lib.hid h
    have HNE := Lib.hid h.ne
    have HLM := Lib.hid h.ltM
    have HHS := Lib.hid (fun W (hW : Below w.heap.size w W) => has_any W kb mb n N K (h.below hW) (.two 3 a b) ht (by omega) (.slice (some ⟨b0, o0, none⟩) 2 c) ⟨_, _, _, rfl⟩)
    have HPI := Lib.hid h.isMap
    clear h ht hp hl hN
    have HRR := Lib.hid hR
    have HPA := Lib.hid hpa
    have HPB := Lib.hid hpb
    have HWa := Lib.hid hwa
    have HWb := Lib.hid hwb
    have HLX := Lib.hid hlx
    have HNX := Lib.hid hnx
    clear hR hpa hpb hwa hwb hlx hnx
    go_enter Tryd.func36, Tryd.ntmps36
    go_upto_region 1 with (refine Rg.box_fresh rfl 31 _ rfl #[.string (strB (Tm.knd (.two 3 a b))), .string (strB (Tm.txt (.two 3 a b))), .slice (some ⟨b0, o0, none⟩) 2 c] rfl ?_; intro X hX hbX hnX; have HX := Lib.hid hX; have HBX := Lib.hid hbX; clear hX hbX hnX)
    rw [hb] at HHS
    go_wp2_with (first
      | (refine Cv.load_cells rfl 31 _ rfl w.heap.size 0 rfl #[.string (strB (Tm.knd (.two 3 a b))), .string (strB (Tm.txt (.two 3 a b))), .slice (some ⟨b0, o0, none⟩) 2 c] _ (fun j v hv => by rw [Nat.zero_add]; exact HX.out.cell j hv) Tryd.underlying31 rfl (by kernel_rfl) ?_; skip)
      | (go_at_call 34; refine (HHS.out _ HBX.out).mono ?_; rintro e W1 ⟨rfl, hb1⟩; skip; have HBW := Lib.hid (HBX.out.trans (Below.mono hb1 HBX.out.size)); have HXW := Lib.hid (HX.out.below hb1 HX.out.lt); clear hb1))
    refine bodyPost_ret (results_none rfl _ _ _) rfl ?_
    exact ⟨⟨_, rfl⟩, by rw [show tk (.two 3 a b) K = K by unfold tk; rw [if_pos hm]]; exact (HKN.out.below HBW.out).mono (by omega), Gb.lat (Gb.refl w mb) HBW.out⟩
  · have hb : decide ((.two 3 a b) ∈ K) = false := decide_eq_false hm
    have HNI := Lib.hid hm
    have HTP := Lib.hid hp
    have HTW := Lib.hid ht
    have HTL := Lib.hid hl
    have HNN := Lib.hid hN
    have HKN := Lib.hid h
    have HNE := Lib.hid h.ne
    have HLM := Lib.hid h.ltM
    have HHS := Lib.hid (fun W (hW : Below w.heap.size w W) => has_any W kb mb n N K (h.below hW) (.two 3 a b) ht (by omega) (.slice (some ⟨b0, o0, none⟩) 2 c) ⟨_, _, _, rfl⟩)
    have HPI := Lib.hid h.isMap
    clear h ht hp hl hN
    have HRR := Lib.hid hR
    have HPA := Lib.hid hpa
    have HPB := Lib.hid hpb
    have HWa := Lib.hid hwa
    have HWb := Lib.hid hwb
    have HLX := Lib.hid hlx
    have HNX := Lib.hid hnx
    clear hR hpa hpb hwa hwb hlx hnx
    go_enter Tryd.func36, Tryd.ntmps36
    go_upto_region 1 with (refine Rg.box_fresh rfl 31 _ rfl #[.string (strB (Tm.knd (.two 3 a b))), .string (strB (Tm.txt (.two 3 a b))), .slice (some ⟨b0, o0, none⟩) 2 c] rfl ?_; intro X hX hbX hnX; have HX := Lib.hid hX; have HBX := Lib.hid hbX; clear hX hbX hnX)
    rw [hb] at HHS
    go_upto_region 2 with (first
      | (refine Cv.load_cells rfl 31 _ rfl w.heap.size 0 rfl #[.string (strB (Tm.knd (.two 3 a b))), .string (strB (Tm.txt (.two 3 a b))), .slice (some ⟨b0, o0, none⟩) 2 c] _ (fun j v hv => by rw [Nat.zero_add]; exact HX.out.cell j hv) Tryd.underlying31 rfl (by kernel_rfl) ?_; skip)
      | (go_at_call 34; refine (HHS.out _ HBX.out).mono ?_; rintro e W1 ⟨rfl, hb1⟩; skip; have HBW := Lib.hid (HBX.out.trans (Below.mono hb1 HBX.out.size)); have HXW := Lib.hid (HX.out.below hb1 HX.out.lt); clear hb1))
    have HKW := Lib.hid (HKN.out.below HBW.out)
    have HXM := Lib.hid (show w.heap.size ≠ mb from fun e => by have := HLM.out; omega)
    have HMP := Lib.hid HKW.out.isMap
    obtain ⟨hkb, hnd, hwf, f, hf, hfx⟩ := HKW.out
    have HKB := Lib.hid hkb; have HND := Lib.hid hnd; have HWF := Lib.hid hwf; have HF := Lib.hid hf; have HFX := Lib.hid hfx
    clear hkb hnd hwf hf hfx
    refine RL.start (Gb W1 mb) (by kernel_rfl) ((Gb.refl W1 mb).drew) ?_
    refine' RL.takeV (i := 0) (v := _) rfl (by kernel_rfl) (by kernel_rfl) (by kernel_rfl) (fun _ _ _ h => h) (by rfl) ?hk19 ?_
    case hk19 => (intro W hSW; go_simp; try with_reducible rfl)
    (try simp only [Act.put, List.setIfInBounds_toArray, List.set_cons_zero, List.set_cons_succ])
    refine' RL.takeV (i := 1) (v := _) rfl (by kernel_rfl) (by kernel_rfl) (by kernel_rfl) (fun _ _ _ h => h) (by rfl) ?hk20 ?_
    case hk20 => (intro W hSW; go_simp; try with_reducible rfl)
    (try simp only [Act.put, List.setIfInBounds_toArray, List.set_cons_zero, List.set_cons_succ])
    refine' RL.takeV (i := 2) (v := _) rfl (by kernel_rfl) (by kernel_rfl) (by kernel_rfl) (fun _ _ _ h => h) (by rfl) ?hk21 ?_
    case hk21 => (intro W hSW; go_simp; try with_reducible rfl)
    (try simp only [Act.put, List.setIfInBounds_toArray, List.set_cons_zero, List.set_cons_succ])
    refine' RL.takeV (i := 3) (v := _) rfl (by kernel_rfl) (by kernel_rfl) (by kernel_rfl) (fun _ _ _ h => h) (by rfl) ?hk22 ?_
    case hk22 => (intro W hSW; have k1 := (tblk_kept HKB.out hSW HNE.out).cell 1 (v := .map (some mb)) rfl; go_simp; try with_reducible rfl)
    (try simp only [Act.put, List.setIfInBounds_toArray, List.set_cons_zero, List.set_cons_succ])
    refine' RL.takeV (i := 4) (v := _) rfl (by kernel_rfl) (by kernel_rfl) (by kernel_rfl) (fun _ _ _ h => h) (by rfl) ?hk23 ?_
    case hk23 => (intro W hSW; go_simp; try with_reducible rfl)
    (try simp only [Act.put, List.setIfInBounds_toArray, List.set_cons_zero, List.set_cons_succ])
    refine' RL.takeV (i := 5) (v := _) rfl (by kernel_rfl) (by kernel_rfl) (by kernel_rfl) (fun _ _ _ h => h) (by rfl) ?hk24 ?_
    case hk24 => (intro W hSW; have x1 := (tblk_kept HXW.out hSW HXM.out).cell 1 (v := .string (strB (Tm.txt (.two 3 a b)))) rfl; go_simp; try with_reducible rfl)
    (try simp only [Act.put, List.setIfInBounds_toArray, List.set_cons_zero, List.set_cons_succ])
    refine RL.takeV (i := 6) (v := .agg #[.string (strB (Tm.knd (.two 3 a b))), .string (strB (Tm.txt (.two 3 a b))), .slice (some ⟨b0, o0, none⟩) 2 c]) rfl (by kernel_rfl) (by kernel_rfl) (by kernel_rfl) (fun _ _ _ h => h) (by rfl) (fun W hSW => RT.run_row 31 _ rfl _ rfl _ _ (tblk_kept HXW.out hSW HXM.out) Tryd.underlying31 rfl (by kernel_rfl)) ?_
    (try simp only [Act.put, List.setIfInBounds_toArray, List.set_cons_zero, List.set_cons_succ])
    refine RL.stepK (i := 7) rfl (by kernel_rfl) (by rfl) (fun wa hlwa hswa KK hK => ?_)
    have HWA := Lib.hid (show Below W1.heap.size W1 wa from (Below.drew (Below.refl _ _)).trans hlwa)
    refine mapUpdate_op _ _ _ 63 rfl 9 31 keyed_str Tryd.underlying63 mb N _ f rfl (HF.out.below HWA.out HF.out.lt) (by have := HNN.out; unfold maxLen; omega) (.string (strB (Tm.txt (.two 3 a b)))) (.agg #[.string (strB (Tm.knd (.two 3 a b))), .string (strB (Tm.txt (.two 3 a b))), .slice (some ⟨b0, o0, none⟩) 2 c]) _ rfl rfl (key_str Tryd.underlying9 (strB (Tm.txt (.two 3 a b))) (by rw [strB_size]; have := HTL.out; unfold maxLen; omega)) ?_
    intro Y hY hgY
    have HKY := Lib.hid (show IsKn Y kb mb n (N + 1) ((.two 3 a b) :: K) from IsKn.next (w := wa) (t := (.two 3 a b)) (tblk_kept (HKB.out.below HWA.out HKB.out.lt) hgY HNE.out) HND.out HWF.out (HFX.out.below HWA.out) HTW.out HNI.out hY hgY (by obtain ⟨es, cl, hm⟩ := HMP.out; exact ⟨es, cl, (HWA.out.block mb HF.out.lt).trans hm⟩) ((HTP.out.below HBW.out).below HWA.out))
    have HGY := Lib.hid (show Gb W1 mb Y from hswa.trans hgY)
    refine hK.out _ _ HGY.out ?_
    clear hK hY hgY
    (try simp only [Act.put, List.setIfInBounds_toArray, List.set_cons_zero, List.set_cons_succ])
    refine RL.done (by kernel_rfl) (fun Z hlZ hsZ => ?_)
    have HKZ := Lib.hid (HKY.out.below hlZ); have HGZ := Lib.hid (show Gb W1 mb Z from hsZ)
    have HXZ := Lib.hid (tblk_kept HXW.out HGZ.out HXM.out)
    have HGW := Lib.hid (show Gb w mb Z from (Gb.lat (Gb.refl w mb) HBW.out).trans HGZ.out)
    clear hlZ hsZ
    have x0 := HXZ.out.cell 0 (v := .string (strB (Tm.knd (.two 3 a b)))) rfl
    have HRZ := Lib.hid (rd_maps HRR.out HGW.out HPI.out)
    have c2 := HXZ.out.cell 2 (v := .slice (some ⟨b0, o0, none⟩) 2 c) rfl
    have HTa := Lib.hid (HPA.out.map HGW.out HPI.out)
    have HCa := Lib.hid (show ∀ j v, (#[.string (strB (Tm.knd a)), .string (strB (Tm.txt a)), .slice Aa (Tm.prt a).length ca] : Array Value)[j]? = some v → Z.cell? ⟨b0, o0 + j, none⟩ = some v from fun j v hv => by
      have h9 := rd_cell HRZ.out (0 + j) v (by rw [tcs_two]; rw [Nat.zero_add, List.getElem?_append_left (by have := (Array.getElem?_eq_some_iff.1 hv).1; simpa [tcl] using this)]; simpa [tcl] using hv)
      rw [Nat.zero_add] at h9; exact h9)
    go_upto_region 7 with (first
      | (refine Cv.load_cells rfl 31 _ rfl b0 o0 rfl #[.string (strB (Tm.knd a)), .string (strB (Tm.txt a)), .slice Aa (Tm.prt a).length ca] _ HCa.out Tryd.underlying31 rfl (by kernel_rfl) ?_; skip)
      | (go_at_call 36; refine (iha Z kb mb n (N + 1) ((.two 3 a b) :: K) _ HKZ.out HWa.out HTa.out (by have := HLX.out; omega) (by have := HNX.out; omega)).mono ?_; rintro e W2 ⟨⟨va, rfl⟩, hka, hga⟩; skip; have HKa := Lib.hid hka; have HGa := Lib.hid hga; clear hka hga))
    clear c2 x0
    have HGW2 := Lib.hid (show Gb w mb W2 from HGW.out.trans HGa.out)
    have HX2 := Lib.hid (tblk_kept HXZ.out HGa.out HXM.out)
    have c2 := HX2.out.cell 2 (v := .slice (some ⟨b0, o0, none⟩) 2 c) rfl
    have HTb := Lib.hid (HPB.out.map HGW2.out HPI.out)
    have HR2 := Lib.hid (rd_maps HRR.out HGW2.out HPI.out)
    have HCb := Lib.hid (show ∀ j v, (#[.string (strB (Tm.knd b)), .string (strB (Tm.txt b)), .slice Ab (Tm.prt b).length cb] : Array Value)[j]? = some v → W2.cell? ⟨b0, o0 + 3 + j, none⟩ = some v from fun j v hv => by
      have h9 := rd_cell HR2.out (3 + j) v (by rw [tcs_two]; rw [List.getElem?_append_right (by simp [tcl]), show 3 + j - (tcl (a, Value.slice Aa a.prt.length ca)).length = j by simp [tcl]]; simpa [tcl] using hv)
      rw [← Nat.add_assoc] at h9; exact h9)
    go_wp2_with (first
      | (refine Cv.load_cells rfl 31 _ rfl b0 (o0 + 3) rfl #[.string (strB (Tm.knd b)), .string (strB (Tm.txt b)), .slice Ab (Tm.prt b).length cb] _ HCb.out Tryd.underlying31 rfl (by kernel_rfl) ?_; skip)
      | (go_at_call 36; refine (ihb W2 kb mb n (N + 1 + (subs a).length) (tk a ((.two 3 a b) :: K)) _ HKa.out HWb.out HTb.out (by have := HLX.out; omega) (by have := HNX.out; omega)).mono ?_; rintro e W3 ⟨⟨vb, rfl⟩, hkb, hgb⟩; skip; have HKb := Lib.hid hkb; have HGb := Lib.hid hgb; clear hkb hgb))
    first
      | refine bodyPost_end (results_none rfl _ _ _) rfl ?_
      | refine bodyPost_ret (results_none rfl _ _ _) rfl ?_
    exact ⟨⟨_, rfl⟩, by rw [show tk (.two 3 a b) K = tk b (tk a ((.two 3 a b) :: K)) by rw [tk, if_neg HNI.out, if_pos rfl]]; exact HKb.out.mono (by simp [subs]; omega), HGW2.out.trans HGb.out⟩
set_option maxRecDepth 20000 in
set_option maxHeartbeats 8000000 in
theorem take_sign (a b : Tm)  (ihb : ∀ (w : World) (kb mb n N : Nat) (K : List Tm) (p : Value) (h : IsKn w kb mb n N K) (ht : Tm.wf b) (hp : TP w b p) (hl : (Tm.txt b).length ≤ 100000) (hN : N + (subs b).length ≤ 1000000), Calls Tryd.prog 36 #[.pointer (some ⟨kb, 0, none⟩), .agg (tv b p)] w fun e w' => (∃ v, e = .returned v) ∧ IsKn w' kb mb n (N + (subs b).length) (tk b K) ∧ Gb w mb w' ) (w : World) (kb mb n N : Nat) (K : List Tm) (p : Value) (h : IsKn w kb mb n N K) (ht : Tm.wf (.two 5 a b)) (hp : TP w (.two 5 a b) p) (hl : (Tm.txt (.two 5 a b)).length ≤ 100000) (hN : N + (subs (.two 5 a b)).length ≤ 1000000) : Calls Tryd.prog 36 #[.pointer (some ⟨kb, 0, none⟩), .agg (tv (.two 5 a b) p)] w fun e w' => (∃ v, e = .returned v) ∧ IsKn w' kb mb n (N + (subs (.two 5 a b)).length) (tk (.two 5 a b) K) ∧ Gb w mb w'  := by
  obtain ⟨A, c, pa, pb, rfl, h1, h2, hR, hpa, hpb⟩ := id hp
  obtain ⟨b0, o0, rfl, hbl, _⟩ := hR.place (by rw [tcs_length]; simp)
  obtain ⟨Aa, ca, rfl⟩ := hpa.slice
  obtain ⟨Ab, cb, rfl⟩ := hpb.slice
  have hwa : a.wf := ht.2.2.1
  have hwb : b.wf := ht.2.2.2.1
  have hlx : a.txt.length ≤ 100000 ∧ b.txt.length ≤ 100000 := by have h9 := hl; unfold Tm.txt at h9; simp at h9; omega
  have hnx : N + 1 + (subs a).length + (subs b).length ≤ 1000000 := by have h9 := hN; unfold subs at h9; simp at h9; omega
  have hs1 : ((strB (Tm.knd (.two 5 a b))).toList == [112, 97, 105, 114]) = false := by rw [strB_toList]; rfl
  have hs2 : ((strB (Tm.knd (.two 5 a b))).toList == [115, 105, 103, 110]) = true := by rw [strB_toList]; rfl
  have hNp : N < 1000000 := by omega
  by_cases hm : (.two 5 a b) ∈ K
  · have hb : decide ((.two 5 a b) ∈ K) = true := decide_eq_true hm
    have HTP := Lib.hid hp
    have HTW := Lib.hid ht
    have HTL := Lib.hid hl
    have HNN := Lib.hid hN
    have HKN := Lib.hid h
    have HNE := Lib.hid h.ne
    have HLM := Lib.hid h.ltM
    have HHS := Lib.hid (fun W (hW : Below w.heap.size w W) => has_any W kb mb n N K (h.below hW) (.two 5 a b) ht (by omega) (.slice (some ⟨b0, o0, none⟩) 2 c) ⟨_, _, _, rfl⟩)
    have HPI := Lib.hid h.isMap
    clear h ht hp hl hN
    have HRR := Lib.hid hR
    have HPA := Lib.hid hpa
    have HPB := Lib.hid hpb
    have HWa := Lib.hid hwa
    have HWb := Lib.hid hwb
    have HLX := Lib.hid hlx
    have HNX := Lib.hid hnx
    clear hR hpa hpb hwa hwb hlx hnx
    go_enter Tryd.func36, Tryd.ntmps36
    go_upto_region 1 with (refine Rg.box_fresh rfl 31 _ rfl #[.string (strB (Tm.knd (.two 5 a b))), .string (strB (Tm.txt (.two 5 a b))), .slice (some ⟨b0, o0, none⟩) 2 c] rfl ?_; intro X hX hbX hnX; have HX := Lib.hid hX; have HBX := Lib.hid hbX; clear hX hbX hnX)
    rw [hb] at HHS
    go_wp2_with (first
      | (refine Cv.load_cells rfl 31 _ rfl w.heap.size 0 rfl #[.string (strB (Tm.knd (.two 5 a b))), .string (strB (Tm.txt (.two 5 a b))), .slice (some ⟨b0, o0, none⟩) 2 c] _ (fun j v hv => by rw [Nat.zero_add]; exact HX.out.cell j hv) Tryd.underlying31 rfl (by kernel_rfl) ?_; skip)
      | (go_at_call 34; refine (HHS.out _ HBX.out).mono ?_; rintro e W1 ⟨rfl, hb1⟩; skip; have HBW := Lib.hid (HBX.out.trans (Below.mono hb1 HBX.out.size)); have HXW := Lib.hid (HX.out.below hb1 HX.out.lt); clear hb1))
    refine bodyPost_ret (results_none rfl _ _ _) rfl ?_
    exact ⟨⟨_, rfl⟩, by rw [show tk (.two 5 a b) K = K by unfold tk; rw [if_pos hm]]; exact (HKN.out.below HBW.out).mono (by omega), Gb.lat (Gb.refl w mb) HBW.out⟩
  · have hb : decide ((.two 5 a b) ∈ K) = false := decide_eq_false hm
    have HNI := Lib.hid hm
    have HTP := Lib.hid hp
    have HTW := Lib.hid ht
    have HTL := Lib.hid hl
    have HNN := Lib.hid hN
    have HKN := Lib.hid h
    have HNE := Lib.hid h.ne
    have HLM := Lib.hid h.ltM
    have HHS := Lib.hid (fun W (hW : Below w.heap.size w W) => has_any W kb mb n N K (h.below hW) (.two 5 a b) ht (by omega) (.slice (some ⟨b0, o0, none⟩) 2 c) ⟨_, _, _, rfl⟩)
    have HPI := Lib.hid h.isMap
    clear h ht hp hl hN
    have HRR := Lib.hid hR
    have HPA := Lib.hid hpa
    have HPB := Lib.hid hpb
    have HWa := Lib.hid hwa
    have HWb := Lib.hid hwb
    have HLX := Lib.hid hlx
    have HNX := Lib.hid hnx
    clear hR hpa hpb hwa hwb hlx hnx
    go_enter Tryd.func36, Tryd.ntmps36
    go_upto_region 1 with (refine Rg.box_fresh rfl 31 _ rfl #[.string (strB (Tm.knd (.two 5 a b))), .string (strB (Tm.txt (.two 5 a b))), .slice (some ⟨b0, o0, none⟩) 2 c] rfl ?_; intro X hX hbX hnX; have HX := Lib.hid hX; have HBX := Lib.hid hbX; clear hX hbX hnX)
    rw [hb] at HHS
    go_upto_region 2 with (first
      | (refine Cv.load_cells rfl 31 _ rfl w.heap.size 0 rfl #[.string (strB (Tm.knd (.two 5 a b))), .string (strB (Tm.txt (.two 5 a b))), .slice (some ⟨b0, o0, none⟩) 2 c] _ (fun j v hv => by rw [Nat.zero_add]; exact HX.out.cell j hv) Tryd.underlying31 rfl (by kernel_rfl) ?_; skip)
      | (go_at_call 34; refine (HHS.out _ HBX.out).mono ?_; rintro e W1 ⟨rfl, hb1⟩; skip; have HBW := Lib.hid (HBX.out.trans (Below.mono hb1 HBX.out.size)); have HXW := Lib.hid (HX.out.below hb1 HX.out.lt); clear hb1))
    have HKW := Lib.hid (HKN.out.below HBW.out)
    have HXM := Lib.hid (show w.heap.size ≠ mb from fun e => by have := HLM.out; omega)
    have HMP := Lib.hid HKW.out.isMap
    obtain ⟨hkb, hnd, hwf, f, hf, hfx⟩ := HKW.out
    have HKB := Lib.hid hkb; have HND := Lib.hid hnd; have HWF := Lib.hid hwf; have HF := Lib.hid hf; have HFX := Lib.hid hfx
    clear hkb hnd hwf hf hfx
    refine RL.start (Gb W1 mb) (by kernel_rfl) ((Gb.refl W1 mb).drew) ?_
    refine' RL.takeV (i := 0) (v := _) rfl (by kernel_rfl) (by kernel_rfl) (by kernel_rfl) (fun _ _ _ h => h) (by rfl) ?hk25 ?_
    case hk25 => (intro W hSW; go_simp; try with_reducible rfl)
    (try simp only [Act.put, List.setIfInBounds_toArray, List.set_cons_zero, List.set_cons_succ])
    refine' RL.takeV (i := 1) (v := _) rfl (by kernel_rfl) (by kernel_rfl) (by kernel_rfl) (fun _ _ _ h => h) (by rfl) ?hk26 ?_
    case hk26 => (intro W hSW; go_simp; try with_reducible rfl)
    (try simp only [Act.put, List.setIfInBounds_toArray, List.set_cons_zero, List.set_cons_succ])
    refine' RL.takeV (i := 2) (v := _) rfl (by kernel_rfl) (by kernel_rfl) (by kernel_rfl) (fun _ _ _ h => h) (by rfl) ?hk27 ?_
    case hk27 => (intro W hSW; go_simp; try with_reducible rfl)
    (try simp only [Act.put, List.setIfInBounds_toArray, List.set_cons_zero, List.set_cons_succ])
    refine' RL.takeV (i := 3) (v := _) rfl (by kernel_rfl) (by kernel_rfl) (by kernel_rfl) (fun _ _ _ h => h) (by rfl) ?hk28 ?_
    case hk28 => (intro W hSW; have k1 := (tblk_kept HKB.out hSW HNE.out).cell 1 (v := .map (some mb)) rfl; go_simp; try with_reducible rfl)
    (try simp only [Act.put, List.setIfInBounds_toArray, List.set_cons_zero, List.set_cons_succ])
    refine' RL.takeV (i := 4) (v := _) rfl (by kernel_rfl) (by kernel_rfl) (by kernel_rfl) (fun _ _ _ h => h) (by rfl) ?hk29 ?_
    case hk29 => (intro W hSW; go_simp; try with_reducible rfl)
    (try simp only [Act.put, List.setIfInBounds_toArray, List.set_cons_zero, List.set_cons_succ])
    refine' RL.takeV (i := 5) (v := _) rfl (by kernel_rfl) (by kernel_rfl) (by kernel_rfl) (fun _ _ _ h => h) (by rfl) ?hk30 ?_
    case hk30 => (intro W hSW; have x1 := (tblk_kept HXW.out hSW HXM.out).cell 1 (v := .string (strB (Tm.txt (.two 5 a b)))) rfl; go_simp; try with_reducible rfl)
    (try simp only [Act.put, List.setIfInBounds_toArray, List.set_cons_zero, List.set_cons_succ])
    refine RL.takeV (i := 6) (v := .agg #[.string (strB (Tm.knd (.two 5 a b))), .string (strB (Tm.txt (.two 5 a b))), .slice (some ⟨b0, o0, none⟩) 2 c]) rfl (by kernel_rfl) (by kernel_rfl) (by kernel_rfl) (fun _ _ _ h => h) (by rfl) (fun W hSW => RT.run_row 31 _ rfl _ rfl _ _ (tblk_kept HXW.out hSW HXM.out) Tryd.underlying31 rfl (by kernel_rfl)) ?_
    (try simp only [Act.put, List.setIfInBounds_toArray, List.set_cons_zero, List.set_cons_succ])
    refine RL.stepK (i := 7) rfl (by kernel_rfl) (by rfl) (fun wa hlwa hswa KK hK => ?_)
    have HWA := Lib.hid (show Below W1.heap.size W1 wa from (Below.drew (Below.refl _ _)).trans hlwa)
    refine mapUpdate_op _ _ _ 63 rfl 9 31 keyed_str Tryd.underlying63 mb N _ f rfl (HF.out.below HWA.out HF.out.lt) (by have := HNN.out; unfold maxLen; omega) (.string (strB (Tm.txt (.two 5 a b)))) (.agg #[.string (strB (Tm.knd (.two 5 a b))), .string (strB (Tm.txt (.two 5 a b))), .slice (some ⟨b0, o0, none⟩) 2 c]) _ rfl rfl (key_str Tryd.underlying9 (strB (Tm.txt (.two 5 a b))) (by rw [strB_size]; have := HTL.out; unfold maxLen; omega)) ?_
    intro Y hY hgY
    have HKY := Lib.hid (show IsKn Y kb mb n (N + 1) ((.two 5 a b) :: K) from IsKn.next (w := wa) (t := (.two 5 a b)) (tblk_kept (HKB.out.below HWA.out HKB.out.lt) hgY HNE.out) HND.out HWF.out (HFX.out.below HWA.out) HTW.out HNI.out hY hgY (by obtain ⟨es, cl, hm⟩ := HMP.out; exact ⟨es, cl, (HWA.out.block mb HF.out.lt).trans hm⟩) ((HTP.out.below HBW.out).below HWA.out))
    have HGY := Lib.hid (show Gb W1 mb Y from hswa.trans hgY)
    refine hK.out _ _ HGY.out ?_
    clear hK hY hgY
    (try simp only [Act.put, List.setIfInBounds_toArray, List.set_cons_zero, List.set_cons_succ])
    refine RL.done (by kernel_rfl) (fun Z hlZ hsZ => ?_)
    have HKZ := Lib.hid (HKY.out.below hlZ); have HGZ := Lib.hid (show Gb W1 mb Z from hsZ)
    have HXZ := Lib.hid (tblk_kept HXW.out HGZ.out HXM.out)
    have HGW := Lib.hid (show Gb w mb Z from (Gb.lat (Gb.refl w mb) HBW.out).trans HGZ.out)
    clear hlZ hsZ
    have x0 := HXZ.out.cell 0 (v := .string (strB (Tm.knd (.two 5 a b)))) rfl
    have HRZ := Lib.hid (rd_maps HRR.out HGW.out HPI.out)
    have c2 := HXZ.out.cell 2 (v := .slice (some ⟨b0, o0, none⟩) 2 c) rfl
    have HTb := Lib.hid (HPB.out.map HGW.out HPI.out)
    have HCb := Lib.hid (show ∀ j v, (#[.string (strB (Tm.knd b)), .string (strB (Tm.txt b)), .slice Ab (Tm.prt b).length cb] : Array Value)[j]? = some v → Z.cell? ⟨b0, o0 + 3 + j, none⟩ = some v from fun j v hv => by
      have h9 := rd_cell HRZ.out (3 + j) v (by rw [tcs_two]; rw [List.getElem?_append_right (by simp [tcl]), show 3 + j - (tcl (a, Value.slice Aa a.prt.length ca)).length = j by simp [tcl]]; simpa [tcl] using hv)
      rw [← Nat.add_assoc] at h9; exact h9)
    go_wp2_with (first
      | (refine Cv.load_cells rfl 31 _ rfl b0 (o0 + 3) rfl #[.string (strB (Tm.knd b)), .string (strB (Tm.txt b)), .slice Ab (Tm.prt b).length cb] _ HCb.out Tryd.underlying31 rfl (by kernel_rfl) ?_; skip)
      | (go_at_call 36; refine (ihb Z kb mb n (N + 1) ((.two 5 a b) :: K) _ HKZ.out HWb.out HTb.out (by have := HLX.out; omega) (by have := HNX.out; omega)).mono ?_; rintro e W3 ⟨⟨vb, rfl⟩, hkb, hgb⟩; skip; have HKb := Lib.hid hkb; have HGb := Lib.hid hgb; clear hkb hgb))
    first
      | refine bodyPost_end (results_none rfl _ _ _) rfl ?_
      | refine bodyPost_ret (results_none rfl _ _ _) rfl ?_
    exact ⟨⟨_, rfl⟩, by rw [show tk (.two 5 a b) K = tk b ((.two 5 a b) :: K) by rw [tk, if_neg HNI.out, if_neg (by decide), if_pos rfl]]; exact HKb.out.mono (by simp [subs]; omega), HGW.out.trans HGb.out⟩
theorem take_any : ∀ (t : Tm) (w : World) (kb mb n N : Nat) (K : List Tm) (p : Value) (h : IsKn w kb mb n N K) (ht : Tm.wf t) (hp : TP w t p) (hl : (Tm.txt t).length ≤ 100000) (hN : N + (subs t).length ≤ 1000000), Calls Tryd.prog 36 #[.pointer (some ⟨kb, 0, none⟩), .agg (tv t p)] w fun e w' => (∃ v, e = .returned v) ∧ IsKn w' kb mb n (N + (subs t).length) (tk t K) ∧ Gb w mb w' 
  | .atom s, w, kb, mb, n, N, K, p, h, ht, hp, hl, hN => take_atom s w kb mb n N K p h ht hp hl hN
  | .one k a, w, kb, mb, n, N, K, p, h, ht, hp, hl, hN => take_one k a w kb mb n N K p h ht hp hl hN
  | .two k a b, w, kb, mb, n, N, K, p, h, ht, hp, hl, hN => by
    by_cases h3 : k = 3
    · subst h3
      exact take_pair a b (take_any a) (take_any b) w kb mb n N K p h ht hp hl hN
    · by_cases h5 : k = 5
      · subst h5
        exact take_sign a b (take_any b) w kb mb n N K p h ht hp hl hN
      · exact take_two k a b h3 h5 w kb mb n N K p h ht hp hl hN
end Go.Proofs.YtfcemnebhapidaaDoor.Te
