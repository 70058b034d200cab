/- Know.take: a term, and what can be taken apart without a key. -/
import Derived.Test.YtfcemnebhapidaaDoorTmHas
set_option linter.unusedVariables false
set_option linter.unusedSimpArgs false
namespace Go.Proofs.YtfcemnebhapidaaDoor.Te
open Go.RowKit Go.Proofs.YtfcemnebhapidaaDoor.Ow Go.Proofs.YtfcemnebhapidaaDoor.Mp Go.Maps
theorem mapUpdate_op {P : Program} {o : Oper} {a : Act} {w : World} {Kc : Act → World → Prop} {Q : Exit → Act → World → Prop} (m x v : Operand) (t : TypeId) (hop : o.op = Op.mapUpdate t m x v) (k e : TypeId) (K : Keyed P k) (ht : P.underlying t = some (.map k e)) (b n s : Nat) (f : Lit → Option Value)
    (hm : a.eval m = .map (some b)) (h : RMap P w k b n f s) (hn : n < maxLen) (key val : Value) (kl : Lit) (hx : a.eval x = key) (hv : a.eval v = val) (hkey : keyOf P k key = some kl)
    (hK : ∀ w', RMap P w' k b (n + 1) (upd f kl (some val)) (if (f kl).isSome then s else s + 1) → w.grownBy w' (some b) → Kc (a.put o.dst undef) w') : Oper.wp P o a w Kc Q := by
  obtain ⟨w', hrun, r1, r2⟩ := h.store (val := val) K ht hn hkey
  unfold Oper.wp
  simp [execOp, hop, hm, hx, hv, hrun, Result.andThen]
  exact hK _ r1 r2
theorem isMap {P : Program} {w : World} {k b n s : Nat} {f : Lit → Option Value} (h : RMap P w k b n f s) : ∃ es clock, w.heap[b]? = some (.map es clock) := by
  obtain ⟨D, ⟨es, clock, hb, _⟩, _⟩ := h
  exact ⟨es, clock, hb⟩
theorem IsKn.isMap {w : World} {kb mb n N : Nat} {K : List Tm} (h : IsKn w kb mb n N K) : ∃ es clock, w.heap[mb]? = some (.map es clock) := by obtain ⟨_, _, _, f, h4, _⟩ := h; exact Te.isMap h4
theorem MSpec.none {w : World} {K : List Tm} {f : Lit → Option Value} (h : MSpec w K f) (hw : ∀ t ∈ K, t.wf) {t : Tm} (ht : t.wf) (hn : t ∉ K) : f (.string t.txt) = none := by
  rcases h t.txt with ⟨u, p, h1, h2, _⟩ | h
  · exact absurd (txt_inj (hw u h1) ht h2 ▸ h1) hn
  · exact h.2
/-- one more is known -/
theorem IsKn.next {w Y : World} {kb mb n N : Nat} {K : List Tm} {t : Tm} {p : Value} {f : Lit → Option Value} (hb : Rg.Blk Y kb 65 #[.int .i64 (n : Int), .map (some mb)]) (hnd : K.Nodup) (hwf : ∀ t ∈ K, t.wf) (hfx : MSpec w K f) (ht : t.wf) (hn : t ∉ K)
    (hY : RMap Tryd.prog Y 9 mb (N + 1) (upd f (.string t.txt) (some (.agg (tv t p)))) (if (f (.string t.txt)).isSome then K.length else K.length + 1)) (hg : w.grownBy Y (some mb)) (hm : ∃ es clock, w.heap[mb]? = some (.map es clock)) (hp : TP w t p) : IsKn Y kb mb n (N + 1) (t :: K) := by
  rw [hfx.none hwf ht hn] at hY
  refine ⟨hb, List.nodup_cons.2 ⟨hn, hnd⟩, fun u hu => ?_, _, hY, fun x => ?_⟩
  · rcases List.mem_cons.1 hu with rfl | hu
    · exact ht
    · exact hwf u hu
  · by_cases hx : x = t.txt
    · subst hx
      exact .inl ⟨t, p, by simp, rfl, upd_same _ _ _, hp.map hg hm⟩
    · rw [upd_other f _ (fun e => hx (by injection e))]
      rcases (hfx.map hg hm) x with ⟨u, q, h1, h2, h3, h4⟩ | ⟨h1, h2⟩
      · exact .inl ⟨u, q, by simp [h1], h2, h3, h4⟩
      · refine .inr ⟨fun u hu => ?_, h2⟩
        rcases List.mem_cons.1 hu with rfl | hu
        · exact fun e => hx e.symm
        · exact h1 u hu
theorem subs_pos (t : Tm) : 1 ≤ (subs t).length := by cases t <;> simp [subs]
theorem IsKn.mono {w : World} {kb mb n N N' : Nat} {K : List Tm} (h : IsKn w kb mb n N K) (hN : N ≤ N') : IsKn w kb mb n N' K := by
  obtain ⟨h1, h2, h3, f, h4, h5⟩ := h
  exact ⟨h1, h2, h3, f, h4.mono hN, h5⟩
set_option maxRecDepth 20000 in
set_option maxHeartbeats 4000000 in
theorem take_atom (s : List UInt8)  (w : World) (kb mb n N : Nat) (K : List Tm) (p : Value) (h : IsKn w kb mb n N K) (ht : Tm.wf (.atom s)) (hp : TP w (.atom s) p) (hl : (Tm.txt (.atom s)).length ≤ 100000) (hN : N + (subs (.atom s)).length ≤ 1000000) : Calls Tryd.prog 36 #[.pointer (some ⟨kb, 0, none⟩), .agg (tv (.atom s) p)] w fun e w' => (∃ v, e = .returned v) ∧ IsKn w' kb mb n (N + (subs (.atom s)).length) (tk (.atom s) K) ∧ Gb w mb w'  := by
  obtain ⟨A, c, rfl⟩ := hp.slice
  have hnz := subs_pos (.atom s)
  have hs1 : ((strB (Tm.knd (.atom s))).toList == [112, 97, 105, 114]) = false := by rw [strB_toList]; rfl
  have hs2 : ((strB (Tm.knd (.atom s))).toList == [115, 105, 103, 110]) = false := by rw [strB_toList]; rfl
  have hNp : N < 1000000 := by omega
  by_cases hm : (.atom s) ∈ K
  · have hb : decide ((.atom s) ∈ K) = true := decide_eq_true hm
    have HTP := Lib.hid hp
    have HTW := Lib.hid ht
    have HTL := Lib.hid hl
    have HNN := Lib.hid hN
    have HKN := Lib.hid h
    have HNE := Lib.hid h.ne
    have HLM := Lib.hid h.ltM
    have HHS := Lib.hid (fun W (hW : Below w.heap.size w W) => has_any W kb mb n N K (h.below hW) (.atom s) ht (by omega) (.slice A (Tm.prt (.atom s)).length c) ⟨_, _, _, rfl⟩)
    have HPI := Lib.hid h.isMap
    clear h ht hp hl hN
    go_enter Tryd.func36, Tryd.ntmps36
    go_upto_region 1 with (refine Rg.box_fresh rfl 31 _ rfl #[.string (strB (Tm.knd (.atom s))), .string (strB (Tm.txt (.atom s))), .slice A (Tm.prt (.atom s)).length c] rfl ?_; intro X hX hbX hnX; have HX := Lib.hid hX; have HBX := Lib.hid hbX; clear hX hbX hnX)
    rw [hb] at HHS
    go_wp2_with (first
      | (refine Cv.load_cells rfl 31 _ rfl w.heap.size 0 rfl #[.string (strB (Tm.knd (.atom s))), .string (strB (Tm.txt (.atom s))), .slice A (Tm.prt (.atom s)).length c] _ (fun j v hv => by rw [Nat.zero_add]; exact HX.out.cell j hv) Tryd.underlying31 rfl (by kernel_rfl) ?_; skip)
      | (go_at_call 34; refine (HHS.out _ HBX.out).mono ?_; rintro e W1 ⟨rfl, hb1⟩; skip; have HBW := Lib.hid (HBX.out.trans (Below.mono hb1 HBX.out.size)); have HXW := Lib.hid (HX.out.below hb1 HX.out.lt); clear hb1))
    refine bodyPost_ret (results_none rfl _ _ _) rfl ?_
    exact ⟨⟨_, rfl⟩, by rw [show tk (.atom s) K = K by unfold tk; rw [if_pos hm]]; exact (HKN.out.below HBW.out).mono (by omega), Gb.lat (Gb.refl w mb) HBW.out⟩
  · have hb : decide ((.atom s) ∈ K) = false := decide_eq_false hm
    have HNI := Lib.hid hm
    have HTP := Lib.hid hp
    have HTW := Lib.hid ht
    have HTL := Lib.hid hl
    have HNN := Lib.hid hN
    have HKN := Lib.hid h
    have HNE := Lib.hid h.ne
    have HLM := Lib.hid h.ltM
    have HHS := Lib.hid (fun W (hW : Below w.heap.size w W) => has_any W kb mb n N K (h.below hW) (.atom s) ht (by omega) (.slice A (Tm.prt (.atom s)).length c) ⟨_, _, _, rfl⟩)
    have HPI := Lib.hid h.isMap
    clear h ht hp hl hN
    go_enter Tryd.func36, Tryd.ntmps36
    go_upto_region 1 with (refine Rg.box_fresh rfl 31 _ rfl #[.string (strB (Tm.knd (.atom s))), .string (strB (Tm.txt (.atom s))), .slice A (Tm.prt (.atom s)).length c] rfl ?_; intro X hX hbX hnX; have HX := Lib.hid hX; have HBX := Lib.hid hbX; clear hX hbX hnX)
    rw [hb] at HHS
    go_upto_region 2 with (first
      | (refine Cv.load_cells rfl 31 _ rfl w.heap.size 0 rfl #[.string (strB (Tm.knd (.atom s))), .string (strB (Tm.txt (.atom s))), .slice A (Tm.prt (.atom s)).length c] _ (fun j v hv => by rw [Nat.zero_add]; exact HX.out.cell j hv) Tryd.underlying31 rfl (by kernel_rfl) ?_; skip)
      | (go_at_call 34; refine (HHS.out _ HBX.out).mono ?_; rintro e W1 ⟨rfl, hb1⟩; skip; have HBW := Lib.hid (HBX.out.trans (Below.mono hb1 HBX.out.size)); have HXW := Lib.hid (HX.out.below hb1 HX.out.lt); clear hb1))
    have HKW := Lib.hid (HKN.out.below HBW.out)
    have HXM := Lib.hid (show w.heap.size ≠ mb from fun e => by have := HLM.out; omega)
    have HMP := Lib.hid HKW.out.isMap
    obtain ⟨hkb, hnd, hwf, f, hf, hfx⟩ := HKW.out
    have HKB := Lib.hid hkb; have HND := Lib.hid hnd; have HWF := Lib.hid hwf; have HF := Lib.hid hf; have HFX := Lib.hid hfx
    clear hkb hnd hwf hf hfx
    refine RL.start (Gb W1 mb) (by kernel_rfl) ((Gb.refl W1 mb).drew) ?_
    refine' RL.takeV (i := 0) (v := _) rfl (by kernel_rfl) (by kernel_rfl) (by kernel_rfl) (fun _ _ _ h => h) (by rfl) ?hk1 ?_
    case hk1 => (intro W hSW; go_simp; try with_reducible rfl)
    (try simp only [Act.put, List.setIfInBounds_toArray, List.set_cons_zero, List.set_cons_succ])
    refine' RL.takeV (i := 1) (v := _) rfl (by kernel_rfl) (by kernel_rfl) (by kernel_rfl) (fun _ _ _ h => h) (by rfl) ?hk2 ?_
    case hk2 => (intro W hSW; go_simp; try with_reducible rfl)
    (try simp only [Act.put, List.setIfInBounds_toArray, List.set_cons_zero, List.set_cons_succ])
    refine' RL.takeV (i := 2) (v := _) rfl (by kernel_rfl) (by kernel_rfl) (by kernel_rfl) (fun _ _ _ h => h) (by rfl) ?hk3 ?_
    case hk3 => (intro W hSW; go_simp; try with_reducible rfl)
    (try simp only [Act.put, List.setIfInBounds_toArray, List.set_cons_zero, List.set_cons_succ])
    refine' RL.takeV (i := 3) (v := _) rfl (by kernel_rfl) (by kernel_rfl) (by kernel_rfl) (fun _ _ _ h => h) (by rfl) ?hk4 ?_
    case hk4 => (intro W hSW; have k1 := (tblk_kept HKB.out hSW HNE.out).cell 1 (v := .map (some mb)) rfl; go_simp; try with_reducible rfl)
    (try simp only [Act.put, List.setIfInBounds_toArray, List.set_cons_zero, List.set_cons_succ])
    refine' RL.takeV (i := 4) (v := _) rfl (by kernel_rfl) (by kernel_rfl) (by kernel_rfl) (fun _ _ _ h => h) (by rfl) ?hk5 ?_
    case hk5 => (intro W hSW; go_simp; try with_reducible rfl)
    (try simp only [Act.put, List.setIfInBounds_toArray, List.set_cons_zero, List.set_cons_succ])
    refine' RL.takeV (i := 5) (v := _) rfl (by kernel_rfl) (by kernel_rfl) (by kernel_rfl) (fun _ _ _ h => h) (by rfl) ?hk6 ?_
    case hk6 => (intro W hSW; have x1 := (tblk_kept HXW.out hSW HXM.out).cell 1 (v := .string (strB (Tm.txt (.atom s)))) rfl; go_simp; try with_reducible rfl)
    (try simp only [Act.put, List.setIfInBounds_toArray, List.set_cons_zero, List.set_cons_succ])
    refine RL.takeV (i := 6) (v := .agg #[.string (strB (Tm.knd (.atom s))), .string (strB (Tm.txt (.atom s))), .slice A (Tm.prt (.atom s)).length c]) rfl (by kernel_rfl) (by kernel_rfl) (by kernel_rfl) (fun _ _ _ h => h) (by rfl) (fun W hSW => RT.run_row 31 _ rfl _ rfl _ _ (tblk_kept HXW.out hSW HXM.out) Tryd.underlying31 rfl (by kernel_rfl)) ?_
    (try simp only [Act.put, List.setIfInBounds_toArray, List.set_cons_zero, List.set_cons_succ])
    refine RL.stepK (i := 7) rfl (by kernel_rfl) (by rfl) (fun wa hlwa hswa KK hK => ?_)
    have HWA := Lib.hid (show Below W1.heap.size W1 wa from (Below.drew (Below.refl _ _)).trans hlwa)
    refine mapUpdate_op _ _ _ 63 rfl 9 31 keyed_str Tryd.underlying63 mb N _ f rfl (HF.out.below HWA.out HF.out.lt) (by have := HNN.out; unfold maxLen; omega) (.string (strB (Tm.txt (.atom s)))) (.agg #[.string (strB (Tm.knd (.atom s))), .string (strB (Tm.txt (.atom s))), .slice A (Tm.prt (.atom s)).length c]) _ rfl rfl (key_str Tryd.underlying9 (strB (Tm.txt (.atom s))) (by rw [strB_size]; have := HTL.out; unfold maxLen; omega)) ?_
    intro Y hY hgY
    have HKY := Lib.hid (show IsKn Y kb mb n (N + 1) ((.atom s) :: K) from IsKn.next (w := wa) (t := (.atom s)) (tblk_kept (HKB.out.below HWA.out HKB.out.lt) hgY HNE.out) HND.out HWF.out (HFX.out.below HWA.out) HTW.out HNI.out hY hgY (by obtain ⟨es, cl, hm⟩ := HMP.out; exact ⟨es, cl, (HWA.out.block mb HF.out.lt).trans hm⟩) ((HTP.out.below HBW.out).below HWA.out))
    have HGY := Lib.hid (show Gb W1 mb Y from hswa.trans hgY)
    refine hK.out _ _ HGY.out ?_
    clear hK hY hgY
    (try simp only [Act.put, List.setIfInBounds_toArray, List.set_cons_zero, List.set_cons_succ])
    refine RL.done (by kernel_rfl) (fun Z hlZ hsZ => ?_)
    have HKZ := Lib.hid (HKY.out.below hlZ); have HGZ := Lib.hid (show Gb W1 mb Z from hsZ)
    have HXZ := Lib.hid (tblk_kept HXW.out HGZ.out HXM.out)
    have HGW := Lib.hid (show Gb w mb Z from (Gb.lat (Gb.refl w mb) HBW.out).trans HGZ.out)
    clear hlZ hsZ
    have x0 := HXZ.out.cell 0 (v := .string (strB (Tm.knd (.atom s)))) rfl
    go_wp2
    first
      | refine bodyPost_end (results_none rfl _ _ _) rfl ?_
      | refine bodyPost_ret (results_none rfl _ _ _) rfl ?_
    exact ⟨⟨_, rfl⟩, by rw [show tk (.atom s) K = (.atom s) :: K by unfold tk; rw [if_neg hm]]; exact HKZ.out.mono (by have := subs_pos ((.atom s)); omega), HGW.out⟩
theorem word_ne {k : Nat} (h : k < 7) : (k ≠ 3 → word k ≠ [112, 97, 105, 114]) ∧ (k ≠ 5 → word k ≠ [115, 105, 103, 110]) := by
  refine ⟨fun hk e => ?_, fun hk e => ?_⟩
  · have := congrArg numW e
    rw [numW_word k h, show numW [112, 97, 105, 114] = 3 by decide] at this
    exact hk this
  · have := congrArg numW e
    rw [numW_word k h, show numW [115, 105, 103, 110] = 5 by decide] at this
    exact hk this
set_option maxRecDepth 20000 in
set_option maxHeartbeats 4000000 in
theorem take_one (k : Nat) (a : Tm)  (w : World) (kb mb n N : Nat) (K : List Tm) (p : Value) (h : IsKn w kb mb n N K) (ht : Tm.wf (.one k a)) (hp : TP w (.one k a) p) (hl : (Tm.txt (.one k a)).length ≤ 100000) (hN : N + (subs (.one k a)).length ≤ 1000000) : Calls Tryd.prog 36 #[.pointer (some ⟨kb, 0, none⟩), .agg (tv (.one k a) p)] w fun e w' => (∃ v, e = .returned v) ∧ IsKn w' kb mb n (N + (subs (.one k a)).length) (tk (.one k a) K) ∧ Gb w mb w'  := by
  obtain ⟨A, c, rfl⟩ := hp.slice
  have hnz := subs_pos (.one k a)
  have hs1 : ((strB (Tm.knd (.one k a))).toList == [112, 97, 105, 114]) = false := by rw [strB_toList, beq_eq_false_iff_ne]; exact (word_ne (k := k) (by have := ht.1; omega)).1 (by have := ht.1; omega)
  have hs2 : ((strB (Tm.knd (.one k a))).toList == [115, 105, 103, 110]) = false := by rw [strB_toList, beq_eq_false_iff_ne]; exact (word_ne (k := k) (by have := ht.1; omega)).2 (by have := ht.1; omega)
  have hNp : N < 1000000 := by omega
  by_cases hm : (.one k a) ∈ K
  · have hb : decide ((.one k a) ∈ K) = true := decide_eq_true hm
    have HTP := Lib.hid hp
    have HTW := Lib.hid ht
    have HTL := Lib.hid hl
    have HNN := Lib.hid hN
    have HKN := Lib.hid h
    have HNE := Lib.hid h.ne
    have HLM := Lib.hid h.ltM
    have HHS := Lib.hid (fun W (hW : Below w.heap.size w W) => has_any W kb mb n N K (h.below hW) (.one k a) ht (by omega) (.slice A (Tm.prt (.one k a)).length c) ⟨_, _, _, rfl⟩)
    have HPI := Lib.hid h.isMap
    clear h ht hp hl hN
    go_enter Tryd.func36, Tryd.ntmps36
    go_upto_region 1 with (refine Rg.box_fresh rfl 31 _ rfl #[.string (strB (Tm.knd (.one k a))), .string (strB (Tm.txt (.one k a))), .slice A (Tm.prt (.one k a)).length c] rfl ?_; intro X hX hbX hnX; have HX := Lib.hid hX; have HBX := Lib.hid hbX; clear hX hbX hnX)
    rw [hb] at HHS
    go_wp2_with (first
      | (refine Cv.load_cells rfl 31 _ rfl w.heap.size 0 rfl #[.string (strB (Tm.knd (.one k a))), .string (strB (Tm.txt (.one k a))), .slice A (Tm.prt (.one k a)).length c] _ (fun j v hv => by rw [Nat.zero_add]; exact HX.out.cell j hv) Tryd.underlying31 rfl (by kernel_rfl) ?_; skip)
      | (go_at_call 34; refine (HHS.out _ HBX.out).mono ?_; rintro e W1 ⟨rfl, hb1⟩; skip; have HBW := Lib.hid (HBX.out.trans (Below.mono hb1 HBX.out.size)); have HXW := Lib.hid (HX.out.below hb1 HX.out.lt); clear hb1))
    refine bodyPost_ret (results_none rfl _ _ _) rfl ?_
    exact ⟨⟨_, rfl⟩, by rw [show tk (.one k a) K = K by unfold tk; rw [if_pos hm]]; exact (HKN.out.below HBW.out).mono (by omega), Gb.lat (Gb.refl w mb) HBW.out⟩
  · have hb : decide ((.one k a) ∈ K) = false := decide_eq_false hm
    have HNI := Lib.hid hm
    have HTP := Lib.hid hp
    have HTW := Lib.hid ht
    have HTL := Lib.hid hl
    have HNN := Lib.hid hN
    have HKN := Lib.hid h
    have HNE := Lib.hid h.ne
    have HLM := Lib.hid h.ltM
    have HHS := Lib.hid (fun W (hW : Below w.heap.size w W) => has_any W kb mb n N K (h.below hW) (.one k a) ht (by omega) (.slice A (Tm.prt (.one k a)).length c) ⟨_, _, _, rfl⟩)
    have HPI := Lib.hid h.isMap
    clear h ht hp hl hN
    go_enter Tryd.func36, Tryd.ntmps36
    go_upto_region 1 with (refine Rg.box_fresh rfl 31 _ rfl #[.string (strB (Tm.knd (.one k a))), .string (strB (Tm.txt (.one k a))), .slice A (Tm.prt (.one k a)).length c] rfl ?_; intro X hX hbX hnX; have HX := Lib.hid hX; have HBX := Lib.hid hbX; clear hX hbX hnX)
    rw [hb] at HHS
    go_upto_region 2 with (first
      | (refine Cv.load_cells rfl 31 _ rfl w.heap.size 0 rfl #[.string (strB (Tm.knd (.one k a))), .string (strB (Tm.txt (.one k a))), .slice A (Tm.prt (.one k a)).length c] _ (fun j v hv => by rw [Nat.zero_add]; exact HX.out.cell j hv) Tryd.underlying31 rfl (by kernel_rfl) ?_; skip)
      | (go_at_call 34; refine (HHS.out _ HBX.out).mono ?_; rintro e W1 ⟨rfl, hb1⟩; skip; have HBW := Lib.hid (HBX.out.trans (Below.mono hb1 HBX.out.size)); have HXW := Lib.hid (HX.out.below hb1 HX.out.lt); clear hb1))
    have HKW := Lib.hid (HKN.out.below HBW.out)
    have HXM := Lib.hid (show w.heap.size ≠ mb from fun e => by have := HLM.out; omega)
    have HMP := Lib.hid HKW.out.isMap
    obtain ⟨hkb, hnd, hwf, f, hf, hfx⟩ := HKW.out
    have HKB := Lib.hid hkb; have HND := Lib.hid hnd; have HWF := Lib.hid hwf; have HF := Lib.hid hf; have HFX := Lib.hid hfx
    clear hkb hnd hwf hf hfx
    refine RL.start (Gb W1 mb) (by kernel_rfl) ((Gb.refl W1 mb).drew) ?_
    refine' RL.takeV (i := 0) (v := _) rfl (by kernel_rfl) (by kernel_rfl) (by kernel_rfl) (fun _ _ _ h => h) (by rfl) ?hk7 ?_
    case hk7 => (intro W hSW; go_simp; try with_reducible rfl)
    (try simp only [Act.put, List.setIfInBounds_toArray, List.set_cons_zero, List.set_cons_succ])
    refine' RL.takeV (i := 1) (v := _) rfl (by kernel_rfl) (by kernel_rfl) (by kernel_rfl) (fun _ _ _ h => h) (by rfl) ?hk8 ?_
    case hk8 => (intro W hSW; go_simp; try with_reducible rfl)
    (try simp only [Act.put, List.setIfInBounds_toArray, List.set_cons_zero, List.set_cons_succ])
    refine' RL.takeV (i := 2) (v := _) rfl (by kernel_rfl) (by kernel_rfl) (by kernel_rfl) (fun _ _ _ h => h) (by rfl) ?hk9 ?_
    case hk9 => (intro W hSW; go_simp; try with_reducible rfl)
    (try simp only [Act.put, List.setIfInBounds_toArray, List.set_cons_zero, List.set_cons_succ])
    refine' RL.takeV (i := 3) (v := _) rfl (by kernel_rfl) (by kernel_rfl) (by kernel_rfl) (fun _ _ _ h => h) (by rfl) ?hk10 ?_
    case hk10 => (intro W hSW; have k1 := (tblk_kept HKB.out hSW HNE.out).cell 1 (v := .map (some mb)) rfl; go_simp; try with_reducible rfl)
    (try simp only [Act.put, List.setIfInBounds_toArray, List.set_cons_zero, List.set_cons_succ])
    refine' RL.takeV (i := 4) (v := _) rfl (by kernel_rfl) (by kernel_rfl) (by kernel_rfl) (fun _ _ _ h => h) (by rfl) ?hk11 ?_
    case hk11 => (intro W hSW; go_simp; try with_reducible rfl)
    (try simp only [Act.put, List.setIfInBounds_toArray, List.set_cons_zero, List.set_cons_succ])
    refine' RL.takeV (i := 5) (v := _) rfl (by kernel_rfl) (by kernel_rfl) (by kernel_rfl) (fun _ _ _ h => h) (by rfl) ?hk12 ?_
    case hk12 => (intro W hSW; have x1 := (tblk_kept HXW.out hSW HXM.out).cell 1 (v := .string (strB (Tm.txt (.one k a)))) rfl; go_simp; try with_reducible rfl)
    (try simp only [Act.put, List.setIfInBounds_toArray, List.set_cons_zero, List.set_cons_succ])
    refine RL.takeV (i := 6) (v := .agg #[.string (strB (Tm.knd (.one k a))), .string (strB (Tm.txt (.one k a))), .slice A (Tm.prt (.one k a)).length c]) rfl (by kernel_rfl) (by kernel_rfl) (by kernel_rfl) (fun _ _ _ h => h) (by rfl) (fun W hSW => RT.run_row 31 _ rfl _ rfl _ _ (tblk_kept HXW.out hSW HXM.out) Tryd.underlying31 rfl (by kernel_rfl)) ?_
    (try simp only [Act.put, List.setIfInBounds_toArray, List.set_cons_zero, List.set_cons_succ])
    refine RL.stepK (i := 7) rfl (by kernel_rfl) (by rfl) (fun wa hlwa hswa KK hK => ?_)
    have HWA := Lib.hid (show Below W1.heap.size W1 wa from (Below.drew (Below.refl _ _)).trans hlwa)
    refine mapUpdate_op _ _ _ 63 rfl 9 31 keyed_str Tryd.underlying63 mb N _ f rfl (HF.out.below HWA.out HF.out.lt) (by have := HNN.out; unfold maxLen; omega) (.string (strB (Tm.txt (.one k a)))) (.agg #[.string (strB (Tm.knd (.one k a))), .string (strB (Tm.txt (.one k a))), .slice A (Tm.prt (.one k a)).length c]) _ rfl rfl (key_str Tryd.underlying9 (strB (Tm.txt (.one k a))) (by rw [strB_size]; have := HTL.out; unfold maxLen; omega)) ?_
    intro Y hY hgY
    have HKY := Lib.hid (show IsKn Y kb mb n (N + 1) ((.one k a) :: K) from IsKn.next (w := wa) (t := (.one k a)) (tblk_kept (HKB.out.below HWA.out HKB.out.lt) hgY HNE.out) HND.out HWF.out (HFX.out.below HWA.out) HTW.out HNI.out hY hgY (by obtain ⟨es, cl, hm⟩ := HMP.out; exact ⟨es, cl, (HWA.out.block mb HF.out.lt).trans hm⟩) ((HTP.out.below HBW.out).below HWA.out))
    have HGY := Lib.hid (show Gb W1 mb Y from hswa.trans hgY)
    refine hK.out _ _ HGY.out ?_
    clear hK hY hgY
    (try simp only [Act.put, List.setIfInBounds_toArray, List.set_cons_zero, List.set_cons_succ])
    refine RL.done (by kernel_rfl) (fun Z hlZ hsZ => ?_)
    have HKZ := Lib.hid (HKY.out.below hlZ); have HGZ := Lib.hid (show Gb W1 mb Z from hsZ)
    have HXZ := Lib.hid (tblk_kept HXW.out HGZ.out HXM.out)
    have HGW := Lib.hid (show Gb w mb Z from (Gb.lat (Gb.refl w mb) HBW.out).trans HGZ.out)
    clear hlZ hsZ
    have x0 := HXZ.out.cell 0 (v := .string (strB (Tm.knd (.one k a)))) rfl
    go_wp2
    first
      | refine bodyPost_end (results_none rfl _ _ _) rfl ?_
      | refine bodyPost_ret (results_none rfl _ _ _) rfl ?_
    exact ⟨⟨_, rfl⟩, by rw [show tk (.one k a) K = (.one k a) :: K by unfold tk; rw [if_neg hm]]; exact HKZ.out.mono (by have := subs_pos ((.one k a)); omega), HGW.out⟩
set_option maxRecDepth 20000 in
set_option maxHeartbeats 4000000 in
theorem take_two (k : Nat) (a b : Tm) (h3 : k ≠ 3) (h5 : k ≠ 5) (w : World) (kb mb n N : Nat) (K : List Tm) (p : Value) (h : IsKn w kb mb n N K) (ht : Tm.wf (.two k a b)) (hp : TP w (.two k a b) p) (hl : (Tm.txt (.two k a b)).length ≤ 100000) (hN : N + (subs (.two k a b)).length ≤ 1000000) : Calls Tryd.prog 36 #[.pointer (some ⟨kb, 0, none⟩), .agg (tv (.two k a b) p)] w fun e w' => (∃ v, e = .returned v) ∧ IsKn w' kb mb n (N + (subs (.two k a b)).length) (tk (.two k a b) K) ∧ Gb w mb w'  := by
  obtain ⟨A, c, rfl⟩ := hp.slice
  have hnz := subs_pos (.two k a b)
  have hs1 : ((strB (Tm.knd (.two k a b))).toList == [112, 97, 105, 114]) = false := by rw [strB_toList, beq_eq_false_iff_ne]; exact (word_ne (k := k) ht.2.1).1 h3
  have hs2 : ((strB (Tm.knd (.two k a b))).toList == [115, 105, 103, 110]) = false := by rw [strB_toList, beq_eq_false_iff_ne]; exact (word_ne (k := k) ht.2.1).2 h5
  have hNp : N < 1000000 := by omega
  by_cases hm : (.two k a b) ∈ K
  · have hb : decide ((.two k a b) ∈ K) = true := decide_eq_true hm
    have HTP := Lib.hid hp
    have HTW := Lib.hid ht
    have HTL := Lib.hid hl
    have HNN := Lib.hid hN
    have HKN := Lib.hid h
    have HNE := Lib.hid h.ne
    have HLM := Lib.hid h.ltM
    have HHS := Lib.hid (fun W (hW : Below w.heap.size w W) => has_any W kb mb n N K (h.below hW) (.two k a b) ht (by omega) (.slice A (Tm.prt (.two k a b)).length c) ⟨_, _, _, rfl⟩)
    have HPI := Lib.hid h.isMap
    clear h ht hp hl hN
    go_enter Tryd.func36, Tryd.ntmps36
    go_upto_region 1 with (refine Rg.box_fresh rfl 31 _ rfl #[.string (strB (Tm.knd (.two k a b))), .string (strB (Tm.txt (.two k a b))), .slice A (Tm.prt (.two k a b)).length c] rfl ?_; intro X hX hbX hnX; have HX := Lib.hid hX; have HBX := Lib.hid hbX; clear hX hbX hnX)
    rw [hb] at HHS
    go_wp2_with (first
      | (refine Cv.load_cells rfl 31 _ rfl w.heap.size 0 rfl #[.string (strB (Tm.knd (.two k a b))), .string (strB (Tm.txt (.two k a b))), .slice A (Tm.prt (.two k a b)).length c] _ (fun j v hv => by rw [Nat.zero_add]; exact HX.out.cell j hv) Tryd.underlying31 rfl (by kernel_rfl) ?_; skip)
      | (go_at_call 34; refine (HHS.out _ HBX.out).mono ?_; rintro e W1 ⟨rfl, hb1⟩; skip; have HBW := Lib.hid (HBX.out.trans (Below.mono hb1 HBX.out.size)); have HXW := Lib.hid (HX.out.below hb1 HX.out.lt); clear hb1))
    refine bodyPost_ret (results_none rfl _ _ _) rfl ?_
    exact ⟨⟨_, rfl⟩, by rw [show tk (.two k a b) K = K by unfold tk; rw [if_pos hm]]; exact (HKN.out.below HBW.out).mono (by omega), Gb.lat (Gb.refl w mb) HBW.out⟩
  · have hb : decide ((.two k a b) ∈ K) = false := decide_eq_false hm
    have HNI := Lib.hid hm
    have HTP := Lib.hid hp
    have HTW := Lib.hid ht
    have HTL := Lib.hid hl
    have HNN := Lib.hid hN
    have HKN := Lib.hid h
    have HNE := Lib.hid h.ne
    have HLM := Lib.hid h.ltM
    have HHS := Lib.hid (fun W (hW : Below w.heap.size w W) => has_any W kb mb n N K (h.below hW) (.two k a b) ht (by omega) (.slice A (Tm.prt (.two k a b)).length c) ⟨_, _, _, rfl⟩)
    have HPI := Lib.hid h.isMap
    clear h ht hp hl hN
    go_enter Tryd.func36, Tryd.ntmps36
    go_upto_region 1 with (refine Rg.box_fresh rfl 31 _ rfl #[.string (strB (Tm.knd (.two k a b))), .string (strB (Tm.txt (.two k a b))), .slice A (Tm.prt (.two k a b)).length c] rfl ?_; intro X hX hbX hnX; have HX := Lib.hid hX; have HBX := Lib.hid hbX; clear hX hbX hnX)
    rw [hb] at HHS
    go_upto_region 2 with (first
      | (refine Cv.load_cells rfl 31 _ rfl w.heap.size 0 rfl #[.string (strB (Tm.knd (.two k a b))), .string (strB (Tm.txt (.two k a b))), .slice A (Tm.prt (.two k a b)).length c] _ (fun j v hv => by rw [Nat.zero_add]; exact HX.out.cell j hv) Tryd.underlying31 rfl (by kernel_rfl) ?_; skip)
      | (go_at_call 34; refine (HHS.out _ HBX.out).mono ?_; rintro e W1 ⟨rfl, hb1⟩; skip; have HBW := Lib.hid (HBX.out.trans (Below.mono hb1 HBX.out.size)); have HXW := Lib.hid (HX.out.below hb1 HX.out.lt); clear hb1))
    have HKW := Lib.hid (HKN.out.below HBW.out)
    have HXM := Lib.hid (show w.heap.size ≠ mb from fun e => by have := HLM.out; omega)
    have HMP := Lib.hid HKW.out.isMap
    obtain ⟨hkb, hnd, hwf, f, hf, hfx⟩ := HKW.out
    have HKB := Lib.hid hkb; have HND := Lib.hid hnd; have HWF := Lib.hid hwf; have HF := Lib.hid hf; have HFX := Lib.hid hfx
    clear hkb hnd hwf hf hfx
    refine RL.start (Gb W1 mb) (by kernel_rfl) ((Gb.refl W1 mb).drew) ?_
    refine' RL.takeV (i := 0) (v := _) rfl (by kernel_rfl) (by kernel_rfl) (by kernel_rfl) (fun _ _ _ h => h) (by rfl) ?hk13 ?_
    case hk13 => (intro W hSW; go_simp; try with_reducible rfl)
    (try simp only [Act.put, List.setIfInBounds_toArray, List.set_cons_zero, List.set_cons_succ])
    refine' RL.takeV (i := 1) (v := _) rfl (by kernel_rfl) (by kernel_rfl) (by kernel_rfl) (fun _ _ _ h => h) (by rfl) ?hk14 ?_
    case hk14 => (intro W hSW; go_simp; try with_reducible rfl)
    (try simp only [Act.put, List.setIfInBounds_toArray, List.set_cons_zero, List.set_cons_succ])
    refine' RL.takeV (i := 2) (v := _) rfl (by kernel_rfl) (by kernel_rfl) (by kernel_rfl) (fun _ _ _ h => h) (by rfl) ?hk15 ?_
    case hk15 => (intro W hSW; go_simp; try with_reducible rfl)
    (try simp only [Act.put, List.setIfInBounds_toArray, List.set_cons_zero, List.set_cons_succ])
    refine' RL.takeV (i := 3) (v := _) rfl (by kernel_rfl) (by kernel_rfl) (by kernel_rfl) (fun _ _ _ h => h) (by rfl) ?hk16 ?_
    case hk16 => (intro W hSW; have k1 := (tblk_kept HKB.out hSW HNE.out).cell 1 (v := .map (some mb)) rfl; go_simp; try with_reducible rfl)
    (try simp only [Act.put, List.setIfInBounds_toArray, List.set_cons_zero, List.set_cons_succ])
    refine' RL.takeV (i := 4) (v := _) rfl (by kernel_rfl) (by kernel_rfl) (by kernel_rfl) (fun _ _ _ h => h) (by rfl) ?hk17 ?_
    case hk17 => (intro W hSW; go_simp; try with_reducible rfl)
    (try simp only [Act.put, List.setIfInBounds_toArray, List.set_cons_zero, List.set_cons_succ])
    refine' RL.takeV (i := 5) (v := _) rfl (by kernel_rfl) (by kernel_rfl) (by kernel_rfl) (fun _ _ _ h => h) (by rfl) ?hk18 ?_
    case hk18 => (intro W hSW; have x1 := (tblk_kept HXW.out hSW HXM.out).cell 1 (v := .string (strB (Tm.txt (.two k a b)))) rfl; go_simp; try with_reducible rfl)
    (try simp only [Act.put, List.setIfInBounds_toArray, List.set_cons_zero, List.set_cons_succ])
    refine RL.takeV (i := 6) (v := .agg #[.string (strB (Tm.knd (.two k a b))), .string (strB (Tm.txt (.two k a b))), .slice A (Tm.prt (.two k a b)).length c]) rfl (by kernel_rfl) (by kernel_rfl) (by kernel_rfl) (fun _ _ _ h => h) (by rfl) (fun W hSW => RT.run_row 31 _ rfl _ rfl _ _ (tblk_kept HXW.out hSW HXM.out) Tryd.underlying31 rfl (by kernel_rfl)) ?_
    (try simp only [Act.put, List.setIfInBounds_toArray, List.set_cons_zero, List.set_cons_succ])
    refine RL.stepK (i := 7) rfl (by kernel_rfl) (by rfl) (fun wa hlwa hswa KK hK => ?_)
    have HWA := Lib.hid (show Below W1.heap.size W1 wa from (Below.drew (Below.refl _ _)).trans hlwa)
    refine mapUpdate_op _ _ _ 63 rfl 9 31 keyed_str Tryd.underlying63 mb N _ f rfl (HF.out.below HWA.out HF.out.lt) (by have := HNN.out; unfold maxLen; omega) (.string (strB (Tm.txt (.two k a b)))) (.agg #[.string (strB (Tm.knd (.two k a b))), .string (strB (Tm.txt (.two k a b))), .slice A (Tm.prt (.two k a b)).length c]) _ rfl rfl (key_str Tryd.underlying9 (strB (Tm.txt (.two k a b))) (by rw [strB_size]; have := HTL.out; unfold maxLen; omega)) ?_
    intro Y hY hgY
    have HKY := Lib.hid (show IsKn Y kb mb n (N + 1) ((.two k a b) :: K) from IsKn.next (w := wa) (t := (.two k a b)) (tblk_kept (HKB.out.below HWA.out HKB.out.lt) hgY HNE.out) HND.out HWF.out (HFX.out.below HWA.out) HTW.out HNI.out hY hgY (by obtain ⟨es, cl, hm⟩ := HMP.out; exact ⟨es, cl, (HWA.out.block mb HF.out.lt).trans hm⟩) ((HTP.out.below HBW.out).below HWA.out))
    have HGY := Lib.hid (show Gb W1 mb Y from hswa.trans hgY)
    refine hK.out _ _ HGY.out ?_
    clear hK hY hgY
    (try simp only [Act.put, List.setIfInBounds_toArray, List.set_cons_zero, List.set_cons_succ])
    refine RL.done (by kernel_rfl) (fun Z hlZ hsZ => ?_)
    have HKZ := Lib.hid (HKY.out.below hlZ); have HGZ := Lib.hid (show Gb W1 mb Z from hsZ)
    have HXZ := Lib.hid (tblk_kept HXW.out HGZ.out HXM.out)
    have HGW := Lib.hid (show Gb w mb Z from (Gb.lat (Gb.refl w mb) HBW.out).trans HGZ.out)
    clear hlZ hsZ
    have x0 := HXZ.out.cell 0 (v := .string (strB (Tm.knd (.two k a b)))) rfl
    go_wp2
    first
      | refine bodyPost_end (results_none rfl _ _ _) rfl ?_
      | refine bodyPost_ret (results_none rfl _ _ _) rfl ?_
    exact ⟨⟨_, rfl⟩, by rw [show tk (.two k a b) K = (.two k a b) :: K by unfold tk; rw [if_neg hm, if_neg h3, if_neg h5]]; exact HKZ.out.mono (by have := subs_pos ((.two k a b)); omega), HGW.out⟩
end Go.Proofs.YtfcemnebhapidaaDoor.Te
