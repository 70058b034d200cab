/- The reader's word and sign; count. -/
import Derived.Test.YtfcemnebhapidaaDoorTmMem
import Derived.Test.YtfcemnebhapidaaDoorShelf
set_option linter.unusedVariables false
set_option linter.unusedSimpArgs false
namespace Go.Proofs.YtfcemnebhapidaaDoor.Te
open Go.RowKit Go.Proofs.YtfcemnebhapidaaDoor.Ow
theorem store_str {P : Program} {ops : Array Oper} {rest : List Oper} {o : Oper} {a : Act} {w : World} {Q : Exit → Act → World → Prop} (hgd : o.guard = none) (ty : TypeId) (x y : Operand) (ho : o.op = .store ty x y)
    {b j T : Nat} {cs : Array Value} {old : Value} {s : ByteArray} (hx : a.eval x = .pointer (some ⟨b, j, none⟩)) (hy : a.eval y = .string s) (hu : P.underlying ty = some .string) (hi : (P.info? ty).map (·.size) = some 1) (hR : Rg.Blk w b T cs) (hj : cs[j]? = some old)
    (h : ∀ w', Rg.Blk w' b T (cs.setIfInBounds j (.string s)) → w.grownBy w' (some b) → wpList P ops Q rest (a.put o.dst undef) w') : wpList P ops Q (o :: rest) a w :=
  wpList_plain hgd fun _ hK => by
    have hx' := hx
    have hy' := hy
    have hc := hR.cell j hj
    have hf := hR.frozen j
    simp [go_sem] at hx' hy'
    unfold Oper.wp execOp
    cases hq : P.info? ty with
    | none => simp [hq] at hi
    | some i =>
    have hs : i.size = 1 := by simpa [hq] using hi
    simp [ho, hx', hy', go_sem, hc, hf, hu, sizeOf, typeInfo, hq, hs]
    have hB : Rg.Blk (w.setCell ⟨b, j, none⟩ (.string s)) b T (cs.setIfInBounds j (.string s)) := by
      have h2 := hR
      unfold Rg.Blk at *
      rw [heap_setCell_same w b j _ _ _ h2]
    have := hK _ _ (h _ hB (Cl.grown_setCell w b j _))
    simpa [go_sem] using this
theorem grown_below {w w1 w2 : World} {b : Nat} (h : Below w.heap.size w w1) (hg : w1.grownBy w2 (some b)) : w.grownBy w2 (some b) :=
  ⟨hg.os.trans h.os, hg.tape.trans h.tape, hg.output.trans h.output, Nat.le_trans h.size hg.size, fun k hk hne => (hg.block k (Nat.lt_of_lt_of_le hk h.size) hne).trans (h.block k hk)⟩
theorem get_list (s : ByteArray) (k : Nat) (h : k < s.size) : s.data.toList[k]? = some s[k] := by rw [List.getElem?_eq_getElem (by rw [Array.length_toList]; exact h)]; rfl
/-- the first k are letters and digits -/
def alnTo (l : List UInt8) (k : Nat) : Prop := ∀ j x, j < k → l[j]? = some x → aln x = true
theorem alnTo_next {l : List UInt8} {k : Nat} {x : UInt8} (h : alnTo l k) (hx : l[k]? = some x) (ho : aln x = true) : alnTo l (k + 1) := fun j y hj hy => by
  by_cases e : j = k
  · subst e; rw [hx] at hy; cases hy; exact ho
  · exact h j y (by omega) hy
theorem alnTo_split : ∀ (l : List UInt8) (k : Nat), k ≤ l.length → alnTo l k → (∀ x, l[k]? = some x → aln x = false) → l.take k = l.takeWhile aln ∧ l.drop k = l.dropWhile aln
  | [], k, h, _, _ => by
    obtain rfl : k = 0 := by simpa using h
    exact ⟨rfl, rfl⟩
  | c :: l, 0, _, _, h2 => by
    have := h2 c rfl
    simp [List.takeWhile_cons, List.dropWhile_cons, this]
  | c :: l, k + 1, h, h1, h2 => by
    have hc := h1 0 c (by omega) rfl
    have := alnTo_split l k (by simpa using h) (fun j x hj hx => h1 (j + 1) x (by omega) (by simpa using hx)) (fun x hx => h2 x (by simpa using hx))
    simp [List.takeWhile_cons, List.dropWhile_cons, hc, this.1, this.2]
theorem alnTo_stop {l : List UInt8} {k : Nat} {x : UInt8} (h : alnTo l k) (hx : l[k]? = some x) (ho : aln x = false) : l.take k = l.takeWhile aln ∧ l.drop k = l.dropWhile aln :=
  alnTo_split l k (Nat.le_of_lt (List.getElem?_eq_some_iff.1 hx).1) h (fun y hy => by rw [hx] at hy; cases hy; exact ho)
set_option maxRecDepth 20000 in
set_option maxHeartbeats 8000000 in
theorem word_any (w : World) (b : Nat) (S : ByteArray) (hB : Rg.Blk w b 74 #[.string S]) (hs : S.size ≤ 1000000) :
    Calls Tryd.prog 51 #[.pointer (some ⟨b, 0, none⟩)] w fun e w' => e = .returned (.string (strB (S.data.toList.takeWhile aln))) ∧ Rg.Blk w' b 74 #[.string (strB (S.data.toList.dropWhile aln))] ∧ w.grownBy w' (some b) := by
  have HB := Lib.hid hB
  have HL := Lib.hid (show S.data.toList.length = S.size from Array.length_toList)
  clear hB
  go_enter Tryd.func51, Tryd.ntmps51
  go_wp2
  go_loopw [3] (fun i wr => ∃ k : Nat, k ≤ S.size ∧ i = .int .i64 k ∧ alnTo S.data.toList k ∧ Below w.heap.size w wr) (fun i _ => S.size - (intOf i).toNat)
  case atStart => exact ⟨0, Nat.zero_le _, rfl, fun j x hj => by omega, Below.refl _ _⟩
  case round =>
    obtain ⟨k, hk, rfl, hup, hbw⟩ := hrel
    have HU := Lib.hid hup
    have HW := Lib.hid hbw
    have HB2 := Lib.hid (HB.out.below hbw HB.out.lt)
    have c0 := HB2.out.cell 0 (v := .string S) rfl
    clear hup hbw
    by_cases hlt : k < S.size
    · have hik : (k : Int) < S.size := by omega
      have hdl : decide ((k : Int) < (S.size : Int)) = true := by rw [decide_eq_true_iff]; omega
      have HX := Lib.hid (get_list S k hlt)
      have hcl : (97 ≤ S[k].toNat ∧ S[k].toNat ≤ 122) ∨ 122 < S[k].toNat ∨ (57 < S[k].toNat ∧ S[k].toNat < 97) ∨ (48 ≤ S[k].toNat ∧ S[k].toNat ≤ 57) ∨ S[k].toNat < 48 := by omega
      rcases hcl with hc | hc | hc | hc | hc
      · have HA := Lib.hid (show aln S[k] = true by unfold aln; simp; omega)
        have ha1 : decide ((97 : Int) ≤ (S[k].toNat : Int)) = true := by rw [decide_eq_true_iff]; omega
        have ha2 : decide ((S[k].toNat : Int) ≤ 122) = true := by rw [decide_eq_true_iff]; omega
        have ha3 : decide ((48 : Int) ≤ (S[k].toNat : Int)) = true := by rw [decide_eq_true_iff]; omega
        have ha4 : decide ((S[k].toNat : Int) ≤ 57) = false := by rw [decide_eq_false_iff_not]; omega
        clear hc
        have HN := Lib.hid (alnTo_next HU.out HX.out HA.out)
        go_wp2
        go_roundw
        case rel =>
          first
            | exact ⟨k + 1, by omega, by go_num, HN.out, HW.out⟩
            | ((repeat apply Exists.intro); refine ⟨?_, rfl⟩; exact ⟨k + 1, by omega, by go_num, HN.out, HW.out⟩)
        case measure => (first | (simp [intOf]; done) | (simp [intOf]; omega))
      · have HA := Lib.hid (show aln S[k] = false by unfold aln; simp; omega)
        have ha1 : decide ((97 : Int) ≤ (S[k].toNat : Int)) = true := by rw [decide_eq_true_iff]; omega
        have ha2 : decide ((S[k].toNat : Int) ≤ 122) = false := by rw [decide_eq_false_iff_not]; omega
        have ha3 : decide ((48 : Int) ≤ (S[k].toNat : Int)) = true := by rw [decide_eq_true_iff]; omega
        have ha4 : decide ((S[k].toNat : Int) ≤ 57) = false := by rw [decide_eq_false_iff_not]; omega
        clear hc
        have HK := Lib.hid (alnTo_stop HU.out HX.out HA.out)
        have hkle0 : (0 : Int) ≤ k := by omega
        have hkle1 : (k : Int) ≤ S.size := by omega
        go_wp2_with (refine store_str rfl 9 _ _ rfl (b := b) (j := 0) rfl rfl Tryd.underlying9 (by kernel_rfl) HB2.out rfl ?_; intro V hV hgV; have HV := Lib.hid hV; have HGV := Lib.hid (grown_below HW.out hgV); clear hV hgV)
        go_ret
        refine ⟨by rw [ext_take, HK.out.1]; rfl, ?_, HGV.out⟩
        have hv := HV.out
        rw [ext_drop, HK.out.2] at hv
        exact hv
      · have HA := Lib.hid (show aln S[k] = false by unfold aln; simp; omega)
        have ha1 : decide ((97 : Int) ≤ (S[k].toNat : Int)) = false := by rw [decide_eq_false_iff_not]; omega
        have ha2 : decide ((S[k].toNat : Int) ≤ 122) = true := by rw [decide_eq_true_iff]; omega
        have ha3 : decide ((48 : Int) ≤ (S[k].toNat : Int)) = true := by rw [decide_eq_true_iff]; omega
        have ha4 : decide ((S[k].toNat : Int) ≤ 57) = false := by rw [decide_eq_false_iff_not]; omega
        clear hc
        have HK := Lib.hid (alnTo_stop HU.out HX.out HA.out)
        have hkle0 : (0 : Int) ≤ k := by omega
        have hkle1 : (k : Int) ≤ S.size := by omega
        go_wp2_with (refine store_str rfl 9 _ _ rfl (b := b) (j := 0) rfl rfl Tryd.underlying9 (by kernel_rfl) HB2.out rfl ?_; intro V hV hgV; have HV := Lib.hid hV; have HGV := Lib.hid (grown_below HW.out hgV); clear hV hgV)
        go_ret
        refine ⟨by rw [ext_take, HK.out.1]; rfl, ?_, HGV.out⟩
        have hv := HV.out
        rw [ext_drop, HK.out.2] at hv
        exact hv
      · have HA := Lib.hid (show aln S[k] = true by unfold aln; simp; omega)
        have ha1 : decide ((97 : Int) ≤ (S[k].toNat : Int)) = false := by rw [decide_eq_false_iff_not]; omega
        have ha2 : decide ((S[k].toNat : Int) ≤ 122) = true := by rw [decide_eq_true_iff]; omega
        have ha3 : decide ((48 : Int) ≤ (S[k].toNat : Int)) = true := by rw [decide_eq_true_iff]; omega
        have ha4 : decide ((S[k].toNat : Int) ≤ 57) = true := by rw [decide_eq_true_iff]; omega
        clear hc
        have HN := Lib.hid (alnTo_next HU.out HX.out HA.out)
        go_wp2
        go_roundw
        case rel =>
          first
            | exact ⟨k + 1, by omega, by go_num, HN.out, HW.out⟩
            | ((repeat apply Exists.intro); refine ⟨?_, rfl⟩; exact ⟨k + 1, by omega, by go_num, HN.out, HW.out⟩)
        case measure => (first | (simp [intOf]; done) | (simp [intOf]; omega))
      · have HA := Lib.hid (show aln S[k] = false by unfold aln; simp; omega)
        have ha1 : decide ((97 : Int) ≤ (S[k].toNat : Int)) = false := by rw [decide_eq_false_iff_not]; omega
        have ha2 : decide ((S[k].toNat : Int) ≤ 122) = true := by rw [decide_eq_true_iff]; omega
        have ha3 : decide ((48 : Int) ≤ (S[k].toNat : Int)) = false := by rw [decide_eq_false_iff_not]; omega
        have ha4 : decide ((S[k].toNat : Int) ≤ 57) = true := by rw [decide_eq_true_iff]; omega
        clear hc
        have HK := Lib.hid (alnTo_stop HU.out HX.out HA.out)
        have hkle0 : (0 : Int) ≤ k := by omega
        have hkle1 : (k : Int) ≤ S.size := by omega
        go_wp2_with (refine store_str rfl 9 _ _ rfl (b := b) (j := 0) rfl rfl Tryd.underlying9 (by kernel_rfl) HB2.out rfl ?_; intro V hV hgV; have HV := Lib.hid hV; have HGV := Lib.hid (grown_below HW.out hgV); clear hV hgV)
        go_ret
        refine ⟨by rw [ext_take, HK.out.1]; rfl, ?_, HGV.out⟩
        have hv := HV.out
        rw [ext_drop, HK.out.2] at hv
        exact hv
    · obtain rfl : k = S.size := by omega
      have hdl : decide ((S.size : Int) < (S.size : Int)) = false := by simp
      have HK := Lib.hid (show S.data.toList.take S.size = S.data.toList.takeWhile aln ∧ S.data.toList.drop S.size = S.data.toList.dropWhile aln from alnTo_split _ _ (by rw [HL.out]; exact Nat.le_refl _) HU.out (fun x hx => by rw [List.getElem?_eq_none (by rw [HL.out]; exact Nat.le_refl _)] at hx; cases hx))
      have hkle0 : (0 : Int) ≤ S.size := by omega
      have hkle1 : (S.size : Int) ≤ S.size := by omega
      go_wp2_with (refine store_str rfl 9 _ _ rfl (b := b) (j := 0) rfl rfl Tryd.underlying9 (by kernel_rfl) HB2.out rfl ?_; intro V hV hgV; have HV := Lib.hid hV; have HGV := Lib.hid (grown_below HW.out hgV); clear hV hgV)
      go_ret
      refine ⟨?_, ?_, HGV.out⟩
      · show Ending.returned (Value.string S) = _
        rw [← HK.out.1, List.take_of_length_le (by rw [HL.out]; exact Nat.le_refl _)]
        rfl
      · have e2 : strB (S.data.toList.dropWhile aln) = ByteArray.empty := by rw [← HK.out.2, List.drop_of_length_le (by rw [HL.out]; exact Nat.le_refl _)]; rfl
        rw [e2]; exact HV.out
end Go.Proofs.YtfcemnebhapidaaDoor.Te
