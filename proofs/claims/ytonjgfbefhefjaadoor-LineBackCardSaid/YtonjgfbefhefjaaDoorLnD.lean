/- Line: numbers, texts, digits, as the program reads and writes them. -/
import Derived.Test.YtonjgfbefhefjaaDoorLnC
import Derived.Test.YtonjgfbefhefjaaDoorBld
import Derived.Test.YtonjgfbefhefjaaDoorShelf
import Derived.Lib.AppendIntMem
import Derived.Lib.LaidTab
import Derived.Test.YtonjgfbefhefjaaDoorLnHex
set_option linter.unusedVariables false
set_option linter.unusedSimpArgs false
namespace Go.Proofs.YtonjgfbefhefjaaDoor.Ln
open Go Go.RowKit Go.Proofs.YtonjgfbefhefjaaDoor.Ow
/-- the table of powers of ten -/
def TabP (w : World) : Prop := Lib.TabIs Tryd.prog w "internal/strconv.uint64pow10" .u64 Lib.pow10Tab
theorem TabP.below {w w' : World} (h : TabP w) (hb : Below w.heap.size w w') : TabP w' := by
  have hg : Tryd.prog.globalNamed "internal/strconv.uint64pow10" = some 24 := by kernel_rfl
  unfold TabP Lib.TabIs World.var? at *
  rw [hg] at h ⊢
  simp only [Option.bind_some] at h ⊢
  cases hc : w.heap[24]? with
  | none => rw [hc] at h; cases h
  | some o => rw [hb.block _ (Array.getElem?_eq_some_iff.1 hc).1]; exact h
theorem Itoa_any (n : Int) (h0 : -9223372036854775808 ≤ n) (h1 : n ≤ 9223372036854775807) (w : World) (hT : TabP w) :
    Calls Tryd.prog 31 #[.int .i64 n] w fun e w' => e = .returned (.string (strB (Lib.itoa n))) ∧ Below w.heap.size w w' :=
  (Tryd.strconv_Itoa n h0 h1 w hT).mono fun e w' ⟨he, k, os, hw⟩ => ⟨he, hw ▸ Lib.below_grow _ w (Nat.le_refl _) k os⟩
def numV (l : List UInt8) : Int × Bool := match numL l with
  | some n => ((n : Int), true)
  | none => (0, false)
theorem numV_none {l : List UInt8} (h : numL l = none) : numV l = (0, false) := by unfold numV; rw [h]
theorem itoa_most : Lib.itoa 999999999 = [57, 57, 57, 57, 57, 57, 57, 57, 57] := by
  unfold Lib.itoa
  rw [if_neg (by decide)]
  have : Lib.decDigits 999999999 = [57, 57, 57, 57, 57, 57, 57, 57, 57] := by
    rw [Lib.decDigits_eq, Lib.nDigits_unique 8 999999999 (by decide) (by decide)]; decide
  exact this
theorem numL_lead {l : List UInt8} (h : l[0]? = some 48) (h1 : l ≠ [48]) : numL l = none := by
  unfold numL
  rw [if_neg]
  rintro ⟨_, _, h3, _⟩
  exact h3 ⟨by rw [List.head?_eq_getElem?]; exact h, h1⟩
theorem numL_ok2 {l : List UInt8} (h1 : l ≠ []) (h2 : l.length ≤ 9) (h3 : l[0]? ≠ some 48 ∨ l = [48]) (h4 : l.all dg = true) : numL l = some (val l) := by
  unfold numL
  rw [if_pos]
  refine ⟨h1, h2, ?_, h4⟩
  rintro ⟨e, h5⟩
  rw [List.head?_eq_getElem?] at e
  rcases h3 with h3 | h3
  · exact h3 e
  · exact h5 h3
set_option maxRecDepth 20000 in
set_option maxHeartbeats 4000000 in
theorem number_any (S : ByteArray) (w : World) (hs : S.size ≤ 1000000) (hT : TabP w) :
    Calls Tryd.prog 37 #[.string S] w fun e w' => e = .returned (.tuple #[.int .i64 (numV S.data.toList).1, .bool (numV S.data.toList).2]) ∧ Below w.heap.size w w' := by
  have HL := Lib.hid (show S.data.toList.length = S.size from Array.length_toList)
  have HI := Lib.hid (show ∀ W : World, TabP W → Calls Tryd.prog 31 #[.int .i64 999999999] W fun e w' => e = .returned (.string ⟨#[57, 57, 57, 57, 57, 57, 57, 57, 57]⟩) ∧ Below W.heap.size W w' from fun W h => by
    have := Itoa_any 999999999 (by decide) (by decide) W h
    rw [itoa_most] at this
    exact this)
  have HT := Lib.hid hT
  clear hT
  by_cases h0 : S.data.toList = []
  · have HV := Lib.hid (numV_none (show numL S.data.toList = none from numL_long (.inl (by rw [h0]; decide))))
    have he := beq_lit h0
    clear h0
    go_enter Tryd.func37, Tryd.ntmps37
    go_wp2
    go_ret2
    exact ⟨by rw [HV.out]; rfl, Below.refl _ _⟩
  · have he := bne_lit h0
    have HN0 := Lib.hid h0
    have hp : 0 < S.size := by
      have := List.length_pos_iff.2 h0
      rw [HL.out] at this; exact this
    clear h0
    by_cases h9 : 9 < S.size
    · have HV := Lib.hid (numV_none (show numL S.data.toList = none from numL_long (.inr (by rw [HL.out]; exact h9))))
      have h3 : decide (9 < (S.size : Int)) = true := by rw [decide_eq_true_iff]; omega
      go_enter Tryd.func37, Tryd.ntmps37
      go_wp2_with (go_at_call 31; refine (HI.out _ HT.out).mono ?_; rintro e w1 ⟨rfl, hb1⟩; skip; have HB1 := Lib.hid hb1; clear hb1)
      go_ret2
      exact ⟨by rw [HV.out]; rfl, HB1.out⟩
    · have h3 : decide (9 < (S.size : Int)) = false := by rw [decide_eq_false_iff_not]; omega
      have HX0 := Lib.hid (get_list S 0 hp)
      have hs9 : S.size ≤ 9 := by omega
      have HS9 := Lib.hid (show S.data.toList.length ≤ 9 by rw [HL.out]; omega)
      by_cases hz : S[0] = 48 ∧ S.data.toList ≠ [48]
      · have HV := Lib.hid (numV_none (show numL S.data.toList = none from numL_lead (hz.1 ▸ HX0.out) hz.2))
        have h5 : ((S[0].toNat : Int) == 48) = true := by rw [hz.1]; rfl
        have he2 := bne_lit hz.2
        clear hz h9
        go_enter Tryd.func37, Tryd.ntmps37
        go_wp2_with (go_at_call 31; refine (HI.out _ HT.out).mono ?_; rintro e w1 ⟨rfl, hb1⟩; skip; have HB1 := Lib.hid hb1; clear hb1)
        go_ret2
        exact ⟨by rw [HV.out]; rfl, HB1.out⟩
      · have HZ := Lib.hid (show S.data.toList[0]? ≠ some 48 ∨ S.data.toList = [48] by
          rw [HX0.out]
          by_cases e : S[0] = 48
          · right
            by_cases e2 : S.data.toList = [48]
            · exact e2
            · exact absurd ⟨e, e2⟩ hz
          · left; simpa using e)
        have HC : ((S[0].toNat : Int) == 48) = false ∨ (((S[0].toNat : Int) == 48) = true ∧ (S.toList == [48]) = true) := by
          by_cases e : S[0] = 48
          · right
            refine ⟨by rw [e]; rfl, beq_lit ?_⟩
            by_cases e2 : S.data.toList = [48]
            · exact e2
            · exact absurd ⟨e, e2⟩ hz
          · left
            rw [beq_eq_false_iff_ne]
            intro e'
            exact e (UInt8.toNat_inj.1 (by show S[0].toNat = 48; omega))
        clear hz h9
        rcases HC with h5 | ⟨h5, h6⟩
        all_goals
          go_enter Tryd.func37, Tryd.ntmps37
          go_wp2_with (first
            | (go_at_call 31; refine (HI.out _ HT.out).mono ?_; rintro e w1 ⟨rfl, hb1⟩; skip; have HB1 := Lib.hid hb1; clear hb1)
            | (refine Cv.conv_bytes rfl 9 70 5 _ rfl rfl Tryd.underlying9 Tryd.underlying70 Tryd.underlying5 ?_; rintro X cap hX hXf hXb hXs hXc; skip; have HX := Lib.hid hX; have HXB := Lib.hid (HB1.out.trans (Below.mono hXb HB1.out.size)); have HXS := Lib.hid hXs; clear hX hXf hXb hXs hXc))
          go_loopw [4, 28] (fun n i wr => ∃ k : Nat, k ≤ S.size ∧ i = .int .i64 k ∧ n = .int .i64 (val (S.data.toList.take k) : Nat) ∧ upTo dg S.data.toList k ∧ SameW X wr) (fun _ i _ => S.size - (intOf i).toNat)
          case atStart => exact ⟨0, Nat.zero_le _, rfl, rfl, fun j x hj => by omega, (rfl : X = X)⟩
          case round =>
            obtain ⟨k, hk, rfl, rfl, hup, hsw⟩ := hrel
            obtain rfl : X = wr := hsw
            have HU := Lib.hid hup
            clear hup
            obtain ⟨v, hv⟩ : ∃ v, v = val (S.data.toList.take k) := ⟨_, rfl⟩
            have HV0 := Lib.hid hv
            rw [← hv]
            clear hv
            have hvb : v ≤ 999999999 := by rw [HV0.out]; exact val_bd HU.out (by omega)
            by_cases hlt : k < S.size
            · have hik : (k : Int) < S.size := by omega
              have hdl : decide ((k : Int) < (S.size : Int)) = true := by rw [decide_eq_true_iff]; omega
              have HXk := Lib.hid (get_list S k hlt)
              have hcell : X.cell? ⟨w1.heap.size, k, none⟩ = some (.int .u8 S[k].toNat) := by
                have := HX.out k S[k] HXk.out
                rw [Nat.zero_add] at this; exact this
              have hcl : S[k].toNat < 48 ∨ 57 < S[k].toNat ∨ (48 ≤ S[k].toNat ∧ S[k].toNat ≤ 57) := by omega
              rcases hcl with hc | hc | hc
              · have HV := Lib.hid (numV_none (show numL S.data.toList = none from numL_bad HXk.out (by unfold dg; simp; omega)))
                have e1 : decide ((S[k].toNat : Int) < 48) = true := by rw [decide_eq_true_iff]; omega
                clear hc
                go_wp2
                go_ret2
                exact ⟨by rw [HV.out]; rfl, HXB.out⟩
              · have HV := Lib.hid (numV_none (show numL S.data.toList = none from numL_bad HXk.out (by unfold dg; simp; omega)))
                have e1 : decide ((S[k].toNat : Int) < 48) = false := by rw [decide_eq_false_iff_not]; omega
                have e2 : decide (57 < (S[k].toNat : Int)) = true := by rw [decide_eq_true_iff]; omega
                clear hc
                go_wp2
                go_ret2
                exact ⟨by rw [HV.out]; rfl, HXB.out⟩
              · have HN := Lib.hid (HU.out.next HXk.out (show dg S[k] = true by unfold dg; simp; omega))
                have HW := Lib.hid (val_take HXk.out)
                have e1 : decide ((S[k].toNat : Int) < 48) = false := by rw [decide_eq_false_iff_not]; omega
                have e2 : decide (57 < (S[k].toNat : Int)) = false := by rw [decide_eq_false_iff_not]; omega
                have e3 : (0 : Int) ≤ (S[k].toNat : Int) - 48 := by omega
                have e4 : (S[k].toNat : Int) - 48 ≤ 9 := by omega
                have e5 : ((S[k].toNat : Int) - 48) % 256 = (S[k].toNat : Int) - 48 := by omega
                have HR := Lib.hid (show Value.int .i64 (10 * (v : Int) + ((S[k].toNat : Int) - 48)) = .int .i64 ((val (S.data.toList.take (k + 1)) : Nat) : Int) by rw [HW.out, ← HV0.out]; congr 1; omega)
                clear hc
                go_wp2
                go_roundw
                case rel =>
                  have REL := Lib.hid (show ∃ k' : Nat, k' ≤ S.size ∧ Value.int .i64 ((k : Int) + 1) = .int .i64 k' ∧ Value.int .i64 (10 * (v : Int) + ((S[k].toNat : Int) - 48)) = .int .i64 (val (S.data.toList.take k') : Nat) ∧ upTo dg S.data.toList k' ∧ SameW X X from ⟨k + 1, by omega, by go_num, HR.out, HN.out, rfl⟩)
                  first
                    | exact REL.out
                    | ((repeat apply Exists.intro); refine ⟨?_, rfl⟩; exact REL.out)
                case measure => (first | (simp [intOf]; done) | (simp [intOf]; omega))
            · obtain rfl : k = S.size := by omega
              have HV := Lib.hid (show numV S.data.toList = ((v : Int), true) by
                unfold numV
                rw [numL_ok2 HN0.out HS9.out HZ.out (HU.out.all HL.out.symm), HV0.out]
                simp only
                rw [← HL.out, List.take_length])
              go_wp2
              go_ret2
              exact ⟨by rw [HV.out]; rfl, HXB.out⟩
/-! digits -/
theorem hexL_hx (s : List UInt8) (h : s ≠ []) : hexL s = hex2 s := by unfold hexL; rw [if_neg h]
theorem hex2_sha : ∀ s : List UInt8, hex2 s = Sha.hexL s
  | [] => rfl
  | b :: t => by
    rw [hex2, hex2_sha t]
    have e : ∀ n, hxd n = UInt8.ofNat (Sha.dig n) := fun n => by unfold hxd Sha.dig; split <;> rfl
    rw [e, e]; rfl
theorem hex_any (S : ByteArray) (w : World) (hs : S.size ≤ 1000000) :
    Calls Tryd.prog 50 #[.string S] w fun e w' => e = .returned (.string (strB (hexL S.data.toList))) ∧ Below w.heap.size w w' := by
  by_cases h : S.data.toList = []
  · have HV := Lib.hid (show hexL S.data.toList = [45] by rw [h]; rfl)
    have he := beq_lit h
    clear h
    go_enter Tryd.func50, Tryd.ntmps50
    go_wp2
    go_ret
    exact ⟨by rw [HV.out]; rfl, Below.refl _ _⟩
  · refine (Sha.Hex_any w S hs (bne_lit h)).mono ?_
    rintro e w' ⟨rfl, hb⟩
    refine ⟨?_, hb⟩
    rw [hexL_hx _ h, hex2_sha]; unfold Sha.hexS; rfl
end Go.Proofs.YtonjgfbefhefjaaDoor.Ln
