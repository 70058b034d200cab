/- Line: texts, as the program reads them. -/
import Derived.Test.YtonjgfbefhefjaaDoorLnD
import Derived.IntWalk
set_option linter.unusedVariables false
set_option linter.unusedSimpArgs false
namespace Go.Proofs.YtonjgfbefhefjaaDoor.Ln
open Go Go.RowKit Go.Proofs.YtonjgfbefhefjaaDoor.Ow
theorem below_drewN {B : Nat} (w : World) (n : Nat) : Below B w (w.drewN n) := ⟨rfl, rfl, rfl, Nat.le_refl _, fun _ _ => rfl⟩
theorem isBuilder_below {T e : TypeId} {B b : Nat} {bs : List Value} {w w' : World} (h : Lib.IsBuilder T e B b bs w) (hb : Below w.heap.size w w') : Lib.IsBuilder T e B b bs w' := by
  have aux : ∀ p, Lib.BuilderAt T e B b p bs w → Lib.BuilderAt T e B b p bs w' := by
    rintro p ⟨h1, v, h2, h3, h4⟩
    exact ⟨h1, v, by rw [hb.block _ (Array.getElem?_eq_some_iff.1 h2).1]; exact h2, World.ownsRow.kept h3 (row := none) ⟨hb.os, hb.tape, hb.output, hb.size, fun k hk _ => hb.block k hk⟩ (by cases hv : v.ownBlock <;> simp), h4⟩
  rcases h with h | h
  · exact .inl (aux _ h)
  · exact .inr (aux _ h)
theorem index_hx (x : UInt8) : Lib.indexByte [48, 49, 50, 51, 52, 53, 54, 55, 56, 57, 97, 98, 99, 100, 101, 102] x = hxI x := by
  have : ∀ n : Fin 256, Lib.indexByte [48, 49, 50, 51, 52, 53, 54, 55, 56, 57, 97, 98, 99, 100, 101, 102] (UInt8.ofNat n.val) = hxI (UInt8.ofNat n.val) := by decide +kernel
  have h := this ⟨x.toNat, x.toNat_lt⟩
  simpa using h
theorem IdxHex_any (x : UInt8) (w : World) :
    Calls Tryd.prog 56 #[.string ⟨#[48, 49, 50, 51, 52, 53, 54, 55, 56, 57, 97, 98, 99, 100, 101, 102]⟩, .int .u8 x.toNat] w fun e w' => e = .returned (.int .i64 (hxI x)) ∧ w' = w :=
  (Tryd.strings_IndexByte ⟨#[48, 49, 50, 51, 52, 53, 54, 55, 56, 57, 97, 98, 99, 100, 101, 102]⟩ (x.toNat : Int) w).mono fun e w' ⟨he, hw⟩ => ⟨by
    rw [he, ← index_hx]
    congr 3
    simp, hw⟩
theorem byteCells_snoc (l : List UInt8) (n : Nat) (h : n < 256) : Lib.byteCells l ++ [Value.int .u8 (n : Int)] = Lib.byteCells (l ++ [UInt8.ofNat n]) := bv_snoc l n h
set_option maxRecDepth 20000 in
set_option maxHeartbeats 4000000 in
theorem text_any (S : ByteArray) (w : World) (hs : S.size ≤ 1000000) :
    Calls Tryd.prog 38 #[.string S] w fun e w' => e = .returned (.tuple #[.string (strB (textV S.data.toList).1), .bool (textV S.data.toList).2]) ∧ Below w.heap.size w w' := by
  have HL := Lib.hid (show S.data.toList.length = S.size from Array.length_toList)
  by_cases hd : S.data.toList = [45]
  · have HV := Lib.hid (show textV S.data.toList = ([], true) by rw [hd]; rfl)
    have he := beq_lit hd
    clear hd
    go_enter Tryd.func38, Tryd.ntmps38
    go_wp2
    go_ret2
    exact ⟨by rw [HV.out]; rfl, Below.refl _ _⟩
  · have he := bne_lit hd
    have HD := Lib.hid hd
    clear hd
    by_cases h0 : S.data.toList = []
    · have HV := Lib.hid (show textV S.data.toList = ([], false) by unfold textV; rw [textL_none (.inl h0) HD.out])
      have h3 := beq_lit h0
      clear h0
      go_enter Tryd.func38, Tryd.ntmps38
      go_wp2
      go_ret2
      exact ⟨by rw [HV.out]; rfl, Below.refl _ _⟩
    · have h3 := bne_lit h0
      have HN0 := Lib.hid h0
      clear h0
      by_cases ho : S.size % 2 = 1
      · have HV := Lib.hid (show textV S.data.toList = ([], false) by unfold textV; rw [textL_none (.inr (.inr (.inl (by rw [HL.out]; exact ho)))) HD.out])
        have h4 : ((S.size : Int) % 2 == 0) = false := by rw [beq_eq_false_iff_ne]; omega
        have h4n : ((S.size : Int) % 2 != 0) = true := by rw [bne_iff_ne]; omega
        clear ho
        go_enter Tryd.func38, Tryd.ntmps38
        go_wp2
        go_ret2
        exact ⟨by rw [HV.out]; rfl, Below.refl _ _⟩
      · have h4 : ((S.size : Int) % 2 == 0) = true := by rw [beq_iff_eq]; omega
        have h4n : ((S.size : Int) % 2 != 0) = false := by rw [bne_eq_false_iff_eq]; omega
        by_cases h18 : 1800 < S.size
        · have HV := Lib.hid (show textV S.data.toList = ([], false) by unfold textV; rw [textL_none (.inr (.inl (by rw [HL.out]; exact h18))) HD.out])
          have h5 : decide (1800 < (S.size : Int)) = true := by rw [decide_eq_true_iff]; omega
          clear ho h18
          go_enter Tryd.func38, Tryd.ntmps38
          go_wp2
          go_ret2
          exact ⟨by rw [HV.out]; rfl, Below.refl _ _⟩
        · have h5 : decide (1800 < (S.size : Int)) = false := by rw [decide_eq_false_iff_not]; omega
          have HE := Lib.hid (show S.size % 2 = 0 by omega)
          have HBd := Lib.hid (show S.size ≤ 1800 by omega)
          have hbd : S.size ≤ 1800 := by omega
          clear ho h18
          have HU := Lib.hid (Bu.fresh w)
          have HBA := Lib.hid (show Below w.heap.size w (w.alloc (.cells #[.pointer none, .slice none 0 0] 78)) from (Below.refl _ _).alloc (Nat.le_refl _) _)
          go_enter Tryd.func38, Tryd.ntmps38
          go_wp2
          go_loopw [5] (fun i wr => ∃ (k : Nat) (out : List UInt8), k * 2 ≤ S.size ∧ i = .int .i64 ((k * 2 : Nat) : Int) ∧ hex2 out = S.data.toList.take (k * 2) ∧ Lib.IsBuilder 78 5 w.heap.size w.heap.size (Lib.byteCells out) wr ∧ Below w.heap.size w wr) (fun i _ => S.size + 2 - (intOf i).toNat)
          case atStart => exact ⟨0, [], by omega, rfl, rfl, HU.out, HBA.out⟩
          case round =>
            obtain ⟨k, out, hk, rfl, hx2, hO, hB⟩ := hrel
            have HX2 := Lib.hid hx2
            have HO := Lib.hid hO
            have HB := Lib.hid hB
            have hsz := hB.size
            obtain ⟨j, hj⟩ : ∃ j, j = k * 2 := ⟨_, rfl⟩
            have HJ := Lib.hid hj
            rw [← hj] at HX2 hk ⊢
            have HOL := Lib.hid (show (Lib.byteCells out).length ≤ 900 by
              have h1 := hex2_len out
              rw [hx2, List.length_take] at h1
              rw [Lib.byteCells_length]
              omega)
            clear hx2 hO hB HU HBA hj
            by_cases hlt : j < S.size
            · have hlt2 : j + 1 < S.size := by have h1 := HJ.out; have h2 := HE.out; omega
              have hik : (j : Int) < S.size := by omega
              have hik2 : (j : Int) + 1 < S.size := by omega
              have hdl : decide ((j : Int) < (S.size : Int)) = true := by rw [decide_eq_true_iff]; omega
              have HXa := Lib.hid (get_list S j hlt)
              have HXb := Lib.hid (get_list S (j + 1) hlt2)
              cases ha : hx S[j] with
              | none =>
                have HV := Lib.hid (show textV S.data.toList = ([], false) by unfold textV; rw [textL_bad HXa.out ha HD.out])
                have e1 : decide (hxI S[j] < 0) = true := by rw [decide_eq_true_iff, hxI_neg ha]; decide
                clear ha
                go_wp2_with fail
                have w1 : IntKind.i64.wrap ((j : Int) + 1) = (j : Int) + 1 := IntWalk.i64_in _ (by omega)
                have w2 : (0 : Int) ≤ (j : Int) + 1 := by omega
                have w3 : ((j : Int) + 1).toNat = j + 1 := by omega
                go_quiet ((go_at_call 56; exact Calls.quiet_of_same (IdxHex_any _ _)))
                clear w1
                go_wp2_with fail
                go_ret2
                exact ⟨by rw [HV.out]; rfl, HB.out.trans ((below_drewN _ _))⟩
              | some a =>
                have e1 : decide (hxI S[j] < 0) = false := by rw [decide_eq_false_iff_not, hxI_of ha]; omega
                cases hb : hx S[j + 1] with
                | none =>
                  have HV := Lib.hid (show textV S.data.toList = ([], false) by unfold textV; rw [textL_bad HXb.out hb HD.out])
                  have e2 : decide (hxI S[j + 1] < 0) = true := by rw [decide_eq_true_iff, hxI_neg hb]; decide
                  clear ha hb
                  go_wp2_with fail
                  have w1 : IntKind.i64.wrap ((j : Int) + 1) = (j : Int) + 1 := IntWalk.i64_in _ (by omega)
                  have w2 : (0 : Int) ≤ (j : Int) + 1 := by omega
                  have w3 : ((j : Int) + 1).toNat = j + 1 := by omega
                  go_quiet ((go_at_call 56; exact Calls.quiet_of_same (IdxHex_any _ _)))
                  clear w1
                  go_wp2_with fail
                  go_ret2
                  exact ⟨by rw [HV.out]; rfl, HB.out.trans ((below_drewN _ _))⟩
                | some b =>
                  have e2 : decide (hxI S[j + 1] < 0) = false := by rw [decide_eq_false_iff_not, hxI_of hb]; omega
                  obtain ⟨a1, a2⟩ := hx_some ha
                  obtain ⟨b1, b2⟩ := hx_some hb
                  have HA := Lib.hid (hxI_of ha)
                  have HBb := Lib.hid (hxI_of hb)
                  have l1 : 0 ≤ hxI S[j] := by rw [hxI_of ha]; omega
                  have l2 : hxI S[j] ≤ 15 := by rw [hxI_of ha]; omega
                  have l3 : 0 ≤ hxI S[j + 1] := by rw [hxI_of hb]; omega
                  have l4 : hxI S[j + 1] ≤ 15 := by rw [hxI_of hb]; omega
                  have HN := Lib.hid (hex2_next HX2.out HXa.out HXb.out ha hb)
                  have HVB := Lib.hid (show ∀ x : Int, x = 16 * hxI S[j] + hxI S[j + 1] → Lib.byteCells out ++ [Value.int .u8 x] = Lib.byteCells (out ++ [UInt8.ofNat (16 * a + b)]) by
                    intro x hx
                    rw [hx, HA.out, HBb.out, show (16 * (a : Int) + b) = ((16 * a + b : Nat) : Int) by omega, byteCells_snoc _ _ (by omega)])
                  clear ha hb a1 b1 a2 b2
                  go_wp2_with fail
                  have w1 : IntKind.i64.wrap ((j : Int) + 1) = (j : Int) + 1 := IntWalk.i64_in _ (by omega)
                  have w2 : (0 : Int) ≤ (j : Int) + 1 := by omega
                  have w3 : ((j : Int) + 1).toNat = j + 1 := by omega
                  go_quiet ((go_at_call 56; exact Calls.quiet_of_same (IdxHex_any _ _)))
                  clear w1
                  go_wp2_with (go_at_call 57; refine (Bu.writeByte _ _ _ _ _ (isBuilder_below HO.out (below_drewN _ _)) (by have := HOL.out; omega) hsz).mono ?_; rw [HVB.out _ (by first | rfl | omega)]; rintro e w5 ⟨rfl, hU5, hb5⟩; skip; have HU5 := Lib.hid hU5; have HB5 := Lib.hid (HB.out.trans ((below_drewN _ _).trans hb5)); clear hU5 hb5)
                  go_roundw
                  case rel =>
                    have REL := Lib.hid (show ∃ (k : Nat) (o : List UInt8), k * 2 ≤ S.size ∧ Value.int .i64 ((j : Int) + 2) = .int .i64 ((k * 2 : Nat) : Int) ∧ hex2 o = S.data.toList.take (k * 2) ∧ Lib.IsBuilder 78 5 w.heap.size w.heap.size (Lib.byteCells o) w5 ∧ Below w.heap.size w w5 from ⟨k + 1, _, by have := HJ.out; omega, by congr 1; have := HJ.out; omega, by rw [HN.out]; congr 1; have := HJ.out; omega, .inr HU5.out, HB5.out⟩)
                    first
                      | exact REL.out
                      | ((repeat apply Exists.intro); refine ⟨?_, rfl⟩; exact REL.out)
                  case measure => (first | (simp [intOf]; done) | (simp [intOf]; omega))
            · have hjs : j = S.size := by omega
              have HV := Lib.hid (show textV S.data.toList = (out, true) by
                unfold textV
                rw [textL_ok HN0.out (by rw [HL.out]; exact HBd.out) HD.out (t := out) (by rw [HX2.out, hjs, ← HL.out, List.take_length])])
              have hdl : decide ((j : Int) < (S.size : Int)) = false := by rw [decide_eq_false_iff_not]; omega
              clear hjs
              go_wp2_with (go_at_call 48; refine (Tryd.Builder_String_any _ _ _ _ HO.out hsz).mono ?_; rintro e w7 ⟨rfl, hb7⟩; skip; have HB7 := Lib.hid (HB.out.trans hb7); clear hb7)
              go_ret2
              exact ⟨by rw [HV.out]; rfl, HB7.out⟩
end Go.Proofs.YtonjgfbefhefjaaDoor.Ln
