/- Line: texts, as the reference reads and writes them. -/
import Derived.Test.YtonjgfbefhefjaaDoorLnB
set_option linter.unusedVariables false
set_option linter.unusedSimpArgs false
namespace Go.Proofs.YtonjgfbefhefjaaDoor.Ln
open Go Go.RowKit Go.Proofs.YtonjgfbefhefjaaDoor.Ow
def textV (l : List UInt8) : List UInt8 × Bool := match textL l with
  | some t => (t, true)
  | none => ([], false)
theorem textV_dash : textV [45] = ([], true) := rfl
theorem textL_none {l : List UInt8} (h : l = [] ∨ 1800 < l.length ∨ l.length % 2 = 1 ∨ l.length < 2) (hd : l ≠ [45]) : textL l = none := by
  unfold textL
  rw [if_neg hd]
  by_cases e : l = [] ∨ 1800 < l.length
  · rw [if_pos e]
  · rw [if_neg e]
    cases hp : pairs l with
    | none => rfl
    | some t =>
      have := hex2_len t
      rw [hex_pairs l t hp] at this
      exfalso
      rcases h with h | h | h | h
      · exact e (.inl h)
      · exact e (.inr h)
      · omega
      · match l, h, e, this with
        | [], _, e, _ => exact e (.inl rfl)
        | [a], _, _, h => simp at h; omega
theorem hex2_good : ∀ (t : List UInt8) (x : UInt8), x ∈ hex2 t → ∃ n, hx x = some n
  | [], x, h => by cases h
  | b :: t, x, h => by
    have hb := b.toNat_lt
    rcases List.mem_cons.1 h with rfl | h
    · exact ⟨_, hx_hxd (by omega)⟩
    · rcases List.mem_cons.1 h with rfl | h
      · exact ⟨_, hx_hxd (Nat.mod_lt _ (by decide))⟩
      · exact hex2_good t x h
theorem textL_bad {l : List UInt8} {k : Nat} {x : UInt8} (hx0 : l[k]? = some x) (ho : hx x = none) (hd : l ≠ [45]) : textL l = none := by
  unfold textL
  rw [if_neg hd]
  by_cases e : l = [] ∨ 1800 < l.length
  · rw [if_pos e]
  · rw [if_neg e]
    cases hp : pairs l with
    | none => rfl
    | some t =>
      obtain ⟨n, hn⟩ := hex2_good t x (by rw [hex_pairs l t hp]; exact List.mem_of_getElem? hx0)
      rw [ho] at hn; cases hn
theorem textL_ok {l t : List UInt8} (h1 : l ≠ []) (h2 : l.length ≤ 1800) (hd : l ≠ [45]) (h : hex2 t = l) : textL l = some t := by
  unfold textL
  rw [if_neg hd, if_neg (by
    rintro (e | e)
    · exact h1 e
    · omega), ← h, pairs_hex]
theorem hxI_neg {x : UInt8} (h : hx x = none) : hxI x = -1 := by unfold hxI; rw [h]
theorem hxI_of {x : UInt8} {n : Nat} (h : hx x = some n) : hxI x = (n : Int) := by unfold hxI; rw [h]
theorem hex2_snoc (t : List UInt8) (b : UInt8) : hex2 (t ++ [b]) = hex2 t ++ [hxd (b.toNat / 16), hxd (b.toNat % 16)] := by
  induction t with
  | nil => rfl
  | cons a t ih => rw [List.cons_append, hex2, ih]; rfl
/-- two letters more -/
theorem hex2_next {l out : List UInt8} {j a b : Nat} {x y : UInt8} (h : hex2 out = l.take j) (h1 : l[j]? = some x) (h2 : l[j + 1]? = some y) (ha : hx x = some a) (hb : hx y = some b) : hex2 (out ++ [UInt8.ofNat (16 * a + b)]) = l.take (j + 2) := by
  obtain ⟨a1, a2⟩ := hx_some ha
  obtain ⟨b1, b2⟩ := hx_some hb
  have e : (UInt8.ofNat (16 * a + b)).toNat = 16 * a + b := by rw [UInt8.toNat_ofNat']; omega
  rw [hex2_snoc, e, show (16 * a + b) / 16 = a by omega, show (16 * a + b) % 16 = b by omega, a1, b1, h, List.take_add_one (i := j + 1), List.take_add_one (i := j), h1, h2]
  simp
def SameW (w w' : World) : Prop := w = w'
theorem own_grown {w w1 w2 : World} {E : TypeId} {v : Value} {xs : List Value} (h : Below w.heap.size w w1) (ho : Owns w1 w.heap.size E v xs) (hg : w1.grownBy w2 v.ownBlock) : Below w.heap.size w w2 :=
  Below.grown h hg h.size (fun k hk => (ho.lt k hk).1)
theorem bv_snoc (l : List UInt8) (n : Nat) (h : n < 256) : bv l ++ [Value.int .u8 (n : Int)] = bv (l ++ [UInt8.ofNat n]) := by
  rw [bv_append, bv_one (UInt8.ofNat n) n (by rw [UInt8.toNat_ofNat']; omega)]
set_option maxRecDepth 20000 in
set_option maxHeartbeats 4000000 in
theorem RefText_any (S : ByteArray) (w : World) (hs : S.size ≤ 1000000) :
    Calls Tryd.prog 24 #[.string S] w fun e w' => e = .returned (.tuple #[.string (strB (textV S.data.toList).1), .bool (textV S.data.toList).2]) ∧ Below w.heap.size w w' := by
  have HL := Lib.hid (show S.data.toList.length = S.size from Array.length_toList)
  by_cases hd : S.data.toList = [45]
  · have HV := Lib.hid (show textV S.data.toList = ([], true) by rw [hd]; rfl)
    have he := beq_lit hd
    clear hd
    go_enter Tryd.func24, Tryd.ntmps24
    go_wp2
    go_ret2
    exact ⟨by rw [HV.out]; rfl, Below.refl _ _⟩
  · have he := bne_lit hd
    have HD := Lib.hid hd
    clear hd
    by_cases h2 : S.size < 2
    · have HV := Lib.hid (show textV S.data.toList = ([], false) by unfold textV; rw [textL_none (.inr (.inr (.inr (by rw [HL.out]; exact h2)))) HD.out])
      have h3 : decide ((S.size : Int) < 2) = true := by rw [decide_eq_true_iff]; omega
      clear h2
      go_enter Tryd.func24, Tryd.ntmps24
      go_wp2
      go_ret2
      exact ⟨by rw [HV.out]; rfl, Below.refl _ _⟩
    · have h3 : decide ((S.size : Int) < 2) = false := by rw [decide_eq_false_iff_not]; omega
      by_cases ho : S.size % 2 = 1
      · have HV := Lib.hid (show textV S.data.toList = ([], false) by unfold textV; rw [textL_none (.inr (.inr (.inl (by rw [HL.out]; exact ho)))) HD.out])
        have h4 : ((S.size : Int) % 2 == 1) = true := by rw [beq_iff_eq]; omega
        clear h2 ho
        go_enter Tryd.func24, Tryd.ntmps24
        go_wp2
        go_ret2
        exact ⟨by rw [HV.out]; rfl, Below.refl _ _⟩
      · have h4 : ((S.size : Int) % 2 == 1) = false := by rw [beq_eq_false_iff_ne]; omega
        by_cases h18 : 1800 < S.size
        · have HV := Lib.hid (show textV S.data.toList = ([], false) by unfold textV; rw [textL_none (.inr (.inl (by rw [HL.out]; exact h18))) HD.out])
          have h5 : decide (1800 < (S.size : Int)) = true := by rw [decide_eq_true_iff]; omega
          clear h2 ho h18
          go_enter Tryd.func24, Tryd.ntmps24
          go_wp2
          go_ret2
          exact ⟨by rw [HV.out]; rfl, Below.refl _ _⟩
        · have h5 : decide (1800 < (S.size : Int)) = false := by rw [decide_eq_false_iff_not]; omega
          have HE := Lib.hid (show S.size % 2 = 0 by omega)
          have HN0 := Lib.hid (show S.data.toList ≠ [] by intro e; have := HL.out; rw [e] at this; simp at this; omega)
          have HBd := Lib.hid (show S.size ≤ 1800 by omega)
          have hbd : S.size ≤ 1800 := by omega
          clear h2 ho h18
          go_enter Tryd.func24, Tryd.ntmps24
          go_wp2
          have HON := Lib.hid (Owns.new w w.heap.size 5 (bv []) (Nat.le_refl _) (by decide))
          have HBA := Lib.hid (show Below w.heap.size w (w.alloc (.cells #[] 5)) from (Below.refl _ _).alloc (Nat.le_refl _) _)
          go_loopw [4, 5] (fun v i wr => ∃ (k : Nat) (out : List UInt8), k * 2 ≤ S.size ∧ i = .int .i64 ((k * 2 : Nat) : Int) ∧ hex2 out = S.data.toList.take (k * 2) ∧ Owns wr w.heap.size 5 v (bv out) ∧ Below w.heap.size w wr) (fun _ i _ => S.size + 2 - (intOf i).toNat)
          case atStart => exact ⟨0, [], by omega, rfl, rfl, HON.out, HBA.out⟩
          case round =>
            obtain ⟨k, out, hk, rfl, hx2, hO, hB⟩ := hrel
            have HX2 := Lib.hid hx2
            have HO := Lib.hid hO
            have HB := Lib.hid hB
            have HSB := Lib.hid hB.size
            obtain ⟨j, hj⟩ : ∃ j, j = k * 2 := ⟨_, rfl⟩
            have HJ := Lib.hid hj
            rw [← hj] at HX2 hk ⊢
            have HOL := Lib.hid (show out.length ≤ 900 by
              have h1 := hex2_len out
              rw [hx2, List.length_take] at h1
              omega)
            clear hx2 hO hB HON HBA hj
            by_cases hlt : j < S.size
            · have hlt2 : j + 1 < S.size := by have h1 := HJ.out; have h2 := HE.out; omega
              have hik : (j : Int) < S.size := by omega
              have hik2 : (j : Int) + 1 < S.size := by omega
              have hdl : decide ((j : Int) < (S.size : Int)) = true := by rw [decide_eq_true_iff]; omega
              have HXa := Lib.hid (get_list S j hlt)
              have HXb := Lib.hid (get_list S (j + 1) hlt2)
              cases ha : hx S[j] with
              | none =>
                have HV := Lib.hid (show textV S.data.toList = ([], false) by unfold textV; rw [textL_bad HXa.out ha HD.out])
                have e1 : decide (hxI S[j] < 0) = true := by rw [decide_eq_true_iff, hxI_neg ha]; decide
                clear ha
                go_wp2_with (go_at_call 40; refine (digit_any _ _).mono ?_; rintro e w' ⟨rfl, rfl⟩)
                go_ret2
                exact ⟨by rw [HV.out]; rfl, HB.out⟩
              | some a =>
                have e1 : decide (hxI S[j] < 0) = false := by rw [decide_eq_false_iff_not, hxI_of ha]; omega
                cases hb : hx S[j + 1] with
                | none =>
                  have HV := Lib.hid (show textV S.data.toList = ([], false) by unfold textV; rw [textL_bad HXb.out hb HD.out])
                  have e2 : decide (hxI S[j + 1] < 0) = true := by rw [decide_eq_true_iff, hxI_neg hb]; decide
                  clear ha hb
                  go_wp2_with (go_at_call 40; refine (digit_any _ _).mono ?_; rintro e w' ⟨rfl, rfl⟩)
                  go_ret2
                  exact ⟨by rw [HV.out]; rfl, HB.out⟩
                | some b =>
                  have e2 : decide (hxI S[j + 1] < 0) = false := by rw [decide_eq_false_iff_not, hxI_of hb]; omega
                  obtain ⟨a1, a2⟩ := hx_some ha
                  obtain ⟨b1, b2⟩ := hx_some hb
                  have HA := Lib.hid (hxI_of ha)
                  have HBb := Lib.hid (hxI_of hb)
                  have l1 : 0 ≤ hxI S[j] := by rw [hxI_of ha]; omega
                  have l2 : hxI S[j] ≤ 15 := by rw [hxI_of ha]; omega
                  have l3 : 0 ≤ hxI S[j + 1] := by rw [hxI_of hb]; omega
                  have l4 : hxI S[j + 1] ≤ 15 := by rw [hxI_of hb]; omega
                  have HN := Lib.hid (hex2_next HX2.out HXa.out HXb.out ha hb)
                  have HVB := Lib.hid (show ∀ x : Int, x = 16 * hxI S[j] + hxI S[j + 1] → bv out ++ [Value.int .u8 x] = bv (out ++ [UInt8.ofNat (16 * a + b)]) by
                    intro x hx
                    rw [hx, HA.out, HBb.out, show (16 * (a : Int) + b) = ((16 * a + b : Nat) : Int) by omega, bv_snoc _ _ (by omega)])
                  clear ha hb a1 b1 a2 b2
                  go_wp2_with (first
                    | (go_at_call 40; refine (digit_any _ _).mono ?_; rintro e w' ⟨rfl, rfl⟩)
                    | (refine app1 rfl _ _ 70 rfl (E := 5) (z := .int .u8 0) (by' := 1) rfl rfl rfl (by decide) HO.out rfl rfl rfl (by rw [bv_length]; have h1 := HOL.out; omega) HSB.out ?_; rw [HVB.out _ (by first | rfl | omega)]; rintro v6 w6 h2 h3 h4; skip; have HO6 := Lib.hid h2; have HB6 := Lib.hid (own_grown HB.out HO.out h3); clear h2 h3 h4))
                  go_roundw
                  case rel =>
                    have REL := Lib.hid (show ∃ (k : Nat) (o : List UInt8), k * 2 ≤ S.size ∧ Value.int .i64 ((j : Int) + 2) = .int .i64 ((k * 2 : Nat) : Int) ∧ hex2 o = S.data.toList.take (k * 2) ∧ Owns w6 w.heap.size 5 v6 (bv o) ∧ Below w.heap.size w w6 from ⟨k + 1, _, by have := HJ.out; omega, by congr 1; have := HJ.out; omega, by rw [HN.out]; congr 1; have := HJ.out; omega, HO6.out, HB6.out⟩)
                    first
                      | exact REL.out
                      | ((repeat apply Exists.intro); refine ⟨?_, rfl⟩; exact REL.out)
                  case measure => (first | (simp [intOf]; done) | (simp [intOf]; omega))
            · have hjs : j = S.size := by omega
              have HV := Lib.hid (show textV S.data.toList = (out, true) by
                unfold textV
                rw [textL_ok HN0.out (by rw [HL.out]; exact HBd.out) HD.out (t := out) (by rw [HX2.out, hjs, ← HL.out, List.take_length])])
              have hdl : decide ((j : Int) < (S.size : Int)) = false := by rw [decide_eq_false_iff_not]; omega
              clear hjs
              go_wp2_with (refine str rfl 70 5 9 _ rfl Tryd.underlying70 Tryd.underlying5 Tryd.underlying9 HO.out rfl ?_; skip)
              go_ret2
              exact ⟨by rw [HV.out]; rfl, HB.out⟩
end Go.Proofs.YtonjgfbefhefjaaDoor.Ln
