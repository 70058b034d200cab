/- Line: numbers, as the reference reads them. -/
import Derived.Test.YtonjgfbefhefjaaDoorLnA
set_option linter.unusedVariables false
set_option linter.unusedSimpArgs false
namespace Go.Proofs.YtonjgfbefhefjaaDoor.Ln
open Go Go.RowKit Go.Proofs.YtonjgfbefhefjaaDoor.Ow
def numI (l : List UInt8) : Int := match numL l with
  | some n => n
  | none => -1
theorem numL_long {l : List UInt8} (h : l.length < 1 ∨ 9 < l.length) : numL l = none := by
  unfold numL
  rw [if_neg]
  rintro ⟨h1, h2, _⟩
  have := List.length_pos_iff.2 h1
  omega
theorem numL_zero {l : List UInt8} (h : l[0]? = some 48) (h1 : 1 < l.length) : numL l = none := by
  unfold numL
  rw [if_neg]
  rintro ⟨_, _, h3, _⟩
  refine h3 ⟨by rw [List.head?_eq_getElem?]; exact h, fun e => by rw [e] at h1; simp at h1⟩
theorem numL_bad {l : List UInt8} {k : Nat} {x : UInt8} (hx : l[k]? = some x) (ho : dg x = false) : numL l = none := by
  unfold numL
  rw [if_neg]
  rintro ⟨_, _, _, h4⟩
  rw [not_all hx ho] at h4; cases h4
theorem numL_ok {l : List UInt8} (h1 : 1 ≤ l.length) (h2 : l.length ≤ 9) (h3 : l[0]? ≠ some 48 ∨ l.length = 1) (h4 : l.all dg = true) : numL l = some (val l) := by
  unfold numL
  rw [if_pos]
  refine ⟨fun e => by rw [e] at h1; simp at h1, h2, ?_, h4⟩
  rintro ⟨e, h5⟩
  rw [List.head?_eq_getElem?] at e
  rcases h3 with h3 | h3
  · exact h3 e
  · match l, h3 with
    | [a], _ =>
      have : a = 48 := by simpa using e
      exact h5 (by rw [this])
theorem upTo.take {g : UInt8 → Bool} {l : List UInt8} {k : Nat} (h : upTo g l k) : (l.take k).all g = true := by
  rw [List.all_eq_true]
  intro x hx
  obtain ⟨j, hj⟩ := List.getElem?_of_mem hx
  rw [List.getElem?_take] at hj
  split at hj
  · exact h j x (by assumption) hj
  · cases hj
theorem val_take {l : List UInt8} {k : Nat} {x : UInt8} (hx : l[k]? = some x) : val (l.take (k + 1)) = 10 * val (l.take k) + (x.toNat - 48) := by
  rw [List.take_add_one, hx]
  exact val_snoc _ _
theorem val_bd {l : List UInt8} {k : Nat} (h : upTo dg l k) (hk : k ≤ 9) : val (l.take k) ≤ 999999999 := by
  have h1 := val_lt (l.take k) h.take
  have h2 : (l.take k).length ≤ 9 := by rw [List.length_take]; omega
  have : 10 ^ (l.take k).length ≤ 10 ^ 9 := Nat.pow_le_pow_right (by decide) h2
  omega
theorem dg_hx {x : UInt8} (h : dg x = true) : hxI x = (x.toNat : Int) - 48 ∧ 48 ≤ x.toNat ∧ x.toNat ≤ 57 := by
  simp [dg] at h
  refine ⟨?_, h.1, h.2⟩
  unfold hxI hx; rw [if_pos h]; simp only; omega
theorem dg_not {x : UInt8} (h : dg x = false) : hxI x < 0 ∨ 9 < hxI x := by
  simp [dg] at h
  unfold hxI hx
  have hn : ¬ (48 ≤ x.toNat ∧ x.toNat ≤ 57) := fun e => by have := h e.1; omega
  rw [if_neg hn]
  by_cases h2 : 97 ≤ x.toNat ∧ x.toNat ≤ 102
  · rw [if_pos h2]; right; simp only; omega
  · rw [if_neg h2]; left; simp only; omega
set_option maxRecDepth 20000 in
set_option maxHeartbeats 4000000 in
theorem RefNumber_any (S : ByteArray) (w : World) (hs : S.size ≤ 1000000) :
    Calls Tryd.prog 23 #[.string S] w fun e w' => e = .returned (.int .i64 (numI S.data.toList)) ∧ w = w' := by
  have HL := Lib.hid (show S.data.toList.length = S.size from Array.length_toList)
  by_cases h1 : S.size < 1
  · have HV := Lib.hid (show numI S.data.toList = -1 by unfold numI; rw [numL_long (.inl (by rw [HL.out]; exact h1))])
    have h2 : decide ((S.size : Int) < 1) = true := by rw [decide_eq_true_iff]; omega
    clear h1
    go_enter Tryd.func23, Tryd.ntmps23
    go_wp2
    go_ret
    exact ⟨by rw [HV.out]; rfl, rfl⟩
  · have h2 : decide ((S.size : Int) < 1) = false := by rw [decide_eq_false_iff_not]; omega
    by_cases h9 : 9 < S.size
    · have HV := Lib.hid (show numI S.data.toList = -1 by unfold numI; rw [numL_long (.inr (by rw [HL.out]; exact h9))])
      have h3 : decide (9 < (S.size : Int)) = true := by rw [decide_eq_true_iff]; omega
      clear h1
      go_enter Tryd.func23, Tryd.ntmps23
      go_wp2
      go_ret
      exact ⟨by rw [HV.out]; rfl, rfl⟩
    · have h3 : decide (9 < (S.size : Int)) = false := by rw [decide_eq_false_iff_not]; omega
      have h0 : 0 < S.size := by omega
      have HX0 := Lib.hid (get_list S 0 h0)
      by_cases hz : 1 < S.size ∧ S[0] = 48
      · have HV := Lib.hid (show numI S.data.toList = -1 by unfold numI; rw [numL_zero (hz.2 ▸ HX0.out) (by rw [HL.out]; exact hz.1)])
        have h4 : decide (1 < (S.size : Int)) = true := by rw [decide_eq_true_iff]; omega
        have h5 : ((S[0].toNat : Int) == 48) = true := by rw [hz.2]; rfl
        clear h1 hz
        go_enter Tryd.func23, Tryd.ntmps23
        go_wp2
        go_ret
        exact ⟨by rw [HV.out]; rfl, rfl⟩
      · have HZ := Lib.hid (show S.data.toList[0]? ≠ some 48 ∨ S.data.toList.length = 1 by
          rw [HL.out, HX0.out]
          by_cases e : S[0] = 48
          · right
            have : ¬ 1 < S.size := fun e' => hz ⟨e', e⟩
            omega
          · left; simpa using e)
        have HCs : ((∃ b, decide (1 < (S.size : Int)) = b ∧ (b = true → ((S[0].toNat : Int) == 48) = false))) := by
          refine ⟨_, rfl, fun e => ?_⟩
          rw [beq_eq_false_iff_ne]
          intro e'
          refine hz ⟨by rw [decide_eq_true_iff] at e; omega, UInt8.toNat_inj.1 ?_⟩
          show S[0].toNat = 48
          omega
        obtain ⟨b1, hb1, hb2⟩ := HCs
        have HS9 := Lib.hid (show S.data.toList.length ≤ 9 by rw [HL.out]; omega)
        have HS1 := Lib.hid (show 1 ≤ S.data.toList.length by rw [HL.out]; omega)
        have hs9 : S.size ≤ 9 := by omega
        clear hz h1 h9
        cases b1
        all_goals
          (first | (have hb3 := hb2 rfl; clear hb2) | clear hb2)
          go_enter Tryd.func23, Tryd.ntmps23
          go_wp2
          go_loop [3, 4] (fun n i => ∃ k : Nat, k ≤ S.size ∧ i = .int .i64 k ∧ n = .int .i64 (val (S.data.toList.take k) : Nat) ∧ upTo dg S.data.toList k) (fun _ i => S.size - (intOf i).toNat)
          case atStart => exact ⟨0, Nat.zero_le _, rfl, rfl, fun j x hj => by omega⟩
          case round =>
            obtain ⟨k, hk, rfl, rfl, hup⟩ := hrel
            have HU := Lib.hid hup
            clear hup
            obtain ⟨v, hv⟩ : ∃ v, v = val (S.data.toList.take k) := ⟨_, rfl⟩
            have HV0 := Lib.hid hv
            rw [← hv]
            clear hv
            have hvb : v ≤ 999999999 := by rw [HV0.out]; exact val_bd HU.out (by omega)
            by_cases hlt : k < S.size
            · have hik : (k : Int) < S.size := by omega
              have hdl : decide ((k : Int) < (S.size : Int)) = true := by rw [decide_eq_true_iff]; omega
              have HX := Lib.hid (get_list S k hlt)
              cases hd : dg S[k]
              · have HV := Lib.hid (show numI S.data.toList = -1 by unfold numI; rw [numL_bad HX.out hd])
                rcases dg_not hd with hc | hc
                · have e1 : decide (hxI S[k] < 0) = true := by rw [decide_eq_true_iff]; exact hc
                  clear hc hd
                  go_wp2_with (go_at_call 40; refine (digit_any _ _).mono ?_; rintro e w' ⟨rfl, rfl⟩)
                  go_ret
                  exact ⟨by rw [HV.out]; rfl, rfl⟩
                · have e1 : decide (hxI S[k] < 0) = false := by rw [decide_eq_false_iff_not]; omega
                  have e2 : decide (9 < hxI S[k]) = true := by rw [decide_eq_true_iff]; exact hc
                  clear hc hd
                  go_wp2_with (go_at_call 40; refine (digit_any _ _).mono ?_; rintro e w' ⟨rfl, rfl⟩)
                  go_ret
                  exact ⟨by rw [HV.out]; rfl, rfl⟩
              · obtain ⟨q1, q2, q3⟩ := dg_hx hd
                have HN := Lib.hid (HU.out.next HX.out hd)
                have HW := Lib.hid (val_take HX.out)
                have HQ := Lib.hid q1
                have e1 : decide (hxI S[k] < 0) = false := by rw [decide_eq_false_iff_not, q1]; omega
                have e2 : decide (9 < hxI S[k]) = false := by rw [decide_eq_false_iff_not, q1]; omega
                have e3 : 0 ≤ hxI S[k] := by omega
                have e4 : hxI S[k] ≤ 9 := by omega
                have HR := Lib.hid (show Value.int .i64 (10 * (v : Int) + hxI S[k]) = .int .i64 ((val (S.data.toList.take (k + 1)) : Nat) : Int) by rw [HW.out, ← HV0.out, HQ.out]; congr 1; omega)
                clear q1 hd
                go_wp2_with (go_at_call 40; refine (digit_any _ _).mono ?_; rintro e w' ⟨rfl, rfl⟩)
                go_round
                case rel => exact ⟨k + 1, by omega, by go_num, HR.out, HN.out⟩
                case measure => simp [intOf]; omega
            · obtain rfl : k = S.size := by omega
              have HV := Lib.hid (show numI S.data.toList = (v : Int) by
                unfold numI
                rw [numL_ok HS1.out HS9.out HZ.out (HU.out.all HL.out.symm), HV0.out]
                simp only
                rw [← HL.out, List.take_length])
              go_wp2
              go_ret
              exact ⟨by rw [HV.out]; rfl, rfl⟩
end Go.Proofs.YtonjgfbefhefjaaDoor.Ln
