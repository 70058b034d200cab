/- Which names may be: store.Valid and the reference's. -/
import Derived.Test.YtgdbplciepiinaaDoorChecked
import Derived.Test.YtgdbplciepiinaaDoorGenA
set_option linter.unusedVariables false
set_option linter.unusedSimpArgs false
namespace Go.Proofs.YtgdbplciepiinaaDoor.St
open Go.RowKit
theorem get_list (s : ByteArray) (k : Nat) (h : k < s.size) : s.data.toList[k]? = some s[k] := by rw [List.getElem?_eq_getElem (by rw [Array.length_toList]; exact h)]; rfl
theorem empty_of_size {s : ByteArray} (h : s.size = 0) : s = ⟨#[]⟩ := by
  apply ByteArray.ext; apply Array.toList_inj.1
  exact List.eq_nil_of_length_eq_zero (by rw [Array.length_toList]; exact h)
theorem toList_empty {s : ByteArray} (h : s.size = 0) : s.toList = [] := by rw [ByteArray.toList_eq, empty_of_size h]
theorem toList_ne {s : ByteArray} (h : s.size ≠ 0) : s.toList.isEmpty = false := by
  rw [List.isEmpty_eq_false_iff, ByteArray.toList_eq]
  intro e
  have := congrArg List.length e
  rw [Array.length_toList] at this
  exact h this
/-- a letter or a digit -/
def letB (x : Nat) : Bool := (decide (97 ≤ x) && decide (x ≤ 122)) || (decide (48 ≤ x) && decide (x ≤ 57))
/-- a byte that may stand at k of n -/
def okC (n k x : Nat) : Bool := letB x || (decide (x = 45) && decide (0 < k) && decide (k + 1 < n))
def upTo (l : List UInt8) (k : Nat) : Prop := ∀ j x, j < k → l[j]? = some x → okC l.length j x.toNat = true
/-- a name that may be -/
def validB (l : List UInt8) : Bool := decide (1 ≤ l.length) && decide (l.length ≤ 63) && (List.range l.length).all fun j => okC l.length j (l.getD j 0).toNat
theorem upTo.next {l : List UInt8} {k : Nat} (h : upTo l k) {x : UInt8} (hx : l[k]? = some x) (ho : okC l.length k x.toNat = true) : upTo l (k + 1) := fun j y hj hy => by
  by_cases e : j = k
  · subst e; rw [hx] at hy; cases hy; exact ho
  · exact h j y (by omega) hy
theorem valid_bad {l : List UInt8} {k : Nat} {x : UInt8} (hx : l[k]? = some x) (ho : okC l.length k x.toNat = false) : validB l = false := by
  unfold validB
  rw [Bool.and_eq_false_iff]
  refine .inr (List.all_eq_false.2 ⟨k, List.mem_range.2 (List.getElem?_eq_some_iff.1 hx).1, ?_⟩)
  rw [List.getD_eq_getElem?_getD, hx]
  simpa using ho
theorem valid_all {l : List UInt8} (h : upTo l l.length) (h1 : 1 ≤ l.length) (h2 : l.length ≤ 63) : validB l = true := by
  unfold validB
  rw [decide_eq_true h1, decide_eq_true h2, Bool.true_and, Bool.true_and]
  refine List.all_eq_true.2 fun j hj => ?_
  have hj := List.mem_range.1 hj
  have e := List.getElem?_eq_getElem hj
  rw [List.getD_eq_getElem?_getD, e]
  exact h j _ hj e
theorem valid_len {l : List UInt8} (h : ¬ (1 ≤ l.length ∧ l.length ≤ 63)) : validB l = false := by
  unfold validB
  rw [Bool.and_eq_false_iff, Bool.and_eq_false_iff]
  by_cases h1 : 1 ≤ l.length
  · exact .inl (.inr (decide_eq_false (fun e => h ⟨h1, e⟩)))
  · exact .inl (.inl (decide_eq_false h1))
theorem letB_A {x : Nat} (h : 97 ≤ x ∧ x ≤ 122) : letB x = true := by unfold letB; simp; omega
theorem letB_B {x : Nat} (h : 122 < x) : letB x = false := by unfold letB; simp; omega
theorem letB_C {x : Nat} (h : 57 < x ∧ x < 97) : letB x = false := by unfold letB; simp; omega
theorem letB_D {x : Nat} (h : 48 ≤ x ∧ x ≤ 57) : letB x = true := by unfold letB; simp; omega
theorem letB_E {x : Nat} (h : x < 48) : letB x = false := by unfold letB; simp; omega
theorem letB_45 : letB 45 = false := by decide
theorem ok_let {n k x : Nat} (h : letB x = true) : okC n k x = true := by unfold okC; rw [h]; rfl
theorem ok_45 {n k x : Nat} (h : x = 45) (h1 : 0 < k) (h2 : k + 1 < n) : okC n k x = true := by unfold okC; rw [decide_eq_true h, decide_eq_true h1, decide_eq_true h2]; simp
theorem bad_45 {n k x : Nat} (h : letB x = false) (h1 : ¬ (0 < k ∧ k + 1 < n)) : okC n k x = false := by
  unfold okC
  rw [h]
  by_cases h0 : 0 < k
  · rw [decide_eq_false (show ¬ k + 1 < n from fun e => h1 ⟨h0, e⟩)]; simp
  · rw [decide_eq_false h0]; simp
theorem bad_other {n k x : Nat} (h : letB x = false) (h1 : x ≠ 45) : okC n k x = false := by unfold okC; rw [h, decide_eq_false h1]; rfl
theorem letter_any (w : World) (x : Nat) (hx : x < 256) : Calls Tryd.prog 22 #[.int .u8 (x : Int)] w fun e w' => e = .returned (.bool (letB x)) ∧ w = w' := by
  have hcl : (97 ≤ x ∧ x ≤ 122) ∨ 122 < x ∨ (57 < x ∧ x < 97) ∨ (48 ≤ x ∧ x ≤ 57) ∨ x < 48 := by omega
  rcases hcl with hc | hc | hc | hc | hc
  · have HV := Lib.hid (show letB x = true by unfold letB; simp; omega)
    have ha1 : decide ((97 : Int) ≤ (x : Int)) = true := by rw [decide_eq_true_iff]; omega
    have ha2 : decide ((x : Int) ≤ 122) = true := by rw [decide_eq_true_iff]; omega
    have ha3 : decide ((48 : Int) ≤ (x : Int)) = true := by rw [decide_eq_true_iff]; omega
    have ha4 : decide ((x : Int) ≤ 57) = false := by rw [decide_eq_false_iff_not]; omega
    clear hc
    go_enter Tryd.func22, Tryd.ntmps22
    go_wp2
    go_ret
    exact ⟨by rw [HV.out]; rfl, rfl⟩
  · have HV := Lib.hid (show letB x = false by unfold letB; simp; omega)
    have ha1 : decide ((97 : Int) ≤ (x : Int)) = true := by rw [decide_eq_true_iff]; omega
    have ha2 : decide ((x : Int) ≤ 122) = false := by rw [decide_eq_false_iff_not]; omega
    have ha3 : decide ((48 : Int) ≤ (x : Int)) = true := by rw [decide_eq_true_iff]; omega
    have ha4 : decide ((x : Int) ≤ 57) = false := by rw [decide_eq_false_iff_not]; omega
    clear hc
    go_enter Tryd.func22, Tryd.ntmps22
    go_wp2
    go_ret
    exact ⟨by rw [HV.out]; rfl, rfl⟩
  · have HV := Lib.hid (show letB x = false by unfold letB; simp; omega)
    have ha1 : decide ((97 : Int) ≤ (x : Int)) = false := by rw [decide_eq_false_iff_not]; omega
    have ha2 : decide ((x : Int) ≤ 122) = true := by rw [decide_eq_true_iff]; omega
    have ha3 : decide ((48 : Int) ≤ (x : Int)) = true := by rw [decide_eq_true_iff]; omega
    have ha4 : decide ((x : Int) ≤ 57) = false := by rw [decide_eq_false_iff_not]; omega
    clear hc
    go_enter Tryd.func22, Tryd.ntmps22
    go_wp2
    go_ret
    exact ⟨by rw [HV.out]; rfl, rfl⟩
  · have HV := Lib.hid (show letB x = true by unfold letB; simp; omega)
    have ha1 : decide ((97 : Int) ≤ (x : Int)) = false := by rw [decide_eq_false_iff_not]; omega
    have ha2 : decide ((x : Int) ≤ 122) = true := by rw [decide_eq_true_iff]; omega
    have ha3 : decide ((48 : Int) ≤ (x : Int)) = true := by rw [decide_eq_true_iff]; omega
    have ha4 : decide ((x : Int) ≤ 57) = true := by rw [decide_eq_true_iff]; omega
    clear hc
    go_enter Tryd.func22, Tryd.ntmps22
    go_wp2
    go_ret
    exact ⟨by rw [HV.out]; rfl, rfl⟩
  · have HV := Lib.hid (show letB x = false by unfold letB; simp; omega)
    have ha1 : decide ((97 : Int) ≤ (x : Int)) = false := by rw [decide_eq_false_iff_not]; omega
    have ha2 : decide ((x : Int) ≤ 122) = true := by rw [decide_eq_true_iff]; omega
    have ha3 : decide ((48 : Int) ≤ (x : Int)) = false := by rw [decide_eq_false_iff_not]; omega
    have ha4 : decide ((x : Int) ≤ 57) = true := by rw [decide_eq_true_iff]; omega
    clear hc
    go_enter Tryd.func22, Tryd.ntmps22
    go_wp2
    go_ret
    exact ⟨by rw [HV.out]; rfl, rfl⟩
set_option maxRecDepth 20000 in
set_option maxHeartbeats 4000000 in
theorem Valid_any (w : World) (s : ByteArray) (hs : s.size ≤ 1000000) :
    Calls Tryd.prog 8 #[.string s] w fun e w' => e = .returned (.bool (validB s.data.toList)) ∧ w = w' := by
  have HL := Lib.hid (show s.data.toList.length = s.size from Array.length_toList)
  by_cases h0 : s.size = 0
  · have hl := toList_empty h0
    have hl2 : s.toList.isEmpty = true := by rw [hl]; rfl
    have HV := Lib.hid (show validB s.data.toList = false from valid_len (by rw [HL.out]; omega))
    clear h0
    go_enter Tryd.func8, Tryd.ntmps8
    go_wp2
    go_ret
    exact ⟨by rw [HV.out]; rfl, rfl⟩
  · have hl2 := toList_ne h0
    by_cases h63 : s.size ≤ 63
    · have hd63 : decide ((63 : Int) < (s.size : Int)) = false := by rw [decide_eq_false_iff_not]; omega
      go_enter Tryd.func8, Tryd.ntmps8
      go_wp2
      go_loop [14] (fun i => ∃ k : Nat, k ≤ s.size ∧ i = .int .i64 k ∧ upTo s.data.toList k) (fun i => s.size - (intOf i).toNat)
      case atStart => exact ⟨0, Nat.zero_le _, rfl, fun j x hj => by omega⟩
      case round =>
        obtain ⟨k, hk, rfl, hup⟩ := hrel
        by_cases hlt : k < s.size
        · have hik : (k : Int) < s.size := by omega
          have hdl : decide ((k : Int) < (s.size : Int)) = true := by rw [decide_eq_true_iff]; omega
          have HX := Lib.hid (get_list s k hlt)
          have HLT := Lib.hid (show ∀ W : World, Calls Tryd.prog 22 #[.int .u8 (s[k].toNat : Int)] W fun e w' => e = .returned (.bool (letB s[k].toNat)) ∧ W = w' from fun W => letter_any W _ s[k].toNat_lt)
          have hcl : letB s[k].toNat = true ∨ (letB s[k].toNat = false ∧ s[k].toNat = 45) ∨ (letB s[k].toNat = false ∧ s[k].toNat ≠ 45) := by cases letB s[k].toNat with | true => exact .inl rfl | false => (by_cases h : s[k].toNat = 45; exact .inr (.inl ⟨rfl, h⟩); exact .inr (.inr ⟨rfl, h⟩))
          rcases hcl with hc | ⟨hc, h45⟩ | ⟨hc, h45⟩
          · rw [hc] at HLT
            have hkk : (k = 0 ∧ ¬ k + 1 < s.size) ∨ (k = 0 ∧ k + 1 < s.size) ∨ (0 < k ∧ ¬ k + 1 < s.size) ∨ (0 < k ∧ k + 1 < s.size) := by omega
            rcases hkk with hkc | hkc | hkc | hkc
            · have HN := Lib.hid (hup.next HX.out (show okC s.data.toList.length k s[k].toNat = true by rw [HL.out]; exact ok_let hc))
              have hk0 : decide ((0 : Int) < (k : Int)) = false := by rw [decide_eq_false_iff_not]; omega
              have hk0n : decide (0 < k) = false := by rw [decide_eq_false_iff_not]; omega
              have hk0p : ¬ 0 < k := by omega
              have hk1 : decide ((k : Int) < (s.size : Int) - 1) = false := by rw [decide_eq_false_iff_not]; omega
              have hk2 : decide ((k : Int) + 1 < (s.size : Int)) = false := by rw [decide_eq_false_iff_not]; omega
              clear hkc hc
              go_wp2_with (go_at_call 22; refine (HLT.out _).mono ?_; rintro e w1 ⟨rfl, rfl⟩; skip)
              try go_round
              all_goals first
                | exact ⟨k + 1, by omega, by go_num, HN.out⟩
                | ((repeat apply Exists.intro); refine ⟨?_, rfl⟩; exact ⟨k + 1, by omega, by go_num, HN.out⟩)
                | exact ⟨⟨k + 1, by omega, by go_num, HN.out⟩, by simp [intOf]; omega⟩
                | (simp [intOf]; done)
                | (simp [intOf]; omega)
            · have HN := Lib.hid (hup.next HX.out (show okC s.data.toList.length k s[k].toNat = true by rw [HL.out]; exact ok_let hc))
              have hk0 : decide ((0 : Int) < (k : Int)) = false := by rw [decide_eq_false_iff_not]; omega
              have hk0n : decide (0 < k) = false := by rw [decide_eq_false_iff_not]; omega
              have hk0p : ¬ 0 < k := by omega
              have hk1 : decide ((k : Int) < (s.size : Int) - 1) = true := by rw [decide_eq_true_iff]; omega
              have hk2 : decide ((k : Int) + 1 < (s.size : Int)) = true := by rw [decide_eq_true_iff]; omega
              clear hkc hc
              go_wp2_with (go_at_call 22; refine (HLT.out _).mono ?_; rintro e w1 ⟨rfl, rfl⟩; skip)
              try go_round
              all_goals first
                | exact ⟨k + 1, by omega, by go_num, HN.out⟩
                | ((repeat apply Exists.intro); refine ⟨?_, rfl⟩; exact ⟨k + 1, by omega, by go_num, HN.out⟩)
                | exact ⟨⟨k + 1, by omega, by go_num, HN.out⟩, by simp [intOf]; omega⟩
                | (simp [intOf]; done)
                | (simp [intOf]; omega)
            · have HN := Lib.hid (hup.next HX.out (show okC s.data.toList.length k s[k].toNat = true by rw [HL.out]; exact ok_let hc))
              have hk0 : decide ((0 : Int) < (k : Int)) = true := by rw [decide_eq_true_iff]; omega
              have hk0n : decide (0 < k) = true := by rw [decide_eq_true_iff]; omega
              have hk0p : 0 < k := hkc.1
              have hk1 : decide ((k : Int) < (s.size : Int) - 1) = false := by rw [decide_eq_false_iff_not]; omega
              have hk2 : decide ((k : Int) + 1 < (s.size : Int)) = false := by rw [decide_eq_false_iff_not]; omega
              clear hkc hc
              go_wp2_with (go_at_call 22; refine (HLT.out _).mono ?_; rintro e w1 ⟨rfl, rfl⟩; skip)
              try go_round
              all_goals first
                | exact ⟨k + 1, by omega, by go_num, HN.out⟩
                | ((repeat apply Exists.intro); refine ⟨?_, rfl⟩; exact ⟨k + 1, by omega, by go_num, HN.out⟩)
                | exact ⟨⟨k + 1, by omega, by go_num, HN.out⟩, by simp [intOf]; omega⟩
                | (simp [intOf]; done)
                | (simp [intOf]; omega)
            · have HN := Lib.hid (hup.next HX.out (show okC s.data.toList.length k s[k].toNat = true by rw [HL.out]; exact ok_let hc))
              have hk0 : decide ((0 : Int) < (k : Int)) = true := by rw [decide_eq_true_iff]; omega
              have hk0n : decide (0 < k) = true := by rw [decide_eq_true_iff]; omega
              have hk0p : 0 < k := hkc.1
              have hk1 : decide ((k : Int) < (s.size : Int) - 1) = true := by rw [decide_eq_true_iff]; omega
              have hk2 : decide ((k : Int) + 1 < (s.size : Int)) = true := by rw [decide_eq_true_iff]; omega
              clear hkc hc
              go_wp2_with (go_at_call 22; refine (HLT.out _).mono ?_; rintro e w1 ⟨rfl, rfl⟩; skip)
              try go_round
              all_goals first
                | exact ⟨k + 1, by omega, by go_num, HN.out⟩
                | ((repeat apply Exists.intro); refine ⟨?_, rfl⟩; exact ⟨k + 1, by omega, by go_num, HN.out⟩)
                | exact ⟨⟨k + 1, by omega, by go_num, HN.out⟩, by simp [intOf]; omega⟩
                | (simp [intOf]; done)
                | (simp [intOf]; omega)
          · rw [hc] at HLT
            have heN : ((s[k].toNat : Int) != 45) = false := by rw [bne_eq_false_iff_eq]; omega
            have he : ((s[k].toNat : Int) == 45) = true := by rw [beq_iff_eq]; omega
            have hkk : (k = 0 ∧ ¬ k + 1 < s.size) ∨ (k = 0 ∧ k + 1 < s.size) ∨ (0 < k ∧ ¬ k + 1 < s.size) ∨ (0 < k ∧ k + 1 < s.size) := by omega
            rcases hkk with hkc | hkc | hkc | hkc
            · have HV := Lib.hid (valid_bad HX.out (show okC s.data.toList.length k s[k].toNat = false by rw [HL.out]; exact bad_45 hc (by omega)))
              have hk0 : decide ((0 : Int) < (k : Int)) = false := by rw [decide_eq_false_iff_not]; omega
              have hk0n : decide (0 < k) = false := by rw [decide_eq_false_iff_not]; omega
              have hk0p : ¬ 0 < k := by omega
              have hk1 : decide ((k : Int) < (s.size : Int) - 1) = false := by rw [decide_eq_false_iff_not]; omega
              have hk2 : decide ((k : Int) + 1 < (s.size : Int)) = false := by rw [decide_eq_false_iff_not]; omega
              clear hkc hc h45
              go_wp2_with (go_at_call 22; refine (HLT.out _).mono ?_; rintro e w1 ⟨rfl, rfl⟩; skip)
              all_goals (go_ret; exact ⟨by rw [HV.out]; rfl, rfl⟩)
            · have HV := Lib.hid (valid_bad HX.out (show okC s.data.toList.length k s[k].toNat = false by rw [HL.out]; exact bad_45 hc (by omega)))
              have hk0 : decide ((0 : Int) < (k : Int)) = false := by rw [decide_eq_false_iff_not]; omega
              have hk0n : decide (0 < k) = false := by rw [decide_eq_false_iff_not]; omega
              have hk0p : ¬ 0 < k := by omega
              have hk1 : decide ((k : Int) < (s.size : Int) - 1) = true := by rw [decide_eq_true_iff]; omega
              have hk2 : decide ((k : Int) + 1 < (s.size : Int)) = true := by rw [decide_eq_true_iff]; omega
              clear hkc hc h45
              go_wp2_with (go_at_call 22; refine (HLT.out _).mono ?_; rintro e w1 ⟨rfl, rfl⟩; skip)
              all_goals (go_ret; exact ⟨by rw [HV.out]; rfl, rfl⟩)
            · have HV := Lib.hid (valid_bad HX.out (show okC s.data.toList.length k s[k].toNat = false by rw [HL.out]; exact bad_45 hc (by omega)))
              have hk0 : decide ((0 : Int) < (k : Int)) = true := by rw [decide_eq_true_iff]; omega
              have hk0n : decide (0 < k) = true := by rw [decide_eq_true_iff]; omega
              have hk0p : 0 < k := hkc.1
              have hk1 : decide ((k : Int) < (s.size : Int) - 1) = false := by rw [decide_eq_false_iff_not]; omega
              have hk2 : decide ((k : Int) + 1 < (s.size : Int)) = false := by rw [decide_eq_false_iff_not]; omega
              clear hkc hc h45
              go_wp2_with (go_at_call 22; refine (HLT.out _).mono ?_; rintro e w1 ⟨rfl, rfl⟩; skip)
              all_goals (go_ret; exact ⟨by rw [HV.out]; rfl, rfl⟩)
            · have HN := Lib.hid (hup.next HX.out (show okC s.data.toList.length k s[k].toNat = true by rw [HL.out]; exact ok_45 h45 hkc.1 hkc.2))
              have hk0 : decide ((0 : Int) < (k : Int)) = true := by rw [decide_eq_true_iff]; omega
              have hk0n : decide (0 < k) = true := by rw [decide_eq_true_iff]; omega
              have hk0p : 0 < k := hkc.1
              have hk1 : decide ((k : Int) < (s.size : Int) - 1) = true := by rw [decide_eq_true_iff]; omega
              have hk2 : decide ((k : Int) + 1 < (s.size : Int)) = true := by rw [decide_eq_true_iff]; omega
              clear hkc hc h45
              go_wp2_with (go_at_call 22; refine (HLT.out _).mono ?_; rintro e w1 ⟨rfl, rfl⟩; skip)
              try go_round
              all_goals first
                | exact ⟨k + 1, by omega, by go_num, HN.out⟩
                | ((repeat apply Exists.intro); refine ⟨?_, rfl⟩; exact ⟨k + 1, by omega, by go_num, HN.out⟩)
                | exact ⟨⟨k + 1, by omega, by go_num, HN.out⟩, by simp [intOf]; omega⟩
                | (simp [intOf]; done)
                | (simp [intOf]; omega)
          · rw [hc] at HLT
            have heN : ((s[k].toNat : Int) != 45) = true := by rw [bne_iff_ne]; omega
            have he : ((s[k].toNat : Int) == 45) = false := by rw [beq_eq_false_iff_ne]; omega
            have hkk : (k = 0 ∧ ¬ k + 1 < s.size) ∨ (k = 0 ∧ k + 1 < s.size) ∨ (0 < k ∧ ¬ k + 1 < s.size) ∨ (0 < k ∧ k + 1 < s.size) := by omega
            rcases hkk with hkc | hkc | hkc | hkc
            · have HV := Lib.hid (valid_bad HX.out (show okC s.data.toList.length k s[k].toNat = false by rw [HL.out]; exact bad_other hc h45))
              have hk0 : decide ((0 : Int) < (k : Int)) = false := by rw [decide_eq_false_iff_not]; omega
              have hk0n : decide (0 < k) = false := by rw [decide_eq_false_iff_not]; omega
              have hk0p : ¬ 0 < k := by omega
              have hk1 : decide ((k : Int) < (s.size : Int) - 1) = false := by rw [decide_eq_false_iff_not]; omega
              have hk2 : decide ((k : Int) + 1 < (s.size : Int)) = false := by rw [decide_eq_false_iff_not]; omega
              clear hkc hc h45
              go_wp2_with (go_at_call 22; refine (HLT.out _).mono ?_; rintro e w1 ⟨rfl, rfl⟩; skip)
              all_goals (go_ret; exact ⟨by rw [HV.out]; rfl, rfl⟩)
            · have HV := Lib.hid (valid_bad HX.out (show okC s.data.toList.length k s[k].toNat = false by rw [HL.out]; exact bad_other hc h45))
              have hk0 : decide ((0 : Int) < (k : Int)) = false := by rw [decide_eq_false_iff_not]; omega
              have hk0n : decide (0 < k) = false := by rw [decide_eq_false_iff_not]; omega
              have hk0p : ¬ 0 < k := by omega
              have hk1 : decide ((k : Int) < (s.size : Int) - 1) = true := by rw [decide_eq_true_iff]; omega
              have hk2 : decide ((k : Int) + 1 < (s.size : Int)) = true := by rw [decide_eq_true_iff]; omega
              clear hkc hc h45
              go_wp2_with (go_at_call 22; refine (HLT.out _).mono ?_; rintro e w1 ⟨rfl, rfl⟩; skip)
              all_goals (go_ret; exact ⟨by rw [HV.out]; rfl, rfl⟩)
            · have HV := Lib.hid (valid_bad HX.out (show okC s.data.toList.length k s[k].toNat = false by rw [HL.out]; exact bad_other hc h45))
              have hk0 : decide ((0 : Int) < (k : Int)) = true := by rw [decide_eq_true_iff]; omega
              have hk0n : decide (0 < k) = true := by rw [decide_eq_true_iff]; omega
              have hk0p : 0 < k := hkc.1
              have hk1 : decide ((k : Int) < (s.size : Int) - 1) = false := by rw [decide_eq_false_iff_not]; omega
              have hk2 : decide ((k : Int) + 1 < (s.size : Int)) = false := by rw [decide_eq_false_iff_not]; omega
              clear hkc hc h45
              go_wp2_with (go_at_call 22; refine (HLT.out _).mono ?_; rintro e w1 ⟨rfl, rfl⟩; skip)
              all_goals (go_ret; exact ⟨by rw [HV.out]; rfl, rfl⟩)
            · have HV := Lib.hid (valid_bad HX.out (show okC s.data.toList.length k s[k].toNat = false by rw [HL.out]; exact bad_other hc h45))
              have hk0 : decide ((0 : Int) < (k : Int)) = true := by rw [decide_eq_true_iff]; omega
              have hk0n : decide (0 < k) = true := by rw [decide_eq_true_iff]; omega
              have hk0p : 0 < k := hkc.1
              have hk1 : decide ((k : Int) < (s.size : Int) - 1) = true := by rw [decide_eq_true_iff]; omega
              have hk2 : decide ((k : Int) + 1 < (s.size : Int)) = true := by rw [decide_eq_true_iff]; omega
              clear hkc hc h45
              go_wp2_with (go_at_call 22; refine (HLT.out _).mono ?_; rintro e w1 ⟨rfl, rfl⟩; skip)
              all_goals (go_ret; exact ⟨by rw [HV.out]; rfl, rfl⟩)
        · obtain rfl : k = s.size := by omega
          have HV := Lib.hid (show validB s.data.toList = true from valid_all (by rw [HL.out]; exact hup) (by rw [HL.out]; omega) (by rw [HL.out]; exact h63))
          clear h0 h63 hup
          go_wp2
          go_ret
          exact ⟨by rw [HV.out]; rfl, rfl⟩
    · have hd63 : decide ((63 : Int) < (s.size : Int)) = true := by rw [decide_eq_true_iff]; omega
      have HV := Lib.hid (show validB s.data.toList = false from valid_len (by rw [HL.out]; omega))
      clear h0 h63
      go_enter Tryd.func8, Tryd.ntmps8
      go_wp2
      go_ret
      exact ⟨by rw [HV.out]; rfl, rfl⟩
set_option maxRecDepth 20000 in
set_option maxHeartbeats 4000000 in
theorem RefValid_any (w : World) (s : ByteArray) (hs : s.size ≤ 1000000) :
    Calls Tryd.prog 9 #[.string s] w fun e w' => e = .returned (.bool (validB s.data.toList)) ∧ w = w' := by
  have HL := Lib.hid (show s.data.toList.length = s.size from Array.length_toList)
  go_enter Tryd.func9, Tryd.ntmps9
  go_wp2
  go_loop [3] (fun i => ∃ k : Nat, k ≤ s.size ∧ i = .int .i64 k ∧ upTo s.data.toList k) (fun i => s.size - (intOf i).toNat)
  case atStart => exact ⟨0, Nat.zero_le _, rfl, fun j x hj => by omega⟩
  case round =>
    obtain ⟨k, hk, rfl, hup⟩ := hrel
    by_cases hlt : k < s.size
    · have hik : (k : Int) < s.size := by omega
      have hdl : decide ((k : Int) < (s.size : Int)) = true := by rw [decide_eq_true_iff]; omega
      have HX := Lib.hid (get_list s k hlt)
      have hcl : (97 ≤ s[k].toNat ∧ s[k].toNat ≤ 122) ∨ 122 < s[k].toNat ∨ (57 < s[k].toNat ∧ s[k].toNat < 97) ∨ (48 ≤ s[k].toNat ∧ s[k].toNat ≤ 57) ∨ s[k].toNat < 48 := by omega
      rcases hcl with hc | hc | hc | hc | hc
      · have HN := Lib.hid (hup.next HX.out (show okC s.data.toList.length k s[k].toNat = true by rw [HL.out]; exact ok_let (letB_A hc)))
        have ha1 : decide ((97 : Int) ≤ (s[k].toNat : Int)) = true := by rw [decide_eq_true_iff]; omega
        have ha2 : decide ((s[k].toNat : Int) ≤ 122) = true := by rw [decide_eq_true_iff]; omega
        have ha3 : decide ((48 : Int) ≤ (s[k].toNat : Int)) = true := by rw [decide_eq_true_iff]; omega
        have ha4 : decide ((s[k].toNat : Int) ≤ 57) = false := by rw [decide_eq_false_iff_not]; omega
        have he : ((s[k].toNat : Int) == 45) = false := by rw [beq_eq_false_iff_ne]; omega
        clear hc
        go_wp2
        try go_round
        all_goals first
          | exact ⟨k + 1, by omega, by go_num, HN.out⟩
          | ((repeat apply Exists.intro); refine ⟨?_, rfl⟩; exact ⟨k + 1, by omega, by go_num, HN.out⟩)
          | exact ⟨⟨k + 1, by omega, by go_num, HN.out⟩, by simp [intOf]; omega⟩
          | (simp [intOf]; done)
          | (simp [intOf]; omega)
      · have HV := Lib.hid (valid_bad HX.out (show okC s.data.toList.length k s[k].toNat = false by rw [HL.out]; exact bad_other (letB_B hc) (by omega)))
        have ha1 : decide ((97 : Int) ≤ (s[k].toNat : Int)) = true := by rw [decide_eq_true_iff]; omega
        have ha2 : decide ((s[k].toNat : Int) ≤ 122) = false := by rw [decide_eq_false_iff_not]; omega
        have ha3 : decide ((48 : Int) ≤ (s[k].toNat : Int)) = true := by rw [decide_eq_true_iff]; omega
        have ha4 : decide ((s[k].toNat : Int) ≤ 57) = false := by rw [decide_eq_false_iff_not]; omega
        have he : ((s[k].toNat : Int) == 45) = false := by rw [beq_eq_false_iff_ne]; omega
        clear hc
        go_wp2
        all_goals (go_ret; exact ⟨by rw [HV.out]; rfl, rfl⟩)
      · have HV := Lib.hid (valid_bad HX.out (show okC s.data.toList.length k s[k].toNat = false by rw [HL.out]; exact bad_other (letB_C hc) (by omega)))
        have ha1 : decide ((97 : Int) ≤ (s[k].toNat : Int)) = false := by rw [decide_eq_false_iff_not]; omega
        have ha2 : decide ((s[k].toNat : Int) ≤ 122) = true := by rw [decide_eq_true_iff]; omega
        have ha3 : decide ((48 : Int) ≤ (s[k].toNat : Int)) = true := by rw [decide_eq_true_iff]; omega
        have ha4 : decide ((s[k].toNat : Int) ≤ 57) = false := by rw [decide_eq_false_iff_not]; omega
        have he : ((s[k].toNat : Int) == 45) = false := by rw [beq_eq_false_iff_ne]; omega
        clear hc
        go_wp2
        all_goals (go_ret; exact ⟨by rw [HV.out]; rfl, rfl⟩)
      · have HN := Lib.hid (hup.next HX.out (show okC s.data.toList.length k s[k].toNat = true by rw [HL.out]; exact ok_let (letB_D hc)))
        have ha1 : decide ((97 : Int) ≤ (s[k].toNat : Int)) = false := by rw [decide_eq_false_iff_not]; omega
        have ha2 : decide ((s[k].toNat : Int) ≤ 122) = true := by rw [decide_eq_true_iff]; omega
        have ha3 : decide ((48 : Int) ≤ (s[k].toNat : Int)) = true := by rw [decide_eq_true_iff]; omega
        have ha4 : decide ((s[k].toNat : Int) ≤ 57) = true := by rw [decide_eq_true_iff]; omega
        have he : ((s[k].toNat : Int) == 45) = false := by rw [beq_eq_false_iff_ne]; omega
        clear hc
        go_wp2
        try go_round
        all_goals first
          | exact ⟨k + 1, by omega, by go_num, HN.out⟩
          | ((repeat apply Exists.intro); refine ⟨?_, rfl⟩; exact ⟨k + 1, by omega, by go_num, HN.out⟩)
          | exact ⟨⟨k + 1, by omega, by go_num, HN.out⟩, by simp [intOf]; omega⟩
          | (simp [intOf]; done)
          | (simp [intOf]; omega)
      · by_cases h45 : s[k].toNat = 45
        · have ha1 : decide ((97 : Int) ≤ (s[k].toNat : Int)) = false := by rw [decide_eq_false_iff_not]; omega
          have ha2 : decide ((s[k].toNat : Int) ≤ 122) = true := by rw [decide_eq_true_iff]; omega
          have ha3 : decide ((48 : Int) ≤ (s[k].toNat : Int)) = false := by rw [decide_eq_false_iff_not]; omega
          have ha4 : decide ((s[k].toNat : Int) ≤ 57) = true := by rw [decide_eq_true_iff]; omega
          have he : ((s[k].toNat : Int) == 45) = true := by rw [beq_iff_eq]; omega
          have hkk : (k = 0 ∧ ¬ k + 1 < s.size) ∨ (k = 0 ∧ k + 1 < s.size) ∨ (0 < k ∧ ¬ k + 1 < s.size) ∨ (0 < k ∧ k + 1 < s.size) := by omega
          rcases hkk with hkc | hkc | hkc | hkc
          · have HV := Lib.hid (valid_bad HX.out (show okC s.data.toList.length k s[k].toNat = false by rw [HL.out]; exact bad_45 (letB_E hc) (by omega)))
            have hk0 : decide ((0 : Int) < (k : Int)) = false := by rw [decide_eq_false_iff_not]; omega
            have hk0n : decide (0 < k) = false := by rw [decide_eq_false_iff_not]; omega
            have hk0p : ¬ 0 < k := by omega
            have hk1 : decide ((k : Int) < (s.size : Int) - 1) = false := by rw [decide_eq_false_iff_not]; omega
            have hk2 : decide ((k : Int) + 1 < (s.size : Int)) = false := by rw [decide_eq_false_iff_not]; omega
            clear hkc hc h45
            go_wp2
            all_goals (go_ret; exact ⟨by rw [HV.out]; rfl, rfl⟩)
          · have HV := Lib.hid (valid_bad HX.out (show okC s.data.toList.length k s[k].toNat = false by rw [HL.out]; exact bad_45 (letB_E hc) (by omega)))
            have hk0 : decide ((0 : Int) < (k : Int)) = false := by rw [decide_eq_false_iff_not]; omega
            have hk0n : decide (0 < k) = false := by rw [decide_eq_false_iff_not]; omega
            have hk0p : ¬ 0 < k := by omega
            have hk1 : decide ((k : Int) < (s.size : Int) - 1) = true := by rw [decide_eq_true_iff]; omega
            have hk2 : decide ((k : Int) + 1 < (s.size : Int)) = true := by rw [decide_eq_true_iff]; omega
            clear hkc hc h45
            go_wp2
            all_goals (go_ret; exact ⟨by rw [HV.out]; rfl, rfl⟩)
          · have HV := Lib.hid (valid_bad HX.out (show okC s.data.toList.length k s[k].toNat = false by rw [HL.out]; exact bad_45 (letB_E hc) (by omega)))
            have hk0 : decide ((0 : Int) < (k : Int)) = true := by rw [decide_eq_true_iff]; omega
            have hk0n : decide (0 < k) = true := by rw [decide_eq_true_iff]; omega
            have hk0p : 0 < k := hkc.1
            have hk1 : decide ((k : Int) < (s.size : Int) - 1) = false := by rw [decide_eq_false_iff_not]; omega
            have hk2 : decide ((k : Int) + 1 < (s.size : Int)) = false := by rw [decide_eq_false_iff_not]; omega
            clear hkc hc h45
            go_wp2
            all_goals (go_ret; exact ⟨by rw [HV.out]; rfl, rfl⟩)
          · have HN := Lib.hid (hup.next HX.out (show okC s.data.toList.length k s[k].toNat = true by rw [HL.out]; exact ok_45 h45 hkc.1 hkc.2))
            have hk0 : decide ((0 : Int) < (k : Int)) = true := by rw [decide_eq_true_iff]; omega
            have hk0n : decide (0 < k) = true := by rw [decide_eq_true_iff]; omega
            have hk0p : 0 < k := hkc.1
            have hk1 : decide ((k : Int) < (s.size : Int) - 1) = true := by rw [decide_eq_true_iff]; omega
            have hk2 : decide ((k : Int) + 1 < (s.size : Int)) = true := by rw [decide_eq_true_iff]; omega
            clear hkc hc h45
            go_wp2
            try go_round
            all_goals first
              | exact ⟨k + 1, by omega, by go_num, HN.out⟩
              | ((repeat apply Exists.intro); refine ⟨?_, rfl⟩; exact ⟨k + 1, by omega, by go_num, HN.out⟩)
              | exact ⟨⟨k + 1, by omega, by go_num, HN.out⟩, by simp [intOf]; omega⟩
              | (simp [intOf]; done)
              | (simp [intOf]; omega)
        · have HV := Lib.hid (valid_bad HX.out (show okC s.data.toList.length k s[k].toNat = false by rw [HL.out]; exact bad_other (letB_E hc) h45))
          have ha1 : decide ((97 : Int) ≤ (s[k].toNat : Int)) = false := by rw [decide_eq_false_iff_not]; omega
          have ha2 : decide ((s[k].toNat : Int) ≤ 122) = true := by rw [decide_eq_true_iff]; omega
          have ha3 : decide ((48 : Int) ≤ (s[k].toNat : Int)) = false := by rw [decide_eq_false_iff_not]; omega
          have ha4 : decide ((s[k].toNat : Int) ≤ 57) = true := by rw [decide_eq_true_iff]; omega
          have he : ((s[k].toNat : Int) == 45) = false := by rw [beq_eq_false_iff_ne]; omega
          clear hc h45
          go_wp2
          all_goals (go_ret; exact ⟨by rw [HV.out]; rfl, rfl⟩)
    · obtain rfl : k = s.size := by omega
      by_cases h0 : s.size = 0
      · have h1d : decide ((1 : Int) ≤ (s.size : Int)) = false := by rw [decide_eq_false_iff_not]; omega
        have HV := Lib.hid (show validB s.data.toList = false from valid_len (by rw [HL.out]; omega))
        clear h0 hup
        go_wp2
        go_ret
        exact ⟨by rw [HV.out]; rfl, rfl⟩
      · have h1d : decide ((1 : Int) ≤ (s.size : Int)) = true := by rw [decide_eq_true_iff]; omega
        by_cases h63 : s.size ≤ 63
        · have h2d : decide ((s.size : Int) ≤ 63) = true := by rw [decide_eq_true_iff]; omega
          have HV := Lib.hid (show validB s.data.toList = true from valid_all (by rw [HL.out]; exact hup) (by rw [HL.out]; omega) (by rw [HL.out]; exact h63))
          clear h0 h63 hup
          go_wp2
          go_ret
          exact ⟨by rw [HV.out]; rfl, rfl⟩
        · have h2d : decide ((s.size : Int) ≤ 63) = false := by rw [decide_eq_false_iff_not]; omega
          have HV := Lib.hid (show validB s.data.toList = false from valid_len (by rw [HL.out]; omega))
          clear h0 h63 hup
          go_wp2
          go_ret
          exact ⟨by rw [HV.out]; rfl, rfl⟩
end Go.Proofs.YtgdbplciepiinaaDoor.St
