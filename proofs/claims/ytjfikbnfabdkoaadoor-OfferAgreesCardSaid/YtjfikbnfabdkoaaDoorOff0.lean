/- slices.Contains, Equal, Clone over what a slice of texts reads as; offer.Choose, place, guessed; the reference's Choose, first, Skip; the laws' in. -/
import Derived.Test.YtjfikbnfabdkoaaDoorOffSpec
import Derived.Test.YtjfikbnfabdkoaaDoorMsgChk
import Derived.Test.YtjfikbnfabdkoaaDoorMsgSame
import Derived.Deep.QuietTactic
import Derived.BigQuiet
set_option linter.unusedVariables false
set_option linter.unusedSimpArgs false
namespace Go.Proofs.YtjfikbnfabdkoaaDoor.Of
open Go.RowKit Go.Proofs.YtjfikbnfabdkoaaDoor.Wi Go.Proofs.YtjfikbnfabdkoaaDoor.Ow Go.Proofs.YtjfikbnfabdkoaaDoor.Be Go.Proofs.YtjfikbnfabdkoaaDoor.Mg
theorem bdN {B : Nat} {w w' : World} (h : Below B w w') (n : Nat) : Below B w (w'.drewN n) := ⟨h.os, h.tape, h.output, h.size, h.block⟩
theorem str_ne {a b : ByteArray} (h : a ≠ b) : (a.toList == b.toList) = false := by
  rw [beq_eq_false_iff_ne]
  intro e
  rw [ByteArray.toList_eq, ByteArray.toList_eq] at e
  exact h (ByteArray.ext (Array.toList_inj.1 e))
theorem cells_of {w : World} {A : Option Addr} {xs : List ByteArray} (hR : Rd w A (xs.map Value.string)) (hn : 0 < xs.length) : ∃ b o, A = some ⟨b, o, none⟩ ∧ ∀ j, j < xs.length → w.cell? ⟨b, o + j, none⟩ = some (.string (xs.getD j ByteArray.empty)) := by
  obtain ⟨b, o, hA, _, hc⟩ := hR.place (by rw [List.length_map]; exact hn)
  refine ⟨b, o, hA, fun j hj => hc j _ ?_⟩
  rw [List.getElem?_map, List.getElem?_eq_getElem hj, List.getD, List.getElem?_eq_getElem hj]; rfl
theorem cS_true {xs : List ByteArray} {x : ByteArray} (h : x ∈ xs) : Lib.containsS xs x = true := (Lib.containsS_iff _ _).2 h
theorem cS_false {xs : List ByteArray} {x : ByteArray} (h : x ∉ xs) : Lib.containsS xs x = false := by
  cases hb : Lib.containsS xs x with
  | false => rfl
  | true => exact absurd ((Lib.containsS_iff _ _).1 hb) h
theorem Contains_any (w : World) (v : Value) (xs : List ByteArray) (x : ByteArray) (h : SL w v (xs.map Value.string)) :
    Calls Tryd.prog 37 #[v, .string x] w fun e w' => e = .returned (.bool (Lib.containsS xs x)) ∧ w = w' := by
  obtain ⟨A, n, c, rfl, hl, hR, hc, hm⟩ := h
  rw [List.length_map] at hl
  unfold maxLen at hm
  by_cases h0 : n = 0
  · subst h0
    have : xs = [] := List.eq_nil_of_length_eq_zero hl
    subst this
    refine (Tryd.slices_Contains_string_empty A c x w).mono ?_
    rintro e w' ⟨rfl, rfl⟩
    exact ⟨by rw [cS_false (by simp)], rfl⟩
  · obtain ⟨b, o, rfl, hcell⟩ := cells_of hR (by omega)
    refine (Tryd.slices_Contains_string b o n c xs x w (by omega) (by omega) hcell).mono ?_
    rintro e w' ⟨rfl, rfl⟩
    exact ⟨by rw [List.take_of_length_le (by omega)], rfl⟩
theorem Equal_any (w : World) (v1 v2 : Value) (xs ys : List ByteArray) (h1 : SL w v1 (xs.map Value.string)) (h2 : SL w v2 (ys.map Value.string)) :
    Calls Tryd.prog 79 #[v1, v2] w fun e w' => e = .returned (.bool (decide (xs = ys))) ∧ Below w.heap.size w w' := by
  obtain ⟨A, n, c, rfl, hl, hR, hc, hm⟩ := h1
  obtain ⟨A2, n2, c2, rfl, hl2, hR2, hc2, hm2⟩ := h2
  rw [List.length_map] at hl hl2
  unfold maxLen at hm hm2
  by_cases hne : n = n2
  · subst hne
    by_cases h0 : n = 0
    · subst h0
      have : xs = [] := List.eq_nil_of_length_eq_zero hl
      subst this
      have : ys = [] := List.eq_nil_of_length_eq_zero hl2
      subst this
      refine (Tryd.slices_Equal_string_empty A A2 c 0 c2 w (by omega)).mono ?_
      rintro e w' ⟨rfl, rfl⟩
      exact ⟨by simp, Below.refl _ _⟩
    · obtain ⟨b, o, rfl, hcell⟩ := cells_of hR (by omega)
      obtain ⟨b2, o2, rfl, hcell2⟩ := cells_of hR2 (by omega)
      refine (Tryd.slices_Equal_string b o n c b2 o2 n c2 xs ys w (by omega) (by omega) (by omega) (by omega) hcell hcell2).mono ?_
      rintro e w' ⟨rfl, q, rfl⟩
      exact ⟨by rw [List.take_of_length_le (by omega), List.take_of_length_le (by omega)], bdN (Below.refl _ _) q⟩
  · refine (Tryd.slices_Equal_string_lens A A2 n c n2 c2 w hne).mono ?_
    rintro e w' ⟨rfl, rfl⟩
    refine ⟨?_, Below.refl _ _⟩
    rw [show decide (xs = ys) = false by rw [decide_eq_false_iff_not]; intro e; subst e; omega]
theorem Clone_any (w : World) (v : Value) (xs : List ByteArray) (h : SL w v (xs.map Value.string)) (hb : xs.length * 16 ≤ 140737488355328) :
    Calls Tryd.prog 36 #[v] w fun e w' => ∃ v', e = .returned v' ∧ Owns w' w.heap.size 9 v' (xs.map Value.string) ∧ Below w.heap.size w w' := by
  obtain ⟨A, n, c, rfl, hl, hR, hc, hm⟩ := h
  rw [List.length_map] at hl
  cases A with
  | none =>
    have h0 : xs = [] := by
      cases xs with
      | nil => rfl
      | cons x xs =>
        obtain ⟨b, o, e, _⟩ := hR 0 _ rfl
        cases e
    subst h0
    refine (Tryd.slices_Clone_string_nil n c w).mono ?_
    rintro e w' ⟨rfl, rfl⟩
    exact ⟨_, rfl, Owns.nil _ _ _, Below.refl _ _⟩
  | some ad =>
    by_cases h0 : n = 0
    · subst h0
      have : xs = [] := List.eq_nil_of_length_eq_zero hl
      subst this
      refine (Tryd.slices_Clone_string_zero ad c w).mono ?_
      rintro e w' ⟨v', rfl, h1, _, h2⟩
      exact ⟨v', rfl, h1, h2⟩
    · obtain ⟨b, o, e, hcell⟩ := cells_of hR (by omega)
      cases e
      refine (Tryd.slices_Clone_string b o n c xs w (by omega) (by omega) hcell).mono ?_
      rintro e w' ⟨v', rfl, h1, _, h2⟩
      rw [List.take_of_length_le (by omega)] at h1
      exact ⟨v', rfl, by unfold Owns; rw [List.length_map, hl]; exact h1, h2⟩
def Miss (cl sl : List ByteArray) (k : Nat) : Prop := ∀ j y, j < k → cl[j]? = some y → y ∉ sl
def Unlike (l : List ByteArray) (x : ByteArray) (k : Nat) : Prop := ∀ j y, j < k → l[j]? = some y → y ≠ x
theorem Miss.zero (cl sl : List ByteArray) : Miss cl sl 0 := fun j y h => absurd h (by omega)
theorem Miss.succ {cl sl : List ByteArray} {k : Nat} (h : Miss cl sl k) {x : ByteArray} (hk : cl[k]? = some x) (hx : x ∉ sl) : Miss cl sl (k + 1) := fun j y hj hy => by
  by_cases e : j = k
  · subst e; rw [hk] at hy; cases hy; exact hx
  · exact h j y (by omega) hy
theorem Unlike.zero (l : List ByteArray) (x : ByteArray) : Unlike l x 0 := fun j y h => absurd h (by omega)
theorem Unlike.succ {l : List ByteArray} {x y : ByteArray} {k : Nat} (h : Unlike l x k) (hk : l[k]? = some y) (hx : y ≠ x) : Unlike l x (k + 1) := fun j z hj hz => by
  by_cases e : j = k
  · subst e; rw [hk] at hz; cases hz; exact hx
  · exact h j z (by omega) hz
theorem Unlike.out {l : List ByteArray} {x : ByteArray} (h : Unlike l x l.length) : x ∉ l := fun hx => by
  obtain ⟨j, hj⟩ := List.mem_iff_getElem?.1 hx
  exact h j x (List.getElem?_eq_some_iff.1 hj).1 hj rfl
def chE (a : Nat → Addr) (r : Option ByteArray) : Value := if r.isSome then .nilIface else Ei.evA a 13
set_option maxRecDepth 20000 in
set_option maxHeartbeats 2000000 in
theorem Choose_any (w : World) (a : Nat → Addr) (hE : w.cell? ⟨0, 0, none⟩ = some (.iface 189 (.pointer (some (a 13))))) (vc vs : Value) (cl sl : List ByteArray) (hc : SL w vc (cl.map Value.string)) (hs : SL w vs (sl.map Value.string)) :
    Calls Tryd.prog 14 #[vc, vs] w fun e w' => e = .returned (.tuple #[.string ((chooseL cl sl).getD e0), chE a (chooseL cl sl)]) ∧ Below w.heap.size w w' := by
  obtain ⟨A, n, c, rfl, hl, hR, hcc, hm⟩ := hc
  rw [List.length_map] at hl
  unfold maxLen at hm
  have gn : n ≤ 9223372036854775807 := by omega
  have HL := Lib.hid hl
  have HR := Lib.hid hR
  have HCT := Lib.hid (fun x => Contains_any w vs sl x hs)
  clear hl hR hs hcc hm
  go_enter Tryd.func14, Tryd.ntmps14
  go_wp2_with fail
  go_loop [10] (fun i => ∃ k : Nat, k ≤ n ∧ i = .int .i64 k ∧ Miss cl sl k) (fun i => n - (intOf i).toNat)
  case atStart => exact ⟨0, Nat.zero_le _, rfl, Miss.zero _ _⟩
  case round =>
    obtain ⟨k, hk, rfl, hmiss⟩ := hrel
    by_cases hkn : k < n
    · have hkl : k < cl.length := by have := HL.out; omega
      have hki : (k : Int) < n := by omega
      have hdk : decide (k < n) = true := by simp; exact hkn
      obtain ⟨x, hx⟩ : ∃ x, cl[k]? = some x := ⟨_, List.getElem?_eq_getElem hkl⟩
      obtain ⟨b, o, rfl, hlt, c0⟩ := HR.out k (.string x) (by rw [List.getElem?_map, hx]; rfl)
      have HX := Lib.hid hx
      have HM := Lib.hid hmiss
      clear hx hmiss
      by_cases hxs : x ∈ sl
      · have hd := cS_true hxs
        have HC := Lib.hid (choose_hit HM.out HX.out hxs)
        go_wp2_with (go_at_call 37; refine (HCT.out x).mono ?_; rintro e w' ⟨rfl, rfl⟩; skip)
        go_ret2
        exact ⟨by rw [HC.out]; rfl, Below.refl _ _⟩
      · have hd := cS_false hxs
        have HN := Lib.hid (HM.out.succ HX.out hxs)
        go_wp2_with (go_at_call 37; refine (HCT.out x).mono ?_; rintro e w' ⟨rfl, rfl⟩; skip)
        go_round
        case rel => exact ⟨k + 1, by omega, by go_num, HN.out⟩
        case measure => simp [intOf]; omega
    · obtain rfl : k = n := by omega
      have HC := Lib.hid (choose_none (c := cl) (s := sl) (fun j y hy => hmiss j y (by have := HL.out; have := (List.getElem?_eq_some_iff.1 hy).1; omega) hy))
      clear hmiss
      have hdk : decide (k < k) = false := by simp
      go_wp2_with fail
      go_quiet (fail)
      go_wp2_with fail
      go_ret2
      exact ⟨by rw [HC.out]; rfl, bdN (Below.refl _ _) _⟩
set_option maxRecDepth 20000 in
set_option maxHeartbeats 2000000 in
theorem in_any (w : World) (v : Value) (l : List ByteArray) (x : ByteArray) (h : SL w v (l.map Value.string)) :
    Calls Tryd.prog 17 #[v, .string x] w fun e w' => e = .returned (.bool (Lib.containsS l x)) ∧ w = w' := by
  obtain ⟨A, n, c, rfl, hl, hR, hcc, hm⟩ := h
  rw [List.length_map] at hl
  unfold maxLen at hm
  have gn : n ≤ 9223372036854775807 := by omega
  have HL := Lib.hid hl
  have HR := Lib.hid hR
  clear hl hR hcc hm
  go_enter Tryd.func17, Tryd.ntmps17
  go_wp2_with fail
  go_loop [9] (fun i => ∃ k : Nat, k ≤ n ∧ i = .int .i64 k ∧ Unlike l x k) (fun i => n - (intOf i).toNat)
  case atStart => exact ⟨0, Nat.zero_le _, rfl, Unlike.zero _ _⟩
  case round =>
    obtain ⟨k, hk, rfl, hun⟩ := hrel
    by_cases hkn : k < n
    · have hkl : k < l.length := by have := HL.out; omega
      have hki : (k : Int) < n := by omega
      have hdk : decide (k < n) = true := by simp; exact hkn
      obtain ⟨y, hy⟩ : ∃ y, l[k]? = some y := ⟨_, List.getElem?_eq_getElem hkl⟩
      obtain ⟨b, o, rfl, hlt, c0⟩ := HR.out k (.string y) (by rw [List.getElem?_map, hy]; rfl)
      have HY := Lib.hid hy
      have HU := Lib.hid hun
      clear hy hun
      by_cases hxy : x = y
      · subst hxy
        have HC := Lib.hid (cS_true (List.mem_of_getElem? HY.out))
        go_wp2_with fail
        go_ret
        exact ⟨by rw [HC.out]; rfl, rfl⟩
      · have hs1 : (x.toList == y.toList) = false := str_ne hxy
        have HN := Lib.hid (HU.out.succ HY.out (fun e => hxy e.symm))
        go_wp2_with fail
        go_round
        case rel => exact ⟨k + 1, by omega, by go_num, HN.out⟩
        case measure => simp [intOf]; omega
    · obtain rfl : k = n := by omega
      have HC := Lib.hid (cS_false (Unlike.out (HL.out ▸ hun)))
      clear hun
      have hdk : decide (k < k) = false := by simp
      go_wp2_with fail
      go_ret
      exact ⟨by rw [HC.out]; rfl, rfl⟩
set_option maxRecDepth 20000 in
set_option maxHeartbeats 2000000 in
theorem RefChoose_any (w : World) (vc vs : Value) (cl sl : List ByteArray) (hc : SL w vc (cl.map Value.string)) (hs : SL w vs (sl.map Value.string)) :
    Calls Tryd.prog 15 #[vc, vs] w fun e w' => e = .returned (.tuple #[.string ((chooseL cl sl).getD e0), .bool (chooseL cl sl).isSome]) ∧ w = w' := by
  obtain ⟨A, n, c, rfl, hl, hR, hcc, hm⟩ := hc
  obtain ⟨A2, n2, c2, rfl, hl2, hR2, hcc2, hm2⟩ := hs
  rw [List.length_map] at hl hl2
  unfold maxLen at hm hm2
  have gn : n ≤ 9223372036854775807 := by omega
  have gn2 : n2 ≤ 9223372036854775807 := by omega
  have HL := Lib.hid hl
  have HR := Lib.hid hR
  have HL2 := Lib.hid hl2
  have HR2 := Lib.hid hR2
  clear hl hR hcc hm hl2 hR2 hcc2 hm2
  go_enter Tryd.func15, Tryd.ntmps15
  go_wp2_with fail
  go_loop [12] (fun i => ∃ k : Nat, k ≤ n ∧ i = .int .i64 k ∧ Miss cl sl k) (fun i => n - (intOf i).toNat)
  case atStart => exact ⟨0, Nat.zero_le _, rfl, Miss.zero _ _⟩
  case round =>
    obtain ⟨k, hk, rfl, hmiss⟩ := hrel
    by_cases hkn : k < n
    · have hkl : k < cl.length := by have := HL.out; omega
      have hki : (k : Int) < n := by omega
      have hdk : decide (k < n) = true := by simp; exact hkn
      obtain ⟨x, hx⟩ : ∃ x, cl[k]? = some x := ⟨_, List.getElem?_eq_getElem hkl⟩
      obtain ⟨b, o, rfl, hlt, c0⟩ := HR.out k (.string x) (by rw [List.getElem?_map, hx]; rfl)
      have HX := Lib.hid hx
      have HM := Lib.hid hmiss
      clear hx hmiss
      go_wp2_with fail
      go_loop [18] (fun i => ∃ j : Nat, j ≤ n2 ∧ i = .int .i64 j ∧ Unlike sl x j) (fun i => n2 - (intOf i).toNat)
      case atStart => exact ⟨0, Nat.zero_le _, rfl, Unlike.zero _ _⟩
      case round =>
        obtain ⟨j, hj, rfl, hun⟩ := hrel
        by_cases hjn : j < n2
        · have hjl : j < sl.length := by have := HL2.out; omega
          have hji : (j : Int) < n2 := by omega
          have hdj : decide (j < n2) = true := by simp; exact hjn
          obtain ⟨y, hy⟩ : ∃ y, sl[j]? = some y := ⟨_, List.getElem?_eq_getElem hjl⟩
          obtain ⟨b2, o2, rfl, hlt2, c1⟩ := HR2.out j (.string y) (by rw [List.getElem?_map, hy]; rfl)
          have HY := Lib.hid hy
          have HU := Lib.hid hun
          clear hy hun
          by_cases hxy : x = y
          · subst hxy
            have HC := Lib.hid (choose_hit HM.out HX.out (List.mem_of_getElem? HY.out))
            go_wp2_with fail
            go_ret2
            exact ⟨by rw [HC.out]; rfl, rfl⟩
          · have hs1 : (x.toList == y.toList) = false := str_ne hxy
            have HN := Lib.hid (HU.out.succ HY.out (fun e => hxy e.symm))
            go_wp2_with fail
            go_round
            case rel => exact ⟨j + 1, by omega, by go_num, HN.out⟩
            case measure => simp [intOf]; omega
        · obtain rfl : j = n2 := by omega
          have HN := Lib.hid (HM.out.succ HX.out (Unlike.out (HL2.out ▸ hun)))
          clear hun
          have hdj : decide (j < j) = false := by simp
          go_wp2_with fail
          go_round
          case rel => exact ⟨k + 1, by omega, by go_num, HN.out⟩
          case measure => simp [intOf]; omega
    · obtain rfl : k = n := by omega
      have HC := Lib.hid (choose_none (c := cl) (s := sl) (fun j y hy => hmiss j y (by have := HL.out; have := (List.getElem?_eq_some_iff.1 hy).1; omega) hy))
      clear hmiss
      have hdk : decide (k < k) = false := by simp
      go_wp2_with fail
      go_ret2
      exact ⟨by rw [HC.out]; rfl, rfl⟩
set_option maxRecDepth 20000 in
set_option maxHeartbeats 2000000 in
theorem RefFirst_any (w : World) (v : Value) (l : List ByteArray) (h : SL w v (l.map Value.string)) (hz : ∀ x ∈ l, x.size ≤ 1000000) :
    Calls Tryd.prog 44 #[v] w fun e w' => e = .returned (.string (frst l)) ∧ w = w' := by
  obtain ⟨A, n, c, rfl, hl, hR, hcc, hm⟩ := h
  rw [List.length_map] at hl
  cases l with
  | nil =>
    simp at hl
    subst hl
    go_enter Tryd.func44, Tryd.ntmps44
    go_wp2_with fail
    go_ret
    exact ⟨rfl, rfl⟩
  | cons x l =>
    obtain ⟨b, o, rfl, hlt, c0⟩ := hR 0 (.string x) rfl
    rw [Nat.add_zero] at c0
    simp only [List.length_cons] at hl
    have hxs := hz x (List.mem_cons_self ..)
    clear hz
    have hn0 : ((n : Int) == 0) = false := by rw [beq_eq_false_iff_ne]; omega
    have hn1 : (0 : Int) < n := by omega
    clear hl hR hm
    go_enter Tryd.func44, Tryd.ntmps44
    go_wp2_with fail
    go_ret
    exact ⟨rfl, rfl⟩
set_option maxRecDepth 20000 in
theorem place0 (w : World) (cb : Nat) : Calls Tryd.prog 40 #[.pointer (some ⟨cb, 0, none⟩), .int .i64 0] w fun e w' => e = .returned (.tuple #[.pointer (some ⟨cb, 0, none⟩), .string (whereL.getD 0 e0)]) ∧ w = w' := by
  have h0 : (Instr.index 52 (.agg #[.string ⟨#[32, 48]⟩, .string ⟨#[32, 49]⟩]) (.int .i64 0)).run Tryd.prog w = .ok (.string ⟨#[32, 48]⟩) w := Ei.run_index_part (P := Tryd.prog) w 52 9 2 #[.string ⟨#[32, 48]⟩, .string ⟨#[32, 49]⟩] 0 (.string ⟨#[32, 48]⟩) _ Tryd.underlying52 (by kernel_rfl) Tryd.underlying9 rfl (by decide) rfl
  go_enter Tryd.func40, Tryd.ntmps40
  go_wp2_with fail
  go_ret2
  exact ⟨rfl, rfl⟩
set_option maxRecDepth 20000 in
theorem place1 (w : World) (cb : Nat) : Calls Tryd.prog 40 #[.pointer (some ⟨cb, 0, none⟩), .int .i64 1] w fun e w' => e = .returned (.tuple #[.pointer (some ⟨cb, 1, none⟩), .string (whereL.getD 1 e0)]) ∧ w = w' := by
  have h0 : (Instr.index 52 (.agg #[.string ⟨#[32, 48]⟩, .string ⟨#[32, 49]⟩]) (.int .i64 1)).run Tryd.prog w = .ok (.string ⟨#[32, 49]⟩) w := Ei.run_index_part (P := Tryd.prog) w 52 9 2 #[.string ⟨#[32, 48]⟩, .string ⟨#[32, 49]⟩] 1 (.string ⟨#[32, 49]⟩) _ Tryd.underlying52 (by kernel_rfl) Tryd.underlying9 rfl (by decide) rfl
  go_enter Tryd.func40, Tryd.ntmps40
  go_wp2_with fail
  go_ret2
  exact ⟨rfl, rfl⟩
set_option maxRecDepth 20000 in
theorem place2 (w : World) (cb : Nat) : Calls Tryd.prog 40 #[.pointer (some ⟨cb, 0, none⟩), .int .i64 2] w fun e w' => e = .returned (.tuple #[.pointer (some ⟨cb, 2, none⟩), .string (whereL.getD 2 e0)]) ∧ w = w' := by
  have h0 : (Instr.index 52 (.agg #[.string ⟨#[32, 48]⟩, .string ⟨#[32, 49]⟩]) (.int .i64 0)).run Tryd.prog w = .ok (.string ⟨#[32, 48]⟩) w := Ei.run_index_part (P := Tryd.prog) w 52 9 2 #[.string ⟨#[32, 48]⟩, .string ⟨#[32, 49]⟩] 0 (.string ⟨#[32, 48]⟩) _ Tryd.underlying52 (by kernel_rfl) Tryd.underlying9 rfl (by decide) rfl
  go_enter Tryd.func40, Tryd.ntmps40
  go_wp2_with fail
  go_ret2
  exact ⟨rfl, rfl⟩
set_option maxRecDepth 20000 in
theorem place3 (w : World) (cb : Nat) : Calls Tryd.prog 40 #[.pointer (some ⟨cb, 0, none⟩), .int .i64 3] w fun e w' => e = .returned (.tuple #[.pointer (some ⟨cb, 3, none⟩), .string (whereL.getD 3 e0)]) ∧ w = w' := by
  have h0 : (Instr.index 52 (.agg #[.string ⟨#[32, 48]⟩, .string ⟨#[32, 49]⟩]) (.int .i64 1)).run Tryd.prog w = .ok (.string ⟨#[32, 49]⟩) w := Ei.run_index_part (P := Tryd.prog) w 52 9 2 #[.string ⟨#[32, 48]⟩, .string ⟨#[32, 49]⟩] 1 (.string ⟨#[32, 49]⟩) _ Tryd.underlying52 (by kernel_rfl) Tryd.underlying9 rfl (by decide) rfl
  go_enter Tryd.func40, Tryd.ntmps40
  go_wp2_with fail
  go_ret2
  exact ⟨rfl, rfl⟩
set_option maxRecDepth 20000 in
theorem place4 (w : World) (cb : Nat) : Calls Tryd.prog 40 #[.pointer (some ⟨cb, 0, none⟩), .int .i64 4] w fun e w' => e = .returned (.tuple #[.pointer (some ⟨cb, 4, none⟩), .string (whereL.getD 4 e0)]) ∧ w = w' := by
  have h0 : (Instr.index 52 (.agg #[.string ⟨#[32, 48]⟩, .string ⟨#[32, 49]⟩]) (.int .i64 0)).run Tryd.prog w = .ok (.string ⟨#[32, 48]⟩) w := Ei.run_index_part (P := Tryd.prog) w 52 9 2 #[.string ⟨#[32, 48]⟩, .string ⟨#[32, 49]⟩] 0 (.string ⟨#[32, 48]⟩) _ Tryd.underlying52 (by kernel_rfl) Tryd.underlying9 rfl (by decide) rfl
  go_enter Tryd.func40, Tryd.ntmps40
  go_wp2_with fail
  go_ret2
  exact ⟨rfl, rfl⟩
set_option maxRecDepth 20000 in
theorem place5 (w : World) (cb : Nat) : Calls Tryd.prog 40 #[.pointer (some ⟨cb, 0, none⟩), .int .i64 5] w fun e w' => e = .returned (.tuple #[.pointer (some ⟨cb, 5, none⟩), .string (whereL.getD 5 e0)]) ∧ w = w' := by
  have h0 : (Instr.index 52 (.agg #[.string ⟨#[32, 48]⟩, .string ⟨#[32, 49]⟩]) (.int .i64 1)).run Tryd.prog w = .ok (.string ⟨#[32, 49]⟩) w := Ei.run_index_part (P := Tryd.prog) w 52 9 2 #[.string ⟨#[32, 48]⟩, .string ⟨#[32, 49]⟩] 1 (.string ⟨#[32, 49]⟩) _ Tryd.underlying52 (by kernel_rfl) Tryd.underlying9 rfl (by decide) rfl
  go_enter Tryd.func40, Tryd.ntmps40
  go_wp2_with fail
  go_ret2
  exact ⟨rfl, rfl⟩
set_option maxRecDepth 20000 in
theorem place6 (w : World) (cb : Nat) : Calls Tryd.prog 40 #[.pointer (some ⟨cb, 0, none⟩), .int .i64 6] w fun e w' => e = .returned (.tuple #[.pointer (some ⟨cb, 6, none⟩), .string (whereL.getD 6 e0)]) ∧ w = w' := by
  have h0 : (Instr.index 52 (.agg #[.string ⟨#[32, 48]⟩, .string ⟨#[32, 49]⟩]) (.int .i64 0)).run Tryd.prog w = .ok (.string ⟨#[32, 48]⟩) w := Ei.run_index_part (P := Tryd.prog) w 52 9 2 #[.string ⟨#[32, 48]⟩, .string ⟨#[32, 49]⟩] 0 (.string ⟨#[32, 48]⟩) _ Tryd.underlying52 (by kernel_rfl) Tryd.underlying9 rfl (by decide) rfl
  go_enter Tryd.func40, Tryd.ntmps40
  go_wp2_with fail
  go_ret2
  exact ⟨rfl, rfl⟩
set_option maxRecDepth 20000 in
theorem place7 (w : World) (cb : Nat) : Calls Tryd.prog 40 #[.pointer (some ⟨cb, 0, none⟩), .int .i64 7] w fun e w' => e = .returned (.tuple #[.pointer (some ⟨cb, 7, none⟩), .string (whereL.getD 7 e0)]) ∧ w = w' := by
  have h0 : (Instr.index 52 (.agg #[.string ⟨#[32, 48]⟩, .string ⟨#[32, 49]⟩]) (.int .i64 1)).run Tryd.prog w = .ok (.string ⟨#[32, 49]⟩) w := Ei.run_index_part (P := Tryd.prog) w 52 9 2 #[.string ⟨#[32, 48]⟩, .string ⟨#[32, 49]⟩] 1 (.string ⟨#[32, 49]⟩) _ Tryd.underlying52 (by kernel_rfl) Tryd.underlying9 rfl (by decide) rfl
  go_enter Tryd.func40, Tryd.ntmps40
  go_wp2_with fail
  go_ret2
  exact ⟨rfl, rfl⟩
theorem place_any (w : World) (cb i : Nat) (hi : i < 8) : Calls Tryd.prog 40 #[.pointer (some ⟨cb, 0, none⟩), .int .i64 (i : Int)] w fun e w' => e = .returned (.tuple #[.pointer (some ⟨cb, i, none⟩), .string (whereL.getD i e0)]) ∧ w = w' := by
  match i, hi with
  | 0, _ => exact place0 w cb
  | 1, _ => exact place1 w cb
  | 2, _ => exact place2 w cb
  | 3, _ => exact place3 w cb
  | 4, _ => exact place4 w cb
  | 5, _ => exact place5 w cb
  | 6, _ => exact place6 w cb
  | 7, _ => exact place7 w cb
  | i + 8, h => exact absurd h (by omega)
end Go.Proofs.YtjfikbnfabdkoaaDoor.Of
