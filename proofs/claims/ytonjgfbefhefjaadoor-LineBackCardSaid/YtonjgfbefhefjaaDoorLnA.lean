/- Line: bytes that may be seen; names; digits. -/
import Derived.Test.YtonjgfbefhefjaaDoorLnSpec
import Derived.Test.YtonjgfbefhefjaaDoorChecked
import Derived.Test.YtonjgfbefhefjaaDoorGenA
import Derived.WalkKit
import Derived.Lib.SliceRun
import Derived.Deep.Cut
set_option linter.unusedVariables false
set_option linter.unusedSimpArgs false
namespace Go.Proofs.YtonjgfbefhefjaaDoor.Ln
open Go Go.RowKit Go.Proofs.YtonjgfbefhefjaaDoor.Ow
def strB (t : List UInt8) : ByteArray := ⟨t.toArray⟩
theorem strB_toList (t : List UInt8) : (strB t).toList = t := by rw [ByteArray.toList_eq]; rfl
theorem strB_data (s : ByteArray) : strB s.data.toList = s := rfl
theorem strB_size (t : List UInt8) : (strB t).size = t.length := by show t.toArray.size = _; rw [List.size_toArray]
theorem get_list (s : ByteArray) (k : Nat) (h : k < s.size) : s.data.toList[k]? = some s[k] := by rw [List.getElem?_eq_getElem (by rw [Array.length_toList]; exact h)]; rfl
theorem beq_lit {S : ByteArray} {l : List UInt8} (h : S.data.toList = l) : (S.toList == l) = true := by rw [beq_iff_eq, ByteArray.toList_eq]; exact h
theorem bne_lit {S : ByteArray} {l : List UInt8} (h : S.data.toList ≠ l) : (S.toList == l) = false := by rw [beq_eq_false_iff_ne, ByteArray.toList_eq]; exact h
/-- the first k are good -/
def upTo (g : UInt8 → Bool) (l : List UInt8) (k : Nat) : Prop := ∀ j x, j < k → l[j]? = some x → g x = true
theorem upTo.next {g : UInt8 → Bool} {l : List UInt8} {k : Nat} {x : UInt8} (h : upTo g l k) (hx : l[k]? = some x) (ho : g x = true) : upTo g l (k + 1) := fun j y hj hy => by
  by_cases e : j = k
  · subst e; rw [hx] at hy; cases hy; exact ho
  · exact h j y (by omega) hy
theorem upTo.all {g : UInt8 → Bool} {l : List UInt8} {k : Nat} (h : upTo g l k) (hk : k = l.length) : l.all g = true := by
  rw [List.all_eq_true]
  intro x hx
  obtain ⟨j, hj⟩ := List.getElem?_of_mem hx
  exact h j x (by have := (List.getElem?_eq_some_iff.1 hj).1; omega) hj
theorem not_all {g : UInt8 → Bool} {l : List UInt8} {k : Nat} {x : UInt8} (hx : l[k]? = some x) (ho : g x = false) : l.all g = false := by
  rw [List.all_eq_false]
  exact ⟨x, List.mem_of_getElem? hx, by simp [ho]⟩
def vb (b : UInt8) : Bool := decide (33 ≤ b.toNat) && decide (b.toNat ≤ 126)
theorem vis_vb (w : List UInt8) : vis w = w.all vb := rfl
def okB (x : List UInt8) : Bool := decide (okN x)
theorem okB_no {x : List UInt8} (h : vis x = false) : okB x = false := by unfold okB; rw [decide_eq_false_iff_not]; intro e; rw [e.1] at h; cases h
theorem okB_of {x : List UInt8} (h : vis x = true) : okB x = (decide (x.length ≤ 64) && !(x == [45])) := by
  unfold okB okN
  rw [Bool.eq_iff_iff]
  simp [h]
set_option maxRecDepth 20000 in
set_option maxHeartbeats 2000000 in
theorem visible_any (S : ByteArray) (w : World) (hs : S.size ≤ 1000000) :
    Calls Tryd.prog 28 #[.string S] w fun e w' => e = .returned (.bool (okB S.data.toList)) ∧ w = w' := by
  have HL := Lib.hid (show S.data.toList.length = S.size from Array.length_toList)
  go_enter Tryd.func28, Tryd.ntmps28
  go_wp2
  go_loop [6] (fun i => ∃ k : Nat, k ≤ S.size ∧ i = .int .i64 k ∧ upTo vb S.data.toList k) (fun i => S.size - (intOf i).toNat)
  case atStart => exact ⟨0, Nat.zero_le _, rfl, fun j x hj => by omega⟩
  case round =>
    obtain ⟨k, hk, rfl, hup⟩ := hrel
    have HU := Lib.hid hup
    clear hup
    by_cases hlt : k < S.size
    · have hik : (k : Int) < S.size := by omega
      have hdl : decide ((k : Int) < (S.size : Int)) = true := by rw [decide_eq_true_iff]; omega
      have HX := Lib.hid (get_list S k hlt)
      have hcl : S[k].toNat < 33 ∨ 126 < S[k].toNat ∨ (33 ≤ S[k].toNat ∧ S[k].toNat ≤ 126) := by omega
      rcases hcl with hc | hc | hc
      · have h1 : decide ((S[k].toNat : Int) < 33) = true := by rw [decide_eq_true_iff]; omega
        have HV := Lib.hid (okB_no (not_all (g := vb) HX.out (by unfold vb; simp; omega)))
        clear hc
        go_wp2
        go_ret
        exact ⟨by rw [HV.out]; rfl, rfl⟩
      · have h1 : decide ((S[k].toNat : Int) < 33) = false := by rw [decide_eq_false_iff_not]; omega
        have h2 : decide (126 < (S[k].toNat : Int)) = true := by rw [decide_eq_true_iff]; omega
        have HV := Lib.hid (okB_no (not_all (g := vb) HX.out (by unfold vb; simp; omega)))
        clear hc
        go_wp2
        go_ret
        exact ⟨by rw [HV.out]; rfl, rfl⟩
      · have h1 : decide ((S[k].toNat : Int) < 33) = false := by rw [decide_eq_false_iff_not]; omega
        have h2 : decide (126 < (S[k].toNat : Int)) = false := by rw [decide_eq_false_iff_not]; omega
        have HN := Lib.hid (HU.out.next HX.out (show vb S[k] = true by unfold vb; simp; omega))
        clear hc
        go_wp2
        go_round
        case rel => exact ⟨k + 1, by omega, by go_num, HN.out⟩
        case measure => simp [intOf]; omega
    · obtain rfl : k = S.size := by omega
      have HV := Lib.hid (okB_of (x := S.data.toList) (HU.out.all HL.out.symm))
      have HLL := HL.out
      rw [HLL] at HV
      clear HLL
      by_cases h64 : S.size ≤ 64
      · have h1 : decide ((S.size : Int) ≤ 64) = true := by rw [decide_eq_true_iff]; omega
        have HD := Lib.hid (show decide (S.size ≤ 64) = true from decide_eq_true h64)
        go_wp2
        go_ret
        exact ⟨by rw [HV.out, HD.out, ByteArray.toList_eq]; rfl, rfl⟩
      · have h1 : decide ((S.size : Int) ≤ 64) = false := by rw [decide_eq_false_iff_not]; omega
        have HD := Lib.hid (show decide (S.size ≤ 64) = false from decide_eq_false h64)
        go_wp2
        go_ret
        exact ⟨by rw [HV.out, HD.out]; rfl, rfl⟩
/-- may a word be a name's, as it is written -/
def mayB (l : List UInt8) : Bool := vis l && decide (1 ≤ l.length) && decide (l.length ≤ 64)
theorem mayB_no {x : List UInt8} (h : vis x = false) : mayB x = false := by unfold mayB; rw [h]; rfl
theorem mayB_of {x : List UInt8} (h : vis x = true) : mayB x = (decide (1 ≤ x.length) && decide (x.length ≤ 64)) := by unfold mayB; rw [h]; rfl
set_option maxRecDepth 20000 in
set_option maxHeartbeats 2000000 in
theorem may_any (S : ByteArray) (w : World) (hs : S.size ≤ 1000000) :
    Calls Tryd.prog 25 #[.string S] w fun e w' => e = .returned (.bool (mayB S.data.toList)) ∧ w = w' := by
  have HL := Lib.hid (show S.data.toList.length = S.size from Array.length_toList)
  go_enter Tryd.func25, Tryd.ntmps25
  go_wp2
  go_loop [3] (fun i => ∃ k : Nat, k ≤ S.size ∧ i = .int .i64 k ∧ upTo vb S.data.toList k) (fun i => S.size - (intOf i).toNat)
  case atStart => exact ⟨0, Nat.zero_le _, rfl, fun j x hj => by omega⟩
  case round =>
    obtain ⟨k, hk, rfl, hup⟩ := hrel
    have HU := Lib.hid hup
    clear hup
    by_cases hlt : k < S.size
    · have hik : (k : Int) < S.size := by omega
      have hdl : decide ((k : Int) < (S.size : Int)) = true := by rw [decide_eq_true_iff]; omega
      have HX := Lib.hid (get_list S k hlt)
      have hcl : S[k].toNat < 33 ∨ 126 < S[k].toNat ∨ (33 ≤ S[k].toNat ∧ S[k].toNat ≤ 126) := by omega
      rcases hcl with hc | hc | hc
      · have h1 : decide ((S[k].toNat : Int) < 33) = true := by rw [decide_eq_true_iff]; omega
        have HV := Lib.hid (mayB_no (not_all (g := vb) HX.out (by unfold vb; simp; omega)))
        clear hc
        go_wp2
        go_ret
        exact ⟨by rw [HV.out]; rfl, rfl⟩
      · have h1 : decide ((S[k].toNat : Int) < 33) = false := by rw [decide_eq_false_iff_not]; omega
        have h2 : decide (126 < (S[k].toNat : Int)) = true := by rw [decide_eq_true_iff]; omega
        have HV := Lib.hid (mayB_no (not_all (g := vb) HX.out (by unfold vb; simp; omega)))
        clear hc
        go_wp2
        go_ret
        exact ⟨by rw [HV.out]; rfl, rfl⟩
      · have h1 : decide ((S[k].toNat : Int) < 33) = false := by rw [decide_eq_false_iff_not]; omega
        have h2 : decide (126 < (S[k].toNat : Int)) = false := by rw [decide_eq_false_iff_not]; omega
        have HN := Lib.hid (HU.out.next HX.out (show vb S[k] = true by unfold vb; simp; omega))
        clear hc
        go_wp2
        go_round
        case rel => exact ⟨k + 1, by omega, by go_num, HN.out⟩
        case measure => simp [intOf]; omega
    · obtain rfl : k = S.size := by omega
      have HV := Lib.hid (mayB_of (x := S.data.toList) (HU.out.all HL.out.symm))
      have HLL := HL.out
      rw [HLL] at HV
      clear HLL
      by_cases h01 : 1 ≤ S.size
      · have h0 : decide (1 ≤ (S.size : Int)) = true := by rw [decide_eq_true_iff]; omega
        have HD0 := Lib.hid (show decide (1 ≤ S.size) = true from decide_eq_true h01)
        by_cases h64 : S.size ≤ 64
        · have h1 : decide ((S.size : Int) ≤ 64) = true := by rw [decide_eq_true_iff]; omega
          have HD := Lib.hid (show decide (S.size ≤ 64) = true from decide_eq_true h64)
          go_wp2
          go_ret
          exact ⟨by rw [HV.out, HD0.out, HD.out]; rfl, rfl⟩
        · have h1 : decide ((S.size : Int) ≤ 64) = false := by rw [decide_eq_false_iff_not]; omega
          have HD := Lib.hid (show decide (S.size ≤ 64) = false from decide_eq_false h64)
          go_wp2
          go_ret
          exact ⟨by rw [HV.out, HD0.out, HD.out]; rfl, rfl⟩
      · have h0 : decide (1 ≤ (S.size : Int)) = false := by rw [decide_eq_false_iff_not]; omega
        have HD0 := Lib.hid (show decide (1 ≤ S.size) = false from decide_eq_false h01)
        go_wp2
        go_ret
        exact ⟨by rw [HV.out, HD0.out]; rfl, rfl⟩
/-- a word's name, and whether it is one: as the program says it -/
def nameV (l : List UInt8) : List UInt8 × Bool := if l = [45] then ([], true) else (l, !(l == []) && okB l)
theorem nameV_nm (l : List UInt8) : nmL l = if (nameV l).2 then some (nameV l).1 else none := by
  unfold nmL nameV
  by_cases h : l = [45]
  · rw [if_pos h, if_pos h]; rfl
  · rw [if_neg h, if_neg h]
    by_cases h2 : l ≠ [] ∧ l.length ≤ 64 ∧ vis l = true
    · rw [if_pos h2]
      have : (!(l == []) && okB l) = true := by unfold okB okN; simp [h2.1, h2.2.1, h2.2.2, h]
      rw [if_pos this]
    · rw [if_neg h2]
      have : ¬ (!(l == []) && okB l) = true := by
        intro e
        rw [Bool.and_eq_true] at e
        obtain ⟨a, b⟩ := e
        unfold okB at b
        obtain ⟨b1, b2, _⟩ := of_decide_eq_true b
        exact h2 ⟨by simpa using a, b2, b1⟩
      rw [if_neg this]
set_option maxHeartbeats 2000000 in
theorem name_any (S : ByteArray) (w : World) (hs : S.size ≤ 1000000) :
    Calls Tryd.prog 39 #[.string S] w fun e w' => e = .returned (.tuple #[.string (strB (nameV S.data.toList).1), .bool (nameV S.data.toList).2]) ∧ w = w' := by
  by_cases h : S.data.toList = [45]
  · have hn := Lib.hid (show nameV S.data.toList = ([], true) by unfold nameV; rw [if_pos h])
    have he := beq_lit h
    clear h
    go_enter Tryd.func39, Tryd.ntmps39
    go_wp2
    go_ret2
    exact ⟨by rw [hn.out]; rfl, rfl⟩
  · have hn := Lib.hid (show nameV S.data.toList = (S.data.toList, !(S.data.toList == []) && okB S.data.toList) by unfold nameV; rw [if_neg h])
    have he := bne_lit h
    clear h
    by_cases h0 : S.data.toList = []
    · have he0 := beq_lit h0
      have H0 := Lib.hid (show (S.data.toList == []) = true by rw [beq_iff_eq]; exact h0)
      clear h0
      go_enter Tryd.func39, Tryd.ntmps39
      go_wp2
      go_ret2
      exact ⟨by rw [hn.out, H0.out]; rfl, rfl⟩
    · have he0 := bne_lit h0
      have H0 := Lib.hid (show (S.data.toList == []) = false by rw [beq_eq_false_iff_ne]; exact h0)
      clear h0
      go_enter Tryd.func39, Tryd.ntmps39
      go_wp2_with (go_at_call 28; refine (visible_any _ _ hs).mono ?_; rintro e w' ⟨rfl, rfl⟩)
      go_ret2
      exact ⟨by rw [hn.out, H0.out]; rfl, rfl⟩
/-- a letter's value, -1 -/
def hxI (b : UInt8) : Int := match hx b with
  | some n => n
  | none => -1
set_option maxHeartbeats 2000000 in
theorem digit_any (x : UInt8) (w : World) :
    Calls Tryd.prog 40 #[.int .u8 x.toNat] w fun e w' => e = .returned (.int .i64 (hxI x)) ∧ w = w' := by
  have hx0 := x.toNat_lt
  have hcl : x.toNat < 48 ∨ (48 ≤ x.toNat ∧ x.toNat ≤ 57) ∨ (57 < x.toNat ∧ x.toNat < 97) ∨ (97 ≤ x.toNat ∧ x.toNat ≤ 102) ∨ 102 < x.toNat := by omega
  rcases hcl with hc | hc | hc | hc | hc
  · have HV := Lib.hid (show hxI x = -1 by unfold hxI hx; rw [if_neg (by omega), if_neg (by omega)])
    have h1 : decide (48 ≤ (x.toNat : Int)) = false := by rw [decide_eq_false_iff_not]; omega
    have h3 : decide (97 ≤ (x.toNat : Int)) = false := by rw [decide_eq_false_iff_not]; omega
    clear hc
    go_enter Tryd.func40, Tryd.ntmps40
    go_wp2
    go_ret
    exact ⟨by rw [HV.out]; rfl, rfl⟩
  · have HV := Lib.hid (show hxI x = (x.toNat : Int) - 48 by unfold hxI hx; rw [if_pos hc]; simp only; omega)
    have h1 : decide (48 ≤ (x.toNat : Int)) = true := by rw [decide_eq_true_iff]; omega
    have h2 : decide ((x.toNat : Int) ≤ 57) = true := by rw [decide_eq_true_iff]; omega
    have hb : (0 : Int) ≤ (x.toNat : Int) - 48 := by omega
    go_enter Tryd.func40, Tryd.ntmps40
    go_wp2
    go_ret
    exact ⟨by rw [HV.out]; rfl, rfl⟩
  · have HV := Lib.hid (show hxI x = -1 by unfold hxI hx; rw [if_neg (by omega), if_neg (by omega)])
    have h1 : decide (48 ≤ (x.toNat : Int)) = true := by rw [decide_eq_true_iff]; omega
    have h2 : decide ((x.toNat : Int) ≤ 57) = false := by rw [decide_eq_false_iff_not]; omega
    have h3 : decide (97 ≤ (x.toNat : Int)) = false := by rw [decide_eq_false_iff_not]; omega
    clear hc
    go_enter Tryd.func40, Tryd.ntmps40
    go_wp2
    go_ret
    exact ⟨by rw [HV.out]; rfl, rfl⟩
  · have HV := Lib.hid (show hxI x = (x.toNat : Int) - 87 by unfold hxI hx; rw [if_neg (by omega), if_pos hc]; simp only; omega)
    have h1 : decide (48 ≤ (x.toNat : Int)) = true := by rw [decide_eq_true_iff]; omega
    have h2 : decide ((x.toNat : Int) ≤ 57) = false := by rw [decide_eq_false_iff_not]; omega
    have h3 : decide (97 ≤ (x.toNat : Int)) = true := by rw [decide_eq_true_iff]; omega
    have h4 : decide ((x.toNat : Int) ≤ 102) = true := by rw [decide_eq_true_iff]; omega
    have hb : (0 : Int) ≤ (x.toNat : Int) - 87 := by omega
    go_enter Tryd.func40, Tryd.ntmps40
    go_wp2
    go_ret
    exact ⟨by rw [HV.out]; rfl, rfl⟩
  · have HV := Lib.hid (show hxI x = -1 by unfold hxI hx; rw [if_neg (by omega), if_neg (by omega)])
    have h1 : decide (48 ≤ (x.toNat : Int)) = true := by rw [decide_eq_true_iff]; omega
    have h2 : decide ((x.toNat : Int) ≤ 57) = false := by rw [decide_eq_false_iff_not]; omega
    have h3 : decide (97 ≤ (x.toNat : Int)) = true := by rw [decide_eq_true_iff]; omega
    have h4 : decide ((x.toNat : Int) ≤ 102) = false := by rw [decide_eq_false_iff_not]; omega
    clear hc
    go_enter Tryd.func40, Tryd.ntmps40
    go_wp2
    go_ret
    exact ⟨by rw [HV.out]; rfl, rfl⟩
end Go.Proofs.YtonjgfbefhefjaaDoor.Ln
