/- Names: of the program, and of the reference. -/
import Derived.Test.YtjfikbnfabdkoaaDoorWireIn3
set_option linter.unusedVariables false
set_option linter.unusedSimpArgs false
namespace Go.Proofs.YtjfikbnfabdkoaaDoor.Wi
open Go.RowKit Go.Proofs.YtjfikbnfabdkoaaDoor.Ow
def okB (x : UInt8) : Bool := decide (33 ≤ x.toNat) && decide (x.toNat ≤ 126) && decide (x.toNat ≠ 44)
def nameB (l : List UInt8) : Bool := l.all okB && decide (0 < l.length) && decide (l.length ≤ 64)
theorem all_take_succ (l : List UInt8) (k : Nat) (x : UInt8) (hx : l[k]? = some x) (h : (l.take k).all okB = true) (ho : okB x = true) : (l.take (k + 1)).all okB = true := by
  rw [List.take_add_one, hx, List.all_append, h]; simp [ho]
theorem nameB_bad (l : List UInt8) (k : Nat) (x : UInt8) (hx : l[k]? = some x) (ho : okB x = false) : nameB l = false := by
  have : l.all okB = false := by
    rw [Bool.eq_false_iff]
    intro h
    have := List.all_eq_true.1 h x (List.mem_of_getElem? hx)
    rw [ho] at this; cases this
  unfold nameB; rw [this]; rfl
theorem get_list (s : ByteArray) (k : Nat) (h : k < s.size) : s.data.toList[k]? = some s[k] := by rw [List.getElem?_eq_getElem (by rw [Array.length_toList]; exact h)]; rfl
set_option maxRecDepth 20000 in
set_option maxHeartbeats 1000000 in
theorem Name_any (w : World) (s : ByteArray) (hs : s.size ≤ 9223372036854775807) :
    Calls Tryd.prog 86 #[.string s] w fun e w' => e = .returned (.bool (nameB s.data.toList)) ∧ w = w' := by
  have HL := Lib.hid (show s.data.toList.length = s.size from Array.length_toList)
  go_enter Tryd.func86, Tryd.ntmps86
  go_wp2
  go_loop [6] (fun i => ∃ k : Nat, k ≤ s.size ∧ i = .int .i64 k ∧ (s.data.toList.take k).all okB = true) (fun i => s.size - (intOf i).toNat)
  case atStart => exact ⟨0, Nat.zero_le _, rfl, rfl⟩
  case round =>
    obtain ⟨k, hk, rfl, hall⟩ := hrel
    have HAll := Lib.hid hall
    clear hall
    by_cases hlt : k < s.size
    · have hik : (k : Int) < s.size := by omega
      have HX := Lib.hid (get_list s k hlt)
      by_cases h1 : s[k].toNat < 33
      · have HV := Lib.hid (nameB_bad _ _ _ HX.out (show okB s[k] = false by unfold okB; simp; omega))
        have hd : decide ((s[k].toNat : Int) < 33) = true := by simp; omega
        clear h1
        go_wp2
        go_ret
        exact ⟨by rw [HV.out]; rfl, rfl⟩
      · have hd1 : decide ((s[k].toNat : Int) < 33) = false := by simp; omega
        by_cases h2 : 126 < s[k].toNat
        · have HV := Lib.hid (nameB_bad _ _ _ HX.out (show okB s[k] = false by unfold okB; simp; omega))
          have hd : decide ((126 : Int) < (s[k].toNat : Int)) = true := by simp; omega
          clear h1 h2
          go_wp2
          go_ret
          exact ⟨by rw [HV.out]; rfl, rfl⟩
        · have hd2 : decide ((126 : Int) < (s[k].toNat : Int)) = false := by rw [decide_eq_false_iff_not]; omega
          by_cases h3 : s[k].toNat = 44
          · have HV := Lib.hid (nameB_bad _ _ _ HX.out (show okB s[k] = false by unfold okB; simp [h3]))
            have hd3 : ((s[k].toNat : Int) == 44) = true := by simp; omega
            clear h1 h2 h3
            go_wp2
            go_ret
            exact ⟨by rw [HV.out]; rfl, rfl⟩
          · have HAll' := Lib.hid (all_take_succ _ _ _ HX.out HAll.out (show okB s[k] = true by unfold okB; simp; omega))
            have hd3 : ((s[k].toNat : Int) == 44) = false := by simp; omega
            clear h1 h2 h3
            go_wp2
            go_round
            case rel =>
              first
                | exact ⟨k + 1, by omega, by go_num, HAll'.out⟩
                | ((repeat apply Exists.intro); refine ⟨?_, rfl⟩; exact ⟨k + 1, by omega, by go_num, HAll'.out⟩)
            case measure => simp [intOf]; omega
    · obtain rfl : k = s.size := by omega
      have HA := Lib.hid (show s.data.toList.all okB = true by have := HAll.out; rwa [List.take_of_length_le (by rw [HL.out]; exact Nat.le_refl _)] at this)
      clear HAll
      by_cases h0 : s.size = 0
      · have hl := toList_empty h0
        have hl2 : s.toList.isEmpty = true := by rw [hl]; rfl
        have HV := Lib.hid (show nameB s.data.toList = false by unfold nameB; rw [HL.out, h0]; simp)
        clear h0
        go_wp2
        go_ret
        exact ⟨by rw [HV.out]; rfl, rfl⟩
      · have hl2 := toList_ne h0
        by_cases h64 : s.size ≤ 64
        · have HV := Lib.hid (show nameB s.data.toList = true by unfold nameB; rw [HL.out, HA.out, decide_eq_true (show 0 < s.size by omega), decide_eq_true h64]; rfl)
          have hd : decide ((s.size : Int) ≤ 64) = true := by simp; omega
          clear h0
          go_wp2
          go_ret
          exact ⟨by rw [HV.out]; rfl, rfl⟩
        · have HV := Lib.hid (show nameB s.data.toList = false by unfold nameB; rw [HL.out, decide_eq_false h64]; simp)
          have hd : decide ((s.size : Int) ≤ 64) = false := by simp; omega
          clear h0
          go_wp2
          go_ret
          exact ⟨by rw [HV.out]; rfl, rfl⟩
set_option maxRecDepth 20000 in
set_option maxHeartbeats 1000000 in
theorem RefName_any (w : World) (s : ByteArray) (hs : s.size ≤ 9223372036854775807) :
    Calls Tryd.prog 49 #[.string s] w fun e w' => e = .returned (.bool (nameB s.data.toList)) ∧ w = w' := by
  have HL := Lib.hid (show s.data.toList.length = s.size from Array.length_toList)
  go_enter Tryd.func49, Tryd.ntmps49
  go_wp2
  go_loop [3] (fun i => ∃ k : Nat, k ≤ s.size ∧ i = .int .i64 k ∧ (s.data.toList.take k).all okB = true) (fun i => s.size - (intOf i).toNat)
  case atStart => exact ⟨0, Nat.zero_le _, rfl, rfl⟩
  case round =>
    obtain ⟨k, hk, rfl, hall⟩ := hrel
    have HAll := Lib.hid hall
    clear hall
    by_cases hlt : k < s.size
    · have hik : (k : Int) < s.size := by omega
      have HX := Lib.hid (get_list s k hlt)
      by_cases h1 : s[k].toNat < 33
      · have HV := Lib.hid (nameB_bad _ _ _ HX.out (show okB s[k] = false by unfold okB; simp; omega))
        have hd : decide ((s[k].toNat : Int) < 33) = true := by simp; omega
        clear h1
        go_wp2
        go_ret
        exact ⟨by rw [HV.out]; rfl, rfl⟩
      · have hd1 : decide ((s[k].toNat : Int) < 33) = false := by simp; omega
        by_cases h2 : 126 < s[k].toNat
        · have HV := Lib.hid (nameB_bad _ _ _ HX.out (show okB s[k] = false by unfold okB; simp; omega))
          have hd : decide ((126 : Int) < (s[k].toNat : Int)) = true := by simp; omega
          clear h1 h2
          go_wp2
          go_ret
          exact ⟨by rw [HV.out]; rfl, rfl⟩
        · have hd2 : decide ((126 : Int) < (s[k].toNat : Int)) = false := by rw [decide_eq_false_iff_not]; omega
          by_cases h3 : s[k].toNat = 44
          · have HV := Lib.hid (nameB_bad _ _ _ HX.out (show okB s[k] = false by unfold okB; simp [h3]))
            have hd3 : ((s[k].toNat : Int) == 44) = true := by simp; omega
            clear h1 h2 h3
            go_wp2
            go_ret
            exact ⟨by rw [HV.out]; rfl, rfl⟩
          · have HAll' := Lib.hid (all_take_succ _ _ _ HX.out HAll.out (show okB s[k] = true by unfold okB; simp; omega))
            have hd3 : ((s[k].toNat : Int) == 44) = false := by simp; omega
            clear h1 h2 h3
            go_wp2
            go_round
            case rel =>
              first
                | exact ⟨k + 1, by omega, by go_num, HAll'.out⟩
                | ((repeat apply Exists.intro); refine ⟨?_, rfl⟩; exact ⟨k + 1, by omega, by go_num, HAll'.out⟩)
            case measure => simp [intOf]; omega
    · obtain rfl : k = s.size := by omega
      have HA := Lib.hid (show s.data.toList.all okB = true by have := HAll.out; rwa [List.take_of_length_le (by rw [HL.out]; exact Nat.le_refl _)] at this)
      clear HAll
      by_cases h0 : s.size = 0
      · have HV := Lib.hid (show nameB s.data.toList = false by unfold nameB; rw [HL.out, h0]; simp)
        have hd : decide ((0 : Int) < s.size) = false := by rw [decide_eq_false_iff_not]; omega
        have hd2 : ¬ 0 < s.size := by omega
        clear h0
        go_wp2
        go_ret
        exact ⟨by rw [HV.out]; rfl, rfl⟩
      · have hd0 : 0 < s.size := by omega
        by_cases h64 : s.size ≤ 64
        · have HV := Lib.hid (show nameB s.data.toList = true by unfold nameB; rw [HL.out, HA.out, decide_eq_true (show 0 < s.size by omega), decide_eq_true h64]; rfl)
          have hd : decide ((s.size : Int) < 65) = true := by simp; omega
          clear h0
          go_wp2
          go_ret
          exact ⟨by rw [HV.out]; rfl, rfl⟩
        · have HV := Lib.hid (show nameB s.data.toList = false by unfold nameB; rw [HL.out, decide_eq_false h64]; simp)
          have hd : decide ((s.size : Int) < 65) = false := by rw [decide_eq_false_iff_not]; omega
          clear h0
          go_wp2
          go_ret
          exact ⟨by rw [HV.out]; rfl, rfl⟩
end Go.Proofs.YtjfikbnfabdkoaaDoor.Wi
