/- Two commands that read alike are the same. -/
import Derived.Test.YtonjgfbefhefjaaDoorLnK2
import Derived.IntWalk
set_option linter.unusedVariables false
set_option linter.unusedSimpArgs false
namespace Go.Proofs.YtonjgfbefhefjaaDoor.Ln
open Go Go.RowKit Go.Proofs.YtonjgfbefhefjaaDoor.Ow
def SRel (Y : World) (n : Nat) (i : Value) (W : World) : Prop := ∃ j : Nat, j ≤ n ∧ i = .int .i64 j ∧ Below Y.heap.size Y W
set_option maxRecDepth 20000 in
set_option maxHeartbeats 4000000 in
theorem Same_true (w : World) (c : Cm) (A1 A2 B1 B2 : Option Addr) (k1 k2 l1 l2 : Nat) (h1 : CVal w c A1 k1 A2 k2) (h2 : CVal w c B1 l1 B2 l2) :
    Calls Tryd.prog 12 #[.agg #[.string (strB c.word), .slice A1 c.names.length k1, .slice A2 c.nums.length k2, .string (strB c.text)], .agg #[.string (strB c.word), .slice B1 c.names.length l1, .slice B2 c.nums.length l2, .string (strB c.text)]] w fun e w' => e = .returned (.bool true) ∧ Below w.heap.size w w' := by
  have HV1 := Lib.hid h1
  have HV2 := Lib.hid h2
  have hnb := h1.nb
  have hkb := h1.kb
  have sw : ((strB c.word).toList == (strB c.word).toList) = true := beq_self_eq_true _
  have st : ((strB c.text).toList == (strB c.text).toList) = true := beq_self_eq_true _
  clear h1 h2
  have HBY := Lib.hid (show Below w.heap.size w ((w.alloc (.cells #[.string (strB c.word), .slice A1 c.names.length k1, .slice A2 c.nums.length k2, .string (strB c.text)] 27)).alloc (.cells #[.string (strB c.word), .slice B1 c.names.length l1, .slice B2 c.nums.length l2, .string (strB c.text)] 32)) from ((Below.refl _ _).alloc (Nat.le_refl _) _).alloc (by simp) _)
  have HK1 := Lib.hid (show Rg.Blk ((w.alloc (.cells #[.string (strB c.word), .slice A1 c.names.length k1, .slice A2 c.nums.length k2, .string (strB c.text)] 27)).alloc (.cells #[.string (strB c.word), .slice B1 c.names.length l1, .slice B2 c.nums.length l2, .string (strB c.text)] 32)) w.heap.size 27 #[.string (strB c.word), .slice A1 c.names.length k1, .slice A2 c.nums.length k2, .string (strB c.text)] from (Rg.Blk.new w _ _).alloc _)
  have HK2 := Lib.hid (show Rg.Blk ((w.alloc (.cells #[.string (strB c.word), .slice A1 c.names.length k1, .slice A2 c.nums.length k2, .string (strB c.text)] 27)).alloc (.cells #[.string (strB c.word), .slice B1 c.names.length l1, .slice B2 c.nums.length l2, .string (strB c.text)] 32)) (w.heap.size + 1) 32 #[.string (strB c.word), .slice B1 c.names.length l1, .slice B2 c.nums.length l2, .string (strB c.text)] from Rg.Blk.newAt (by simp) _ _)
  go_enter Tryd.func12, Tryd.ntmps12
  go_upto_region 1 with (fail)
  generalize ((w.alloc (.cells #[.string (strB c.word), .slice A1 c.names.length k1, .slice A2 c.nums.length k2, .string (strB c.text)] 27)).alloc (.cells #[.string (strB c.word), .slice B1 c.names.length l1, .slice B2 c.nums.length l2, .string (strB c.text)] 32)) = Y at *
  have x0 := HK1.out.cell 0 (v := .string (strB c.word)) rfl; have x1 := HK1.out.cell 1 (v := .slice A1 c.names.length k1) rfl; have x2 := HK1.out.cell 2 (v := .slice A2 c.nums.length k2) rfl; have x3 := HK1.out.cell 3 (v := .string (strB c.text)) rfl
  have y0 := HK2.out.cell 0 (v := .string (strB c.word)) rfl; have y1 := HK2.out.cell 1 (v := .slice B1 c.names.length l1) rfl; have y2 := HK2.out.cell 2 (v := .slice B2 c.nums.length l2) rfl; have y3 := HK2.out.cell 3 (v := .string (strB c.text)) rfl
  go_wp2_with fail
  go_loopw [40] (fun i W => SRel Y c.names.length i W) (fun i _ => c.names.length + 1 - (intOf i).toNat)
  case atStart => exact ⟨0, Nat.zero_le _, rfl, Below.refl _ _⟩
  case round =>
    obtain ⟨j, hj, rfl, hb⟩ := hrel
    have HB := Lib.hid hb
    have HK1' := Lib.hid (HK1.out.below hb HK1.out.lt)
    have HK2' := Lib.hid (HK2.out.below hb HK2.out.lt)
    have x1 := HK1'.out.cell 1 (v := .slice A1 c.names.length k1) rfl
    have y1 := HK2'.out.cell 1 (v := .slice B1 c.names.length l1) rfl
    have HBW := Lib.hid (HBY.out.trans (hb.mono HBY.out.size))
    clear hb
    by_cases hlt : j < c.names.length
    · have hd : decide (j < c.names.length) = true := decide_eq_true hlt
      have hij : (j : Int) < (c.names.length : Int) := by omega
      have hij0 : (0 : Int) ≤ (j : Int) := by omega
      have hjt : ((j : Int)).toNat = j := by omega
      obtain ⟨x, hx⟩ : ∃ x, c.names[j]? = some x := ⟨_, List.getElem?_eq_getElem hlt⟩
      obtain ⟨a1, o1, hA, ha, hcl⟩ := HV1.out.n.at_ (j := j) (by rw [List.length_map]; exact hlt)
      obtain ⟨a2, o2, hA2, ha2, hcl2⟩ := HV2.out.n.at_ (j := j) (by rw [List.length_map]; exact hlt)
      have e0 : (c.names.map encS)[j]'(by rw [List.length_map]; exact hlt) = .string (strB x) := by
        have := (List.getElem?_eq_some_iff.1 hx).2
        simp [this, encS]
      rw [e0] at hcl hcl2
      have p1 : wr.cell? ⟨a1, o1 + j, none⟩ = some (.string (strB x)) := (HBW.out.cell (p := ⟨a1, o1 + j, none⟩) ha).trans hcl
      have p2 : wr.cell? ⟨a2, o2 + j, none⟩ = some (.string (strB x)) := (HBW.out.cell (p := ⟨a2, o2 + j, none⟩) ha2).trans hcl2
      subst hA hA2
      clear hx hcl hcl2 e0 ha ha2 hjt
      go_wp2_with fail
      go_quiet (fail)
      go_wp2_with fail
      go_roundw
      case rel =>
        first
          | exact ⟨j + 1, by omega, by go_num, HB.out.trans (below_drewN _ _)⟩
          | exact ⟨_, ⟨j + 1, by omega, rfl, HB.out.trans (below_drewN _ _)⟩, by go_num⟩
      case measure => (first | (simp [intOf]; done) | (simp [intOf]; omega))
    · have hd : decide (j < c.names.length) = false := decide_eq_false hlt
      have u2 := HK1'.out.cell 2 (v := .slice A2 c.nums.length k2) rfl
      have v2 := HK2'.out.cell 2 (v := .slice B2 c.nums.length l2) rfl
      clear hlt
      go_wp2_with fail
      go_loopw [58] (fun i W => SRel Y c.nums.length i W) (fun i _ => c.nums.length + 1 - (intOf i).toNat)
      case atStart => exact ⟨0, Nat.zero_le _, rfl, HB.out⟩
      case round =>
        obtain ⟨j, hj, rfl, hb⟩ := hrel
        have HB := Lib.hid hb
        have HK1' := Lib.hid (HK1.out.below hb HK1.out.lt)
        have HK2' := Lib.hid (HK2.out.below hb HK2.out.lt)
        have x1 := HK1'.out.cell 2 (v := .slice A2 c.nums.length k2) rfl
        have y1 := HK2'.out.cell 2 (v := .slice B2 c.nums.length l2) rfl
        have HBW := Lib.hid (HBY.out.trans (hb.mono HBY.out.size))
        clear hb
        by_cases hlt : j < c.nums.length
        · have hd : decide (j < c.nums.length) = true := decide_eq_true hlt
          have hij : (j : Int) < (c.nums.length : Int) := by omega
          have hij0 : (0 : Int) ≤ (j : Int) := by omega
          have hjt : ((j : Int)).toNat = j := by omega
          obtain ⟨x, hx⟩ : ∃ x, c.nums[j]? = some x := ⟨_, List.getElem?_eq_getElem hlt⟩
          obtain ⟨a1, o1, hA, ha, hcl⟩ := HV1.out.k.at_ (j := j) (by rw [List.length_map]; exact hlt)
          obtain ⟨a2, o2, hA2, ha2, hcl2⟩ := HV2.out.k.at_ (j := j) (by rw [List.length_map]; exact hlt)
          have e0 : (c.nums.map (Value.int .i64))[j]'(by rw [List.length_map]; exact hlt) = .int .i64 x := by
            have := (List.getElem?_eq_some_iff.1 hx).2
            simp [this]
          rw [e0] at hcl hcl2
          have p1 : wr.cell? ⟨a1, o1 + j, none⟩ = some (.int .i64 x) := (HBW.out.cell (p := ⟨a1, o1 + j, none⟩) ha).trans hcl
          have p2 : wr.cell? ⟨a2, o2 + j, none⟩ = some (.int .i64 x) := (HBW.out.cell (p := ⟨a2, o2 + j, none⟩) ha2).trans hcl2
          subst hA hA2
          clear hx hcl hcl2 e0 ha ha2 hjt
          go_wp2_with fail
          go_quiet (fail)
          go_wp2_with fail
          go_roundw
          case rel =>
            first
              | exact ⟨j + 1, by omega, by go_num, HB.out.trans (below_drewN _ _)⟩
              | exact ⟨_, ⟨j + 1, by omega, rfl, HB.out.trans (below_drewN _ _)⟩, by go_num⟩
          case measure => (first | (simp [intOf]; done) | (simp [intOf]; omega))
        · have hd : decide (j < c.nums.length) = false := decide_eq_false hlt
          clear hlt
          go_wp2_with fail
          go_ret
          exact ⟨rfl, HBW.out⟩
end Go.Proofs.YtonjgfbefhefjaaDoor.Ln
