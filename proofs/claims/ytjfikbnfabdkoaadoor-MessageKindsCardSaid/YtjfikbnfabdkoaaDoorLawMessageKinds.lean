/- The law MessageKinds: the walk. -/
import Derived.Test.YtjfikbnfabdkoaaDoorMsgAwk
import Derived.Test.YtjfikbnfabdkoaaDoorMsgRef0
set_option linter.unusedVariables false
set_option linter.unusedSimpArgs false
namespace Go.Proofs.YtjfikbnfabdkoaaDoor.Mg
open Go.RowKit Go.Proofs.YtjfikbnfabdkoaaDoor.Wi Go.Proofs.YtjfikbnfabdkoaaDoor.Ow Go.Proofs.YtjfikbnfabdkoaaDoor.Be
theorem nam_is (k : Int) : isK k = decide (nam k ≠ []) := by
  unfold isK nam
  cases h : rowOf k with
  | none => rfl
  | some r =>
    have := List.all_eq_true.1 rows_good r (rowOf_mem h).1
    simp only [Bool.and_eq_true, decide_eq_true_eq] at this
    simp [this.2]
set_option maxRecDepth 20000 in
set_option maxHeartbeats 4000000 in
theorem law_MessageKinds (w : World) (k : Int) (_hk : (Lit.int .i64 k).wf = true) (a : Nat → Addr) (hE : ErrsM w a) (hT : TabR w) (hM : ∃ m, w.cell? ⟨22, 0, none⟩ = some (.int .i64 m)) :
    Calls Tryd.prog 5 #[.int .i64 k] w fun e w' => e = .returned (.bool true) ∧ Below w.heap.size w w' := by
  have HAW := Lib.hid (awake10 w a hE hT hM)
  obtain ⟨ls, hls⟩ : ∃ ls, mkS (ltr k) = ls := ⟨_, rfl⟩
  obtain ⟨nm, hnm⟩ : ∃ nm, mkS (nam k) = nm := ⟨_, rfl⟩
  obtain ⟨is, his⟩ : ∃ is, isK k = is := ⟨_, rfl⟩
  have HFI := Lib.hid (show ∀ W, Below w.heap.size w W → Calls Tryd.prog 19 #[.int .i64 k] W fun e w' => e = .returned (.tuple #[.string ls, .bool is]) ∧ Below W.heap.size W w' from fun W hW => by
    have := Fields_any W k (hT.below hW)
    rw [hls, his] at this; exact this)
  have HRF := Lib.hid (show ∀ W, Calls Tryd.prog 20 #[.int .i64 k] W fun e w' => e = .returned (.tuple #[.string ls, .bool is]) ∧ W = w' from fun W => by
    have := RefFields_any W k
    rw [hls, his] at this; exact this)
  have HNM := Lib.hid (show ∀ W, Below w.heap.size w W → Calls Tryd.prog 21 #[.int .i64 k] W fun e w' => e = .returned (.string nm) ∧ Below W.heap.size W w' from fun W hW => by
    have := Name_of W k (hT.below hW)
    rw [hnm] at this; exact this)
  have HRN := Lib.hid (show ∀ W, Calls Tryd.prog 22 #[.int .i64 k] W fun e w' => e = .returned (.string nm) ∧ Below W.heap.size W w' from fun W => by
    have := RefName_of W k
    rw [hnm] at this; exact this)
  have hni := nam_is k
  rw [his] at hni
  have hn0 : is = decide (nm.size ≠ 0) := by
    rw [hni, ← hnm, mkS_size]
    cases nam k <;> simp
  clear hE hT hM hls hnm his hni _hk
  have key : (is = true ∧ nm.size ≠ 0) ∨ (is = false ∧ nm.size = 0) := by
    by_cases h : nm.size = 0
    · right; exact ⟨by rw [hn0]; simp [h], h⟩
    · left; exact ⟨by rw [hn0]; simp [h], h⟩
  clear hn0
  rcases key with ⟨rfl, h0⟩ | ⟨rfl, h0⟩
  · have hl2 := toList_ne h0
    clear h0
    have tok := True.intro
    go_enter Tryd.func5, Tryd.ntmps5
    go_wp2_with (first
      | (go_at_call 18; refine HAW.out.mono ?_; rintro e w1 ⟨rfl, hb1⟩; skip; have HB1 := Lib.hid hb1; clear hb1)
      | (go_at_call 19; refine (HFI.out _ HB1.out).mono ?_; rintro e w2 ⟨rfl, hb2⟩; skip; have HB2 := Lib.hid (HB1.out.trans (hb2.mono HB1.out.size)); clear hb2)
      | (go_at_call 20; refine (HRF.out _).mono ?_; rintro e w3 ⟨rfl, rfl⟩; skip)
      | (go_at_call 21; have _t := tok; refine (HNM.out _ HB2.out).mono ?_; rintro e w4 ⟨rfl, hb4⟩; skip; have HB4 := Lib.hid (HB2.out.trans (hb4.mono HB2.out.size)); clear hb4 _t tok)
      | (go_at_call 22; refine (HRN.out _).mono ?_; rintro e w5 ⟨rfl, hb5⟩; skip; have HB5 := Lib.hid (HB4.out.trans (hb5.mono HB4.out.size)); have tok2 := True.intro; clear hb5)
      | (go_at_call 21; have _t := tok2; refine (HNM.out _ HB5.out).mono ?_; rintro e w6 ⟨rfl, hb6⟩; skip; have HB6 := Lib.hid (HB5.out.trans (hb6.mono HB5.out.size)); clear hb6 _t tok2))
    go_ret
    exact ⟨by simp [hl2], HB6.out⟩
  · have hl := toList_empty h0
    have hl2 : nm.toList.isEmpty = true := by rw [hl]; rfl
    clear h0
    have tok := True.intro
    go_enter Tryd.func5, Tryd.ntmps5
    go_wp2_with (first
      | (go_at_call 18; refine HAW.out.mono ?_; rintro e w1 ⟨rfl, hb1⟩; skip; have HB1 := Lib.hid hb1; clear hb1)
      | (go_at_call 19; refine (HFI.out _ HB1.out).mono ?_; rintro e w2 ⟨rfl, hb2⟩; skip; have HB2 := Lib.hid (HB1.out.trans (hb2.mono HB1.out.size)); clear hb2)
      | (go_at_call 20; refine (HRF.out _).mono ?_; rintro e w3 ⟨rfl, rfl⟩; skip)
      | (go_at_call 21; have _t := tok; refine (HNM.out _ HB2.out).mono ?_; rintro e w4 ⟨rfl, hb4⟩; skip; have HB4 := Lib.hid (HB2.out.trans (hb4.mono HB2.out.size)); clear hb4 _t tok)
      | (go_at_call 22; refine (HRN.out _).mono ?_; rintro e w5 ⟨rfl, hb5⟩; skip; have HB5 := Lib.hid (HB4.out.trans (hb5.mono HB4.out.size)); have tok2 := True.intro; clear hb5)
      | (go_at_call 21; have _t := tok2; refine (HNM.out _ HB5.out).mono ?_; rintro e w6 ⟨rfl, hb6⟩; skip; have HB6 := Lib.hid (HB5.out.trans (hb6.mono HB5.out.size)); clear hb6 _t tok2))
    go_ret
    exact ⟨by simp [hl2], HB6.out⟩
end Go.Proofs.YtjfikbnfabdkoaaDoor.Mg
