/- Line: LineReads. -/
import Derived.Test.YtonjgfbefhefjaaDoorLnV
set_option linter.unusedVariables false
set_option linter.unusedSimpArgs false
namespace Go.Proofs.YtonjgfbefhefjaaDoor.Ln
open Go Go.RowKit Go.Proofs.YtonjgfbefhefjaaDoor.Ow
theorem Code_at (W : World) (a : Nat → Addr) (h : Ctx W a) (c : Nat) (hc : c ≤ 20) : Calls Tryd.prog 11 #[Ei.evA a c] W fun e w' => e = .returned (.int .i64 c) ∧ W = w' := Ei.Code_any W a h.errs c hc
set_option maxRecDepth 20000 in
set_option maxHeartbeats 4000000 in
theorem law_LineReads (w : World) (S0 : ByteArray) (a : Nat → Addr) (hX : Ctx w a) :
    Calls Tryd.prog 3 #[.string S0] w fun e w' => e = .returned (.bool true) ∧ Below w.heap.size w w' := by
  have HX := Lib.hid hX
  have HAW := Lib.hid (awake_any w a hX)
  obtain ⟨S, hS⟩ : ∃ S, S = S0.extract 0 2100 := ⟨_, rfl⟩
  have hsz : S.size ≤ 2100 := by rw [hS]; simp; omega
  have HCU := Lib.hid (show ∀ W : World, Calls Tryd.prog 8 #[.string S0, .int .i64 2100] W fun e w' => e = .returned (.string S) ∧ W = w' from fun W => hS ▸ Cut_any W S0 2100 (by decide))
  obtain ⟨c, f, hr⟩ : ∃ c f, rd S.data.toList = (c, f) := ⟨_, _, rfl⟩
  have hf := rd_le S.data.toList
  rw [hr] at hf
  simp only at hf
  have HPA := Lib.hid (show ∀ W, Below w.heap.size w W → Calls Tryd.prog 9 #[.string S] W fun e w' => ∃ A1 k1 A2 k2, e = .returned (.tuple #[.agg #[.string (strB c.word), .slice A1 c.names.length k1, .slice A2 c.nums.length k2, .string (strB c.text)], Ei.evA a f]) ∧ CVal w' c A1 k1 A2 k2 ∧ Below W.heap.size W w' from fun W hW => (Parse_any W a (HX.out.below hW) S (by omega)).mono fun e w' h => by
    have := h.both
    rw [hr] at this
    exact this)
  have HPR := Lib.hid (show ∀ W, Calls Tryd.prog 10 #[.string S] W fun e w' => ∃ B1 l1 B2 l2, e = .returned (.tuple #[.agg #[.string (strB c.word), .slice B1 c.names.length l1, .slice B2 c.nums.length l2, .string (strB c.text)], .int .i64 f]) ∧ CVal w' c B1 l1 B2 l2 ∧ Below W.heap.size W w' from fun W => (RefParse_any W S (by omega)).mono fun e w' h => by
    have := h.both
    rw [hr] at this
    exact this)
  have HCO := Lib.hid (show ∀ W, Below w.heap.size w W → Calls Tryd.prog 11 #[Ei.evA a f] W fun e w' => e = .returned (.int .i64 f) ∧ W = w' from fun W hW => (Code_at W a (HX.out.below hW) f (by omega)))
  have HRO := Lib.hid (show f = 0 → chk c = 0 ∧ line c = S.data.toList from fun h => by
    have := rd_ok (s := S.data.toList) (by rw [hr]; exact h)
    rw [hr] at this
    exact ⟨this.1, this.2.1⟩)
  have hss : (S.toList == S.toList) = true := beq_self_eq_true _
  clear hX hS hr
  go_enter Tryd.func3, Tryd.ntmps3
  go_upto_region 6 with (first
    | (go_at_call 7; refine HAW.out.mono ?_; rintro e w1 ⟨rfl, hb⟩; skip; have HB1 := Lib.hid hb; clear hb)
    | (go_at_call 8; refine (HCU.out _).mono ?_; rintro e w' ⟨rfl, rfl⟩)
    | (go_at_call 9; refine (HPA.out _ HB1.out).mono ?_; rintro e w2 ⟨A1, k1, A2, k2, rfl, hcv, hb⟩; skip; have HC := Lib.hid hcv; have HB2 := Lib.hid (HB1.out.trans (hb.mono HB1.out.size)); have HBY := Lib.hid (show Below w.heap.size w (w2.alloc (.cells #[.string (strB c.word), .slice A1 c.names.length k1, .slice A2 c.nums.length k2, .string (strB c.text)] 27)) from HB2.out.trans ((Below.refl _ _).alloc HB2.out.size _)); have HK2 := Lib.hid (Rg.Blk.new w2 #[.string (strB c.word), .slice A1 c.names.length k1, .slice A2 c.nums.length k2, .string (strB c.text)] 27); have HC2 := Lib.hid (HC.out.below (show Below w2.heap.size w2 (w2.alloc (.cells #[.string (strB c.word), .slice A1 c.names.length k1, .slice A2 c.nums.length k2, .string (strB c.text)] 27)) from (Below.refl _ _).alloc (Nat.le_refl _) _)); clear hcv hb)
    | (go_at_call 10; refine (HPR.out _).mono ?_; rintro e w3 ⟨B1, l1, B2, l2, rfl, hcv, hb⟩; skip; have HD := Lib.hid hcv; have HB3 := Lib.hid (HBY.out.trans (hb.mono HBY.out.size)); have HK3 := Lib.hid (HK2.out.below hb HK2.out.lt); have HC3 := Lib.hid (HC2.out.below hb); clear hcv hb))
  have HBZ := Lib.hid (show Below w.heap.size w (w3.alloc (.cells #[.string (strB c.word), .slice B1 c.names.length l1, .slice B2 c.nums.length l2, .string (strB c.text)] 32)) from HB3.out.trans ((Below.refl _ _).alloc HB3.out.size _))
  have HKB := Lib.hid (Rg.Blk.new w3 #[.string (strB c.word), .slice B1 c.names.length l1, .slice B2 c.nums.length l2, .string (strB c.text)] 32)
  have HKA := Lib.hid (HK3.out.alloc (.cells #[.string (strB c.word), .slice B1 c.names.length l1, .slice B2 c.nums.length l2, .string (strB c.text)] 32))
  have hyz := show Below w3.heap.size w3 (w3.alloc (.cells #[.string (strB c.word), .slice B1 c.names.length l1, .slice B2 c.nums.length l2, .string (strB c.text)] 32)) from (Below.refl _ _).alloc (Nat.le_refl _) _
  have HCZ := Lib.hid (HC3.out.below hyz)
  have HDZ := Lib.hid (HD.out.below hyz)
  clear hyz
  generalize w3.alloc (.cells #[.string (strB c.word), .slice B1 c.names.length l1, .slice B2 c.nums.length l2, .string (strB c.text)] 32) = Z at *
  have p0 := HKA.out.cell 0 (v := .string (strB c.word)) rfl
  have p1 := HKA.out.cell 1 (v := .slice A1 c.names.length k1) rfl
  have p2 := HKA.out.cell 2 (v := .slice A2 c.nums.length k2) rfl
  have p3 := HKA.out.cell 3 (v := .string (strB c.text)) rfl
  have q0 := HKB.out.cell 0 (v := .string (strB c.word)) rfl
  have q1 := HKB.out.cell 1 (v := .slice B1 c.names.length l1) rfl
  have q2 := HKB.out.cell 2 (v := .slice B2 c.nums.length l2) rfl
  have q3 := HKB.out.cell 3 (v := .string (strB c.text)) rfl
  have ff : ((f : Int) == (f : Int)) = true := beq_self_eq_true _
  have ffn : ((f : Int) != (f : Int)) = false := by rw [bne, ff]; rfl
  have fn : (f == f) = true := beq_self_eq_true _
  have fnn : (f != f) = false := by rw [bne, fn]; rfl
  by_cases h0 : f = 0
  · have HO := Lib.hid (HRO.out h0)
    have HCK := Lib.hid (show ∀ W, Below w.heap.size w W → CVal W c A1 k1 A2 k2 → Calls Tryd.prog 13 #[.agg #[.string (strB c.word), .slice A1 c.names.length k1, .slice A2 c.nums.length k2, .string (strB c.text)]] W fun e w' => e = .returned .nilIface ∧ Below W.heap.size W w' from fun W hW hc => by
      have h := Check_any W a (HX.out.below hW) c A1 A2 k1 k2 hc
      rw [HO.out.1] at h
      exact h)
    have HLI := Lib.hid (show ∀ W, Below w.heap.size w W → CVal W c A1 k1 A2 k2 → Calls Tryd.prog 14 #[.agg #[.string (strB c.word), .slice A1 c.names.length k1, .slice A2 c.nums.length k2, .string (strB c.text)]] W fun e w' => e = .returned (.string S) ∧ Below W.heap.size W w' from fun W hW hc => by
      have h := Line_any W a (HX.out.below hW) c A1 A2 k1 k2 hc
      rw [HO.out.2] at h
      exact h)
    subst h0
    go_wp2_with (first
      | (go_at_call 11; refine (HCO.out _ HBZ.out).mono ?_; rintro e w' ⟨rfl, rfl⟩)
      | (go_at_call 12; refine (Same_true _ c A1 A2 B1 B2 k1 k2 l1 l2 HCZ.out HDZ.out).mono ?_; rintro e w4 ⟨rfl, hb⟩; skip; have HB4 := Lib.hid (HBZ.out.trans (hb.mono HBZ.out.size)); have HKA4 := Lib.hid (HKA.out.below hb HKA.out.lt); have HC4 := Lib.hid (HCZ.out.below hb); have r0 := HKA4.out.cell 0 (v := .string (strB c.word)) rfl; have r1 := HKA4.out.cell 1 (v := .slice A1 c.names.length k1) rfl; have r2 := HKA4.out.cell 2 (v := .slice A2 c.nums.length k2) rfl; have r3 := HKA4.out.cell 3 (v := .string (strB c.text)) rfl; clear hb)
      | (go_at_call 13; refine (HCK.out _ HB4.out HC4.out).mono ?_; rintro e w5 ⟨rfl, hb⟩; skip; have HB5 := Lib.hid (HB4.out.trans (hb.mono HB4.out.size)); have HKA5 := Lib.hid (HKA4.out.below hb HKA4.out.lt); have HC5 := Lib.hid (HC4.out.below hb); have s0 := HKA5.out.cell 0 (v := .string (strB c.word)) rfl; have s1 := HKA5.out.cell 1 (v := .slice A1 c.names.length k1) rfl; have s2 := HKA5.out.cell 2 (v := .slice A2 c.nums.length k2) rfl; have s3 := HKA5.out.cell 3 (v := .string (strB c.text)) rfl; clear hb)
      | (go_at_call 14; refine (HLI.out _ HB5.out HC5.out).mono ?_; rintro e w6 ⟨rfl, hb⟩; skip; have HB6 := Lib.hid (HB5.out.trans (hb.mono HB5.out.size)); clear hb))
    go_ret
    exact ⟨rfl, HB6.out⟩
  · have g0 : ((f : Int) == 0) = false := by rw [beq_eq_false_iff_ne]; omega
    have g1 : ((f : Int) != 0) = true := by rw [bne_iff_ne]; omega
    have g2 : (f == 0) = false := by rw [beq_eq_false_iff_ne]; omega
    clear h0
    go_wp2_with (first
      | (go_at_call 11; refine (HCO.out _ HBZ.out).mono ?_; rintro e w' ⟨rfl, rfl⟩)
      | (go_at_call 12; refine (Same_true _ c A1 A2 B1 B2 k1 k2 l1 l2 HCZ.out HDZ.out).mono ?_; rintro e w4 ⟨rfl, hb⟩; skip; have HB4 := Lib.hid (HBZ.out.trans (hb.mono HBZ.out.size)); have HKA4 := Lib.hid (HKA.out.below hb HKA.out.lt); have HC4 := Lib.hid (HCZ.out.below hb); have r0 := HKA4.out.cell 0 (v := .string (strB c.word)) rfl; have r1 := HKA4.out.cell 1 (v := .slice A1 c.names.length k1) rfl; have r2 := HKA4.out.cell 2 (v := .slice A2 c.nums.length k2) rfl; have r3 := HKA4.out.cell 3 (v := .string (strB c.text)) rfl; clear hb))
    go_ret
    exact ⟨rfl, HB4.out⟩
end Go.Proofs.YtonjgfbefhefjaaDoor.Ln
