/- Line: LineWords. -/
import Derived.Test.YtonjgfbefhefjaaDoorLnV1
import Derived.IntWalk
import Derived.Deep.CutBlock
set_option linter.unusedVariables false
set_option linter.unusedSimpArgs false
namespace Go.Proofs.YtonjgfbefhefjaaDoor.Ln
open Go Go.RowKit Go.Proofs.YtonjgfbefhefjaaDoor.Ow
theorem and3 (y : Int) : ∃ q : Nat, q ≤ 3 ∧ bits .and .i64 y 3 = (q : Int) := by
  refine ⟨(BitVec.ofInt 64 y).toNat &&& 3, Nat.and_le_right, ?_⟩
  have h := Nat.and_le_right (n := (BitVec.ofInt 64 y).toNat) (m := 3)
  have h3 : (BitVec.ofInt 64 (3 : Int)).toNat = 3 := by decide
  show IntKind.i64.wrap ((BitVec.ofInt 64 y &&& BitVec.ofInt 64 (3 : Int)).toNat : Int) = _
  rw [BitVec.toNat_and, h3]
  exact IntWalk.i64_in _ (by omega)
set_option maxRecDepth 20000 in
set_option maxHeartbeats 8000000 in
theorem law_LineWords (w : World) (A : Option Addr) (cp : Nat) (xs : List ByteArray) (hR : Rd w A (xs.map Value.string)) (hc : xs.length ≤ cp) (hm : cp ≤ maxLen) (B : Option Addr) (cq : Nat) (ys : List Int) (hQ : Rd w B (ys.map (Value.int .i64))) (hcq : ys.length ≤ cq) (hmq : cq ≤ maxLen) (a : Nat → Addr) (hX : Ctx w a) :
    Calls Tryd.prog 5 #[.slice A xs.length cp, .slice B ys.length cq] w fun e w' => e = .returned (.bool true) ∧ Below w.heap.size w w' := by
  have HX := Lib.hid hX
  have HAW := Lib.hid (awake_any w a hX)
  have HR := Lib.hid hR
  have HQ := Lib.hid hQ
  have HCU := Lib.hid (show ∀ (W : World) (S : ByteArray), Calls Tryd.prog 8 #[.string S, .int .i64 70] W fun e w' => e = .returned (.string (S.extract 0 70)) ∧ W = w' from fun W S => Cut_any W S 70 (by decide))
  clear hX hR hQ
  go_enter Tryd.func5, Tryd.ntmps5
  go_upto_block 0 with (first
    | (go_at_call 7; refine HAW.out.mono ?_; rintro e w1 ⟨rfl, hb⟩; skip; have HB1 := Lib.hid hb; clear hb))
  have HR1 := Lib.hid (HR.out.below HB1.out)
  have HQ1 := Lib.hid (HQ.out.below HB1.out)
  go_cut [5] (fun s wx => (∃ S : ByteArray, s = .string S ∧ S.size ≤ 2100) ∧ w1 = wx)
  case first =>
    go_wp2_with fail
    go_loop [5, 6] (fun s i => ∃ (j : Nat) (S : ByteArray), j ≤ 24 ∧ j ≤ xs.length ∧ S.size ≤ 73 * j ∧ s = .string S ∧ i = .int .i64 j) (fun _ i => 24 - (intOf i).toNat)
    case atStart => exact ⟨0, ⟨#[]⟩, by decide, Nat.zero_le _, by decide, rfl, rfl⟩
    case round =>
      obtain ⟨j, S, hj24, hjx, hS, rfl, rfl⟩ := hrel
      by_cases hlt : j < xs.length
      · have d1 : decide (j < xs.length) = true := by rw [decide_eq_true_iff]; omega
        have d1i : decide ((j : Int) < (xs.length : Int)) = true := by rw [decide_eq_true_iff]; omega
        by_cases h24 : j < 24
        · have d2 : decide ((j : Int) < 24) = true := by rw [decide_eq_true_iff]; omega
          go_upto_if 27 with (fail)
          go_cut [7] from 14 to 51 (fun v wx => (∃ q : Nat, q ≤ 3 ∧ v = .int .i64 q) ∧ w1 = wx)
          case first =>
            by_cases hb : j < ys.length
            · have d3 : decide (j < ys.length) = true := by rw [decide_eq_true_iff]; omega
              have d3i : decide ((j : Int) < (ys.length : Int)) = true := by rw [decide_eq_true_iff]; omega
              have hij : (j : Int) < (ys.length : Int) := by omega
              obtain ⟨ba, o, hA, hba, hcl⟩ := HQ1.out.at_ (j := j) (by rw [List.length_map]; exact hb)
              obtain ⟨y, hy⟩ : ∃ y, ys[j]? = some y := ⟨_, List.getElem?_eq_getElem hb⟩
              have hcell : w1.cell? ⟨ba, o + j, none⟩ = some (.int .i64 y) := by
                rw [hcl]
                have := (List.getElem?_eq_some_iff.1 hy).2
                simp [this]
              obtain ⟨q, hq3, hq⟩ := and3 y
              subst hA
              clear hcl hy hba
              go_wp2_with fail
              go_meet
              exact ⟨⟨q, by omega, rfl⟩, rfl⟩
            · have d3 : decide (j < ys.length) = false := by rw [decide_eq_false_iff_not]; omega
              have d3i : decide ((j : Int) < (ys.length : Int)) = false := by rw [decide_eq_false_iff_not]; omega
              go_wp2_with fail
              go_meet
              exact ⟨⟨1, by omega, rfl⟩, rfl⟩
          case rest =>
            obtain ⟨⟨q, hq, rfl⟩, hwc⟩ := hcut
            subst hwc
            by_cases h0 : 0 < j
            · have d4 : decide ((0 : Int) < (j : Int)) = true := by rw [decide_eq_true_iff]; omega
              have d4n : decide (0 < j) = true := by rw [decide_eq_true_iff]; omega
              go_upto_if 38 with (fail)
              go_cut [5] from 14 to 51 (fun s wx => (∃ S2 : ByteArray, s = .string S2 ∧ S2.size ≤ S.size + 3) ∧ w1 = wx)
              case first =>
                go_wp2_with fail
                go_loop [5, 40] (fun s i => ∃ (p : Nat) (S2 : ByteArray), p ≤ q ∧ S2.size ≤ S.size + p ∧ s = .string S2 ∧ i = .int .i64 p) (fun _ i => q - (intOf i).toNat)
                case atStart => exact ⟨0, S, Nat.zero_le _, by omega, rfl, rfl⟩
                case round =>
                  obtain ⟨p, S2, hp, hs2, rfl, rfl⟩ := hrel
                  have hs3 : S2.size ≤ 100000 := by omega
                  have HS4 := Lib.hid (show (S2 ++ (⟨#[32]⟩ : ByteArray)).size ≤ S.size + (p + 1) by
                    have h1 : (⟨#[32]⟩ : ByteArray).size = 1 := rfl
                    rw [ByteArray.size_append, h1]; omega)
                  by_cases hpq : p < q
                  · have dp : decide (p < q) = true := by rw [decide_eq_true_iff]; omega
                    have dpi : decide ((p : Int) < (q : Int)) = true := by rw [decide_eq_true_iff]; omega
                    clear hs2
                    go_wp2_with fail
                    go_round
                    case rel => exact ⟨p + 1, _, by omega, HS4.out, rfl, by go_num⟩
                    case measure => (first | (simp [intOf]; done) | (simp [intOf]; omega))
                  · have dp : decide (p < q) = false := by rw [decide_eq_false_iff_not]; omega
                    have dpi : decide ((p : Int) < (q : Int)) = false := by rw [decide_eq_false_iff_not]; omega
                    go_wp2_with fail
                    go_meet
                    exact ⟨⟨S2, rfl, by omega⟩, rfl⟩
              case rest =>
                obtain ⟨⟨S2, rfl, hs2⟩, hwc⟩ := hcut
                subst hwc
                have hij : (j : Int) < (xs.length : Int) := by omega
                obtain ⟨ba, o, hA, hba, hcl⟩ := HR1.out.at_ (j := j) (by rw [List.length_map]; exact hlt)
                obtain ⟨y, hy⟩ : ∃ y, xs[j]? = some y := ⟨_, List.getElem?_eq_getElem hlt⟩
                have hcell : w1.cell? ⟨ba, o + j, none⟩ = some (.string y) := by
                  rw [hcl]
                  have := (List.getElem?_eq_some_iff.1 hy).2
                  simp [this]
                obtain ⟨Y, hY⟩ : ∃ Y, Y = y.extract 0 70 := ⟨_, rfl⟩
                have hYs : Y.size ≤ 70 := by rw [hY]; simp; omega
                have HCY := Lib.hid (show ∀ W, Calls Tryd.prog 8 #[.string y, .int .i64 70] W fun e w' => e = .returned (.string Y) ∧ W = w' from fun W => hY ▸ HCU.out W y)
                have HS4 := Lib.hid (show (S2 ++ Y).size ≤ 73 * (j + 1) by rw [ByteArray.size_append]; omega)
                have hs2' : S2.size ≤ 100000 := by omega
                subst hA
                clear hcl hy hba hY
                go_wp2_with (go_at_call 8; refine (HCY.out _).mono ?_; rintro e w' ⟨rfl, rfl⟩)
                go_round
                case rel => exact ⟨j + 1, _, by omega, by omega, HS4.out, rfl, by go_num⟩
                case measure => (first | (simp [intOf]; done) | (simp [intOf]; omega))
            · have d4 : decide ((0 : Int) < (j : Int)) = false := by rw [decide_eq_false_iff_not]; omega
              have d4n : decide (0 < j) = false := by rw [decide_eq_false_iff_not]; omega
              go_upto_if 38 with (fail)
              go_cut [5] from 14 to 51 (fun s wx => (∃ S2 : ByteArray, s = .string S2 ∧ S2.size ≤ S.size + 3) ∧ w1 = wx)
              case first =>
                by_cases h1 : 1 < q
                · have d5 : decide ((1 : Int) < (q : Int)) = true := by rw [decide_eq_true_iff]; omega
                  have d5n : decide (1 < q) = true := by rw [decide_eq_true_iff]; omega
                  go_wp2_with fail
                  go_loop [5, 40] (fun s i => ∃ (p : Nat) (S2 : ByteArray), p ≤ q ∧ S2.size ≤ S.size + p ∧ s = .string S2 ∧ i = .int .i64 p) (fun _ i => q - (intOf i).toNat)
                  case atStart => exact ⟨0, S, Nat.zero_le _, by omega, rfl, rfl⟩
                  case round =>
                    obtain ⟨p, S2, hp, hs2, rfl, rfl⟩ := hrel
                    have hs3 : S2.size ≤ 100000 := by omega
                    have HS4 := Lib.hid (show (S2 ++ (⟨#[32]⟩ : ByteArray)).size ≤ S.size + (p + 1) by
                      have h1 : (⟨#[32]⟩ : ByteArray).size = 1 := rfl
                      rw [ByteArray.size_append, h1]; omega)
                    by_cases hpq : p < q
                    · have dp : decide (p < q) = true := by rw [decide_eq_true_iff]; omega
                      have dpi : decide ((p : Int) < (q : Int)) = true := by rw [decide_eq_true_iff]; omega
                      clear hs2
                      go_wp2_with fail
                      go_round
                      case rel => exact ⟨p + 1, _, by omega, HS4.out, rfl, by go_num⟩
                      case measure => (first | (simp [intOf]; done) | (simp [intOf]; omega))
                    · have dp : decide (p < q) = false := by rw [decide_eq_false_iff_not]; omega
                      have dpi : decide ((p : Int) < (q : Int)) = false := by rw [decide_eq_false_iff_not]; omega
                      go_wp2_with fail
                      go_meet
                      exact ⟨⟨S2, rfl, by omega⟩, rfl⟩
                · have d5 : decide ((1 : Int) < (q : Int)) = false := by rw [decide_eq_false_iff_not]; omega
                  have d5n : decide (1 < q) = false := by rw [decide_eq_false_iff_not]; omega
                  go_wp2_with fail
                  go_meet
                  exact ⟨⟨S, rfl, by omega⟩, rfl⟩
              case rest =>
                obtain ⟨⟨S2, rfl, hs2⟩, hwc⟩ := hcut
                subst hwc
                have hij : (j : Int) < (xs.length : Int) := by omega
                obtain ⟨ba, o, hA, hba, hcl⟩ := HR1.out.at_ (j := j) (by rw [List.length_map]; exact hlt)
                obtain ⟨y, hy⟩ : ∃ y, xs[j]? = some y := ⟨_, List.getElem?_eq_getElem hlt⟩
                have hcell : w1.cell? ⟨ba, o + j, none⟩ = some (.string y) := by
                  rw [hcl]
                  have := (List.getElem?_eq_some_iff.1 hy).2
                  simp [this]
                obtain ⟨Y, hY⟩ : ∃ Y, Y = y.extract 0 70 := ⟨_, rfl⟩
                have hYs : Y.size ≤ 70 := by rw [hY]; simp; omega
                have HCY := Lib.hid (show ∀ W, Calls Tryd.prog 8 #[.string y, .int .i64 70] W fun e w' => e = .returned (.string Y) ∧ W = w' from fun W => hY ▸ HCU.out W y)
                have HS4 := Lib.hid (show (S2 ++ Y).size ≤ 73 * (j + 1) by rw [ByteArray.size_append]; omega)
                have hs2' : S2.size ≤ 100000 := by omega
                subst hA
                clear hcl hy hba hY
                go_wp2_with (go_at_call 8; refine (HCY.out _).mono ?_; rintro e w' ⟨rfl, rfl⟩)
                go_round
                case rel => exact ⟨j + 1, _, by omega, by omega, HS4.out, rfl, by go_num⟩
                case measure => (first | (simp [intOf]; done) | (simp [intOf]; omega))
        · have d2 : decide ((j : Int) < 24) = false := by rw [decide_eq_false_iff_not]; omega
          go_wp2_with fail
          go_meet
          exact ⟨⟨S, rfl, by omega⟩, rfl⟩
      · have d1 : decide (j < xs.length) = false := by rw [decide_eq_false_iff_not]; omega
        have d1i : decide ((j : Int) < (xs.length : Int)) = false := by rw [decide_eq_false_iff_not]; omega
        go_wp2_with fail
        go_meet
        exact ⟨⟨S, rfl, by omega⟩, rfl⟩
  case rest =>
    obtain ⟨⟨S, rfl, hsz⟩, hwc⟩ := hcut
    subst hwc
    obtain ⟨c, f, hr⟩ : ∃ c f, rd S.data.toList = (c, f) := ⟨_, _, rfl⟩
    have hf := rd_le S.data.toList
    rw [hr] at hf
    simp only at hf
    have HPA := Lib.hid (show ∀ W, Below w.heap.size w W → Calls Tryd.prog 9 #[.string S] W fun e w' => ∃ A1 k1 A2 k2, e = .returned (.tuple #[.agg #[.string (strB c.word), .slice A1 c.names.length k1, .slice A2 c.nums.length k2, .string (strB c.text)], Ei.evA a f]) ∧ CVal w' c A1 k1 A2 k2 ∧ Below W.heap.size W w' from fun W hW => (Parse_any W a (HX.out.below hW) S (by omega)).mono fun e w' h => by
      have := h.both
      rw [hr] at this
      exact this)
    have HPR := Lib.hid (show ∀ W, Calls Tryd.prog 10 #[.string S] W fun e w' => ∃ B1 l1 B2 l2, e = .returned (.tuple #[.agg #[.string (strB c.word), .slice B1 c.names.length l1, .slice B2 c.nums.length l2, .string (strB c.text)], .int .i64 f]) ∧ CVal w' c B1 l1 B2 l2 ∧ Below W.heap.size W w' from fun W => (RefParse_any W S (by omega)).mono fun e w' h => by
      have := h.both
      rw [hr] at this
      exact this)
    have HCO := Lib.hid (show ∀ W, Below w.heap.size w W → Calls Tryd.prog 11 #[Ei.evA a f] W fun e w' => e = .returned (.int .i64 f) ∧ W = w' from fun W hW => (Code_at W a (HX.out.below hW) f (by omega)))
    have HRO := Lib.hid (show f = 0 → c.word ≠ [] from fun h => by
      have := rd_ok (s := S.data.toList) (by rw [hr]; exact h)
      rw [hr] at this
      exact this.2.2)
    have HRB := Lib.hid (show f ≠ 0 → c.word = [] from fun h => by
      have := rd_bad (s := S.data.toList) (by rw [hr]; exact h)
      rw [hr] at this
      have h2 : c = c0 := this
      rw [h2]; rfl)
    clear hr
    go_upto_region 18 with (first
      | (go_at_call 9; refine (HPA.out _ HB1.out).mono ?_; rintro e w2 ⟨A1, k1, A2, k2, rfl, hcv, hb⟩; skip; have HC := Lib.hid hcv; have HB2 := Lib.hid (HB1.out.trans (hb.mono HB1.out.size)); have HBY := Lib.hid (show Below w.heap.size w (w2.alloc (.cells #[.string (strB c.word), .slice A1 c.names.length k1, .slice A2 c.nums.length k2, .string (strB c.text)] 27)) from HB2.out.trans ((Below.refl _ _).alloc HB2.out.size _)); have HK2 := Lib.hid (Rg.Blk.new w2 #[.string (strB c.word), .slice A1 c.names.length k1, .slice A2 c.nums.length k2, .string (strB c.text)] 27); have HC2 := Lib.hid (HC.out.below (show Below w2.heap.size w2 (w2.alloc (.cells #[.string (strB c.word), .slice A1 c.names.length k1, .slice A2 c.nums.length k2, .string (strB c.text)] 27)) from (Below.refl _ _).alloc (Nat.le_refl _) _)); clear hcv hb)
      | (go_at_call 10; refine (HPR.out _).mono ?_; rintro e w3 ⟨B1, l1, B2, l2, rfl, hcv, hb⟩; skip; have HD := Lib.hid hcv; have HB3 := Lib.hid (HBY.out.trans (hb.mono HBY.out.size)); have HK3 := Lib.hid (HK2.out.below hb HK2.out.lt); have HC3 := Lib.hid (HC2.out.below hb); clear hcv hb))
    have HBZ := Lib.hid (show Below w.heap.size w (w3.alloc (.cells #[.string (strB c.word), .slice B1 c.names.length l1, .slice B2 c.nums.length l2, .string (strB c.text)] 32)) from HB3.out.trans ((Below.refl _ _).alloc HB3.out.size _))
    have HKB := Lib.hid (Rg.Blk.new w3 #[.string (strB c.word), .slice B1 c.names.length l1, .slice B2 c.nums.length l2, .string (strB c.text)] 32)
    have HKA := Lib.hid (HK3.out.alloc (.cells #[.string (strB c.word), .slice B1 c.names.length l1, .slice B2 c.nums.length l2, .string (strB c.text)] 32))
    have hyz := show Below w3.heap.size w3 (w3.alloc (.cells #[.string (strB c.word), .slice B1 c.names.length l1, .slice B2 c.nums.length l2, .string (strB c.text)] 32)) from (Below.refl _ _).alloc (Nat.le_refl _) _
    have HCZ := Lib.hid (HC3.out.below hyz)
    have HDZ := Lib.hid (HD.out.below hyz)
    clear hyz
    generalize w3.alloc (.cells #[.string (strB c.word), .slice B1 c.names.length l1, .slice B2 c.nums.length l2, .string (strB c.text)] 32) = Z at *
    have p0 := HKA.out.cell 0 (v := .string (strB c.word)) rfl
    have p1 := HKA.out.cell 1 (v := .slice A1 c.names.length k1) rfl
    have p2 := HKA.out.cell 2 (v := .slice A2 c.nums.length k2) rfl
    have p3 := HKA.out.cell 3 (v := .string (strB c.text)) rfl
    have q0 := HKB.out.cell 0 (v := .string (strB c.word)) rfl
    have q1 := HKB.out.cell 1 (v := .slice B1 c.names.length l1) rfl
    have q2 := HKB.out.cell 2 (v := .slice B2 c.nums.length l2) rfl
    have q3 := HKB.out.cell 3 (v := .string (strB c.text)) rfl
    have ff : ((f : Int) == (f : Int)) = true := beq_self_eq_true _
    have fn : (f == f) = true := beq_self_eq_true _
    by_cases h0 : f = 0
    · have hw := bne_lit (S := strB c.word) (l := []) (HRO.out h0)
      have hw' := bnt_lit (S := strB c.word) (l := []) (HRO.out h0)
      subst h0
      go_wp2_with (first
        | (go_at_call 11; refine (HCO.out _ HBZ.out).mono ?_; rintro e w' ⟨rfl, rfl⟩)
        | (go_at_call 12; refine (Same_true _ c A1 A2 B1 B2 k1 k2 l1 l2 HCZ.out HDZ.out).mono ?_; rintro e w4 ⟨rfl, hb⟩; skip; have HB4 := Lib.hid (HBZ.out.trans (hb.mono HBZ.out.size)); have HKA4 := Lib.hid (HKA.out.below hb HKA.out.lt); have r0 := HKA4.out.cell 0 (v := .string (strB c.word)) rfl; have r1 := HKA4.out.cell 1 (v := .slice A1 c.names.length k1) rfl; have r2 := HKA4.out.cell 2 (v := .slice A2 c.nums.length k2) rfl; have r3 := HKA4.out.cell 3 (v := .string (strB c.text)) rfl; clear hb))
      go_ret
      exact ⟨rfl, HB4.out⟩
    · have hw := beq_lit (S := strB c.word) (l := []) (HRB.out h0)
      have hw' := bnf_lit (S := strB c.word) (l := []) (HRB.out h0)
      have g0 : ((f : Int) == 0) = false := by rw [beq_eq_false_iff_ne]; omega
      have g2 : (f == 0) = false := by rw [beq_eq_false_iff_ne]; omega
      clear h0
      go_wp2_with (first
        | (go_at_call 11; refine (HCO.out _ HBZ.out).mono ?_; rintro e w' ⟨rfl, rfl⟩)
        | (go_at_call 12; refine (Same_true _ c A1 A2 B1 B2 k1 k2 l1 l2 HCZ.out HDZ.out).mono ?_; rintro e w4 ⟨rfl, hb⟩; skip; have HB4 := Lib.hid (HBZ.out.trans (hb.mono HBZ.out.size)); have HKA4 := Lib.hid (HKA.out.below hb HKA.out.lt); have r0 := HKA4.out.cell 0 (v := .string (strB c.word)) rfl; have r1 := HKA4.out.cell 1 (v := .slice A1 c.names.length k1) rfl; have r2 := HKA4.out.cell 2 (v := .slice A2 c.nums.length k2) rfl; have r3 := HKA4.out.cell 3 (v := .string (strB c.text)) rfl; clear hb))
      go_ret
      exact ⟨rfl, HB4.out⟩
end Go.Proofs.YtonjgfbefhefjaaDoor.Ln
