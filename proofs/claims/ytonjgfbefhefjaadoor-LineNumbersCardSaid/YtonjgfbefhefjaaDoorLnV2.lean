/- Line: LineNumbers. -/
import Derived.Test.YtonjgfbefhefjaaDoorLnV1
set_option linter.unusedVariables false
set_option linter.unusedSimpArgs false
namespace Go.Proofs.YtonjgfbefhefjaaDoor.Ln
open Go Go.RowKit Go.Proofs.YtonjgfbefhefjaaDoor.Ow
def cT (n : Int) : Cm := ⟨[116, 105, 99, 107], [], [n], []⟩
theorem cval_tick {W : World} {b : Nat} {n : Int} (hn : -9223372036854775808 ≤ n ∧ n ≤ 9223372036854775807) (h : Rg.Blk W b 3 #[.int .i64 n]) : CVal W (cT n) none 0 (some ⟨b, 0, none⟩) 1 :=
  ⟨Rd.nil _ _,
   fun j x hx => ⟨b, 0, rfl, h.lt, by
      have hj : j = 0 := by have := (List.getElem?_eq_some_iff.1 hx).1; simp [cT] at this; omega
      subst hj; cases hx; exact h.cell 0 rfl⟩, Nat.le_refl _, Nat.le_refl _, (by simp [cT]), (by simp [cT]), (fun x hx => absurd hx (List.not_mem_nil)), (by simp [cT]), (by simp [cT]), (fun k hk => (show k = n by simpa [cT] using hk) ▸ hn)⟩
set_option maxRecDepth 20000 in
set_option maxHeartbeats 4000000 in
theorem law_LineNumbers (w : World) (n : Int) (hn : (Lit.int .i64 n).wf = true) (D0 : ByteArray) (a : Nat → Addr) (hX : Ctx w a) :
    Calls Tryd.prog 6 #[.int .i64 n, .string D0] w fun e w' => e = .returned (.bool true) ∧ Below w.heap.size w w' := by
  have HX := Lib.hid hX
  have HAW := Lib.hid (awake_any w a hX)
  have hn2 : -9223372036854775808 ≤ n ∧ n ≤ 9223372036854775807 := by simp only [Lit.wf, Bool.and_eq_true, decide_eq_true_eq] at hn; exact ⟨hn.1, hn.2⟩
  obtain ⟨D, hD⟩ : ∃ D, D = D0.extract 0 12 := ⟨_, rfl⟩
  have hdz : D.size ≤ 12 := by rw [hD]; simp; omega
  have HCU := Lib.hid (show ∀ W : World, Calls Tryd.prog 8 #[.string D0, .int .i64 12] W fun e w' => e = .returned (.string D) ∧ W = w' from fun W => hD ▸ Cut_any W D0 12 (by decide))
  obtain ⟨S, hS⟩ : ∃ S : ByteArray, S = (⟨#[114, 117, 110, 32]⟩ : ByteArray) ++ D := ⟨_, rfl⟩
  have hsz : S.size ≤ 2100 := by
    have h4 : (⟨#[114, 117, 110, 32]⟩ : ByteArray).size = 4 := rfl
    rw [hS, ByteArray.size_append, h4]; omega
  obtain ⟨c, f, hr⟩ : ∃ c f, rd S.data.toList = (c, f) := ⟨_, _, rfl⟩
  have hf := rd_le S.data.toList
  rw [hr] at hf
  simp only at hf
  have HPA := Lib.hid (show ∀ W, Below w.heap.size w W → Calls Tryd.prog 9 #[.string S] W fun e w' => ∃ A1 k1 A2 k2, e = .returned (.tuple #[.agg #[.string (strB c.word), .slice A1 c.names.length k1, .slice A2 c.nums.length k2, .string (strB c.text)], Ei.evA a f]) ∧ CVal w' c A1 k1 A2 k2 ∧ Below W.heap.size W w' from fun W hW => (Parse_any W a (HX.out.below hW) S (by omega)).mono fun e w' h => by
    have := h.both
    rw [hr] at this
    exact this)
  have HPR := Lib.hid (show ∀ W, Calls Tryd.prog 10 #[.string S] W fun e w' => ∃ B1 l1 B2 l2, e = .returned (.tuple #[.agg #[.string (strB c.word), .slice B1 c.names.length l1, .slice B2 c.nums.length l2, .string (strB c.text)], .int .i64 f]) ∧ CVal w' c B1 l1 B2 l2 ∧ Below W.heap.size W w' from fun W => (RefParse_any W S (by omega)).mono fun e w' h => by
    have := h.both
    rw [hr] at this
    exact this)
  have HCO := Lib.hid (show ∀ W, Below w.heap.size w W → Calls Tryd.prog 11 #[Ei.evA a f] W fun e w' => e = .returned (.int .i64 f) ∧ W = w' from fun W hW => (Code_at W a (HX.out.below hW) f (by omega)))
  have HPA2 := Lib.hid (hS ▸ HPA.out)
  have HPR2 := Lib.hid (hS ▸ HPR.out)
  obtain ⟨g, hg⟩ : ∃ g, g = chk (cT n) := ⟨_, rfl⟩
  obtain ⟨T, hT⟩ : ∃ T, T = strB (line (cT n)) := ⟨_, rfl⟩
  have hgl : g ≤ 20 := by
    rw [hg]; unfold chk
    split
    · exact Nat.le_refl _
    · split <;> decide
  have HRL := Lib.hid (show ∀ W b, Below w.heap.size w W → Rg.Blk W b 3 #[.int .i64 n] → Calls Tryd.prog 15 #[.agg #[.string ⟨#[116, 105, 99, 107]⟩, .slice none 0 0, .slice (some ⟨b, 0, none⟩) 1 1, .string ⟨#[]⟩]] W fun e w' => e = .returned (.tuple #[.string T, .int .i64 g]) ∧ Below W.heap.size W w' from fun W b hW hb => by
    have h := RefLine_any W a (HX.out.below hW) (cT n) none (some ⟨b, 0, none⟩) 0 1 (cval_tick hn2 hb)
    rw [← hg, ← hT] at h
    exact h)
  have HLI := Lib.hid (show ∀ W b, Below w.heap.size w W → CVal W (cT n) none 0 (some ⟨b, 0, none⟩) 1 → Calls Tryd.prog 14 #[.agg #[.string ⟨#[116, 105, 99, 107]⟩, .slice none 0 0, .slice (some ⟨b, 0, none⟩) 1 1, .string ⟨#[]⟩]] W fun e w' => e = .returned (.string T) ∧ Below W.heap.size W w' from fun W b hW hc => by
    have h := Line_any W a (HX.out.below hW) (cT n) none (some ⟨b, 0, none⟩) 0 1 hc
    rw [← hT] at h
    exact h)
  have HCK := Lib.hid (show ∀ W b, Below w.heap.size w W → CVal W (cT n) none 0 (some ⟨b, 0, none⟩) 1 → Calls Tryd.prog 13 #[.agg #[.string ⟨#[116, 105, 99, 107]⟩, .slice none 0 0, .slice (some ⟨b, 0, none⟩) 1 1, .string ⟨#[]⟩]] W fun e w' => e = .returned (Ei.evA a g) ∧ Below W.heap.size W w' from fun W b hW hc => by
    have h := Check_any W a (HX.out.below hW) (cT n) none (some ⟨b, 0, none⟩) 0 1 hc
    rw [← hg] at h
    exact h)
  have HCG := Lib.hid (show ∀ W, Below w.heap.size w W → Calls Tryd.prog 11 #[Ei.evA a g] W fun e w' => e = .returned (.int .i64 g) ∧ W = w' from fun W hW => (Code_at W a (HX.out.below hW) g hgl))
  have tt : (T.toList == T.toList) = true := beq_self_eq_true _
  have HN2 := Lib.hid hn2
  clear hX hD hS hr hg hT hn hn2 HPA HPR
  go_enter Tryd.func6, Tryd.ntmps6
  go_upto_region 6 with (first
    | (go_at_call 7; refine HAW.out.mono ?_; rintro e w1 ⟨rfl, hb⟩; skip; have HB1 := Lib.hid hb; clear hb)
    | (go_at_call 8; refine (HCU.out _).mono ?_; rintro e w' ⟨rfl, rfl⟩)
    | (go_at_call 9; refine (HPA2.out _ HB1.out).mono ?_; rintro e w2 ⟨A1, k1, A2, k2, rfl, hcv, hb⟩; skip; have HC := Lib.hid hcv; have HB2 := Lib.hid (HB1.out.trans (hb.mono HB1.out.size)); have HBY := Lib.hid (show Below w.heap.size w (w2.alloc (.cells #[.string (strB c.word), .slice A1 c.names.length k1, .slice A2 c.nums.length k2, .string (strB c.text)] 27)) from HB2.out.trans ((Below.refl _ _).alloc HB2.out.size _)); have HK2 := Lib.hid (Rg.Blk.new w2 #[.string (strB c.word), .slice A1 c.names.length k1, .slice A2 c.nums.length k2, .string (strB c.text)] 27); have HC2 := Lib.hid (HC.out.below (show Below w2.heap.size w2 (w2.alloc (.cells #[.string (strB c.word), .slice A1 c.names.length k1, .slice A2 c.nums.length k2, .string (strB c.text)] 27)) from (Below.refl _ _).alloc (Nat.le_refl _) _)); clear hcv hb)
    | (go_at_call 10; refine (HPR2.out _).mono ?_; rintro e w3 ⟨B1, l1, B2, l2, rfl, hcv, hb⟩; skip; have HD := Lib.hid hcv; have HB3 := Lib.hid (HBY.out.trans (hb.mono HBY.out.size)); have HK3 := Lib.hid (HK2.out.below hb HK2.out.lt); have HC3 := Lib.hid (HC2.out.below hb); clear hcv hb))
  have HBZ := Lib.hid (show Below w.heap.size w (w3.alloc (.cells #[.string (strB c.word), .slice B1 c.names.length l1, .slice B2 c.nums.length l2, .string (strB c.text)] 32)) from HB3.out.trans ((Below.refl _ _).alloc HB3.out.size _))
  have HKB := Lib.hid (Rg.Blk.new w3 #[.string (strB c.word), .slice B1 c.names.length l1, .slice B2 c.nums.length l2, .string (strB c.text)] 32)
  have HKA := Lib.hid (HK3.out.alloc (.cells #[.string (strB c.word), .slice B1 c.names.length l1, .slice B2 c.nums.length l2, .string (strB c.text)] 32))
  have hyz := show Below w3.heap.size w3 (w3.alloc (.cells #[.string (strB c.word), .slice B1 c.names.length l1, .slice B2 c.nums.length l2, .string (strB c.text)] 32)) from (Below.refl _ _).alloc (Nat.le_refl _) _
  have HCZ := Lib.hid (HC3.out.below hyz)
  have HDZ := Lib.hid (HD.out.below hyz)
  clear hyz
  generalize w3.alloc (.cells #[.string (strB c.word), .slice B1 c.names.length l1, .slice B2 c.nums.length l2, .string (strB c.text)] 32) = Z at *
  have hbz := HBZ.out.size
  have HX1 := Lib.hid (show Below Z.heap.size Z ((Z.alloc (.cells #[.int .i64 n] 3)).alloc (.cells #[.string ⟨#[116, 105, 99, 107]⟩, .slice none 0 0, .slice (some ⟨Z.heap.size, 0, none⟩) 1 1, .string ⟨#[]⟩] 27)) from ((Below.refl _ _).alloc (Nat.le_refl _) _).alloc (by simp) _)
  have HKN := Lib.hid (show Rg.Blk ((Z.alloc (.cells #[.int .i64 n] 3)).alloc (.cells #[.string ⟨#[116, 105, 99, 107]⟩, .slice none 0 0, .slice (some ⟨Z.heap.size, 0, none⟩) 1 1, .string ⟨#[]⟩] 27)) Z.heap.size 3 #[.int .i64 n] from (Rg.Blk.new Z _ _).alloc _)
  have HKT := Lib.hid (show Rg.Blk ((Z.alloc (.cells #[.int .i64 n] 3)).alloc (.cells #[.string ⟨#[116, 105, 99, 107]⟩, .slice none 0 0, .slice (some ⟨Z.heap.size, 0, none⟩) 1 1, .string ⟨#[]⟩] 27)) (Z.heap.size + 1) 27 #[.string ⟨#[116, 105, 99, 107]⟩, .slice none 0 0, .slice (some ⟨Z.heap.size, 0, none⟩) 1 1, .string ⟨#[]⟩] from Rg.Blk.newAt (by simp) _ _)
  go_upto_region 7 with (fail)
  generalize (Z.alloc (.cells #[.int .i64 n] 3)).alloc (.cells #[.string ⟨#[116, 105, 99, 107]⟩, .slice none 0 0, .slice (some ⟨Z.heap.size, 0, none⟩) 1 1, .string ⟨#[]⟩] 27) = X at *
  have HBX := Lib.hid (HBZ.out.trans (HX1.out.mono HBZ.out.size))
  have HXN := Lib.hid (show Below X.heap.size X (X.alloc (.cells #[.int .i64 n] 3)) from (Below.refl _ _).alloc (Nat.le_refl _) _)
  have HBN := Lib.hid (HBX.out.trans (HXN.out.mono HBX.out.size))
  have HKM := Lib.hid (Rg.Blk.new X #[.int .i64 n] 3)
  go_upto_region 8 with (go_at_call 15; refine (HRL.out _ _ HBN.out HKM.out).mono ?_; rintro e w5 ⟨rfl, hb⟩; skip; have HXY := Lib.hid (HXN.out.trans (hb.mono HXN.out.size)); have HB5 := Lib.hid (HBN.out.trans (hb.mono HBN.out.size)); clear hb)
  have hz5 := HX1.out.trans (HXY.out.mono HX1.out.size)
  have HKA5 := Lib.hid (HKA.out.below hz5 HKA.out.lt)
  have HKB5 := Lib.hid (HKB.out.below hz5 HKB.out.lt)
  have HC5 := Lib.hid (HCZ.out.below hz5)
  have HD5 := Lib.hid (HDZ.out.below hz5)
  have HKT5 := Lib.hid (HKT.out.below HXY.out HKT.out.lt)
  have HT5 := Lib.hid (cval_tick HN2.out (HKN.out.below HXY.out HKN.out.lt))
  clear hz5
  have p0 := HKA5.out.cell 0 (v := .string (strB c.word)) rfl
  have p1 := HKA5.out.cell 1 (v := .slice A1 c.names.length k1) rfl
  have p2 := HKA5.out.cell 2 (v := .slice A2 c.nums.length k2) rfl
  have p3 := HKA5.out.cell 3 (v := .string (strB c.text)) rfl
  have q0 := HKB5.out.cell 0 (v := .string (strB c.word)) rfl
  have q1 := HKB5.out.cell 1 (v := .slice B1 c.names.length l1) rfl
  have q2 := HKB5.out.cell 2 (v := .slice B2 c.nums.length l2) rfl
  have q3 := HKB5.out.cell 3 (v := .string (strB c.text)) rfl
  have ff : ((f : Int) == (f : Int)) = true := beq_self_eq_true _
  have gg : ((g : Int) == (g : Int)) = true := beq_self_eq_true _
  have fn : (f == f) = true := beq_self_eq_true _
  have gn : (g == g) = true := beq_self_eq_true _
  have tok := True.intro
  go_wp2_with (first
    | (have _t := tok; go_at_call 11; refine (HCO.out _ HB5.out).mono ?_; rintro e w' ⟨rfl, rfl⟩; clear _t tok; have tok2 := True.intro)
    | (go_at_call 12; refine (Same_true _ c A1 A2 B1 B2 k1 k2 l1 l2 HC5.out HD5.out).mono ?_; rintro e w6 ⟨rfl, hb⟩; skip; have HB6 := Lib.hid (HB5.out.trans (hb.mono HB5.out.size)); have HKT6 := Lib.hid (HKT5.out.below hb HKT5.out.lt); have HT6 := Lib.hid (HT5.out.below hb); have r0 := HKT6.out.cell 0 (v := .string ⟨#[116, 105, 99, 107]⟩) rfl; have r1 := HKT6.out.cell 1 (v := .slice none 0 0) rfl; have r2 := HKT6.out.cell 2 (v := .slice (some ⟨Z.heap.size, 0, none⟩) 1 1) rfl; have r3 := HKT6.out.cell 3 (v := .string ⟨#[]⟩) rfl; clear hb)
    | (go_at_call 14; refine (HLI.out _ _ HB6.out HT6.out).mono ?_; rintro e w7 ⟨rfl, hb⟩; skip; have HB7 := Lib.hid (HB6.out.trans (hb.mono HB6.out.size)); have HKT7 := Lib.hid (HKT6.out.below hb HKT6.out.lt); have HT7 := Lib.hid (HT6.out.below hb); have s0 := HKT7.out.cell 0 (v := .string ⟨#[116, 105, 99, 107]⟩) rfl; have s1 := HKT7.out.cell 1 (v := .slice none 0 0) rfl; have s2 := HKT7.out.cell 2 (v := .slice (some ⟨Z.heap.size, 0, none⟩) 1 1) rfl; have s3 := HKT7.out.cell 3 (v := .string ⟨#[]⟩) rfl; clear hb)
    | (go_at_call 13; refine (HCK.out _ _ HB7.out HT7.out).mono ?_; rintro e w8 ⟨rfl, hb⟩; skip; have HB8 := Lib.hid (HB7.out.trans (hb.mono HB7.out.size)); clear hb)
    | (have _t := tok2; go_at_call 11; refine (HCG.out _ HB8.out).mono ?_; rintro e w' ⟨rfl, rfl⟩; clear _t tok2))
  go_ret
  exact ⟨rfl, HB8.out⟩
end Go.Proofs.YtonjgfbefhefjaaDoor.Ln
