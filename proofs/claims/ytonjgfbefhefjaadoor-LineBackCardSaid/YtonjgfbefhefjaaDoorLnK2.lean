/- Line's Check: a command that is one. -/
import Derived.Test.YtonjgfbefhefjaaDoorLnK
import Derived.IntWalk
set_option linter.unusedVariables false
set_option linter.unusedSimpArgs false
namespace Go.Proofs.YtonjgfbefhefjaaDoor.Ln
open Go Go.RowKit Go.Proofs.YtonjgfbefhefjaaDoor.Ow
def okTo (l : List (List UInt8)) (j : Nat) : Prop := ∀ i x, i < j → l[i]? = some x → okN x
theorem okTo.next {l : List (List UInt8)} {j : Nat} {x : List UInt8} (h : okTo l j) (hx : l[j]? = some x) (ho : okN x) : okTo l (j + 1) := fun i y hi hy => by
  by_cases e : i = j
  · subst e; rw [hx] at hy; cases hy; exact ho
  · exact h i y (by omega) hy
theorem okTo.all {l : List (List UInt8)} {j : Nat} (h : okTo l j) (hj : j = l.length) : ∀ x ∈ l, okN x := fun x hx => by
  obtain ⟨i, hi⟩ := List.getElem?_of_mem hx
  exact h i x (by have := (List.getElem?_eq_some_iff.1 hi).1; omega) hi
def rgTo (l : List Int) (j : Nat) : Prop := ∀ i x, i < j → l[i]? = some x → 0 ≤ x ∧ x ≤ 999999999
theorem rgTo.next {l : List Int} {j : Nat} {x : Int} (h : rgTo l j) (hx : l[j]? = some x) (ho : 0 ≤ x ∧ x ≤ 999999999) : rgTo l (j + 1) := fun i y hi hy => by
  by_cases e : i = j
  · subst e; rw [hx] at hy; cases hy; exact ho
  · exact h i y (by omega) hy
theorem rgTo.all {l : List Int} {j : Nat} (h : rgTo l j) (hj : j = l.length) : ∀ x ∈ l, 0 ≤ x ∧ x ≤ 999999999 := fun x hx => by
  obtain ⟨i, hi⟩ := List.getElem?_of_mem hx
  exact h i x (by have := (List.getElem?_eq_some_iff.1 hi).1; omega) hi
theorem Count_same (sh : List UInt8) (c : UInt8) (w : World) : Calls Tryd.prog 27 #[.string (strB sh), .string ⟨#[c]⟩] w fun e w' => e = .returned (.int .i64 (sh.count c : Nat)) ∧ w = w' :=
  (Count_any sh c w).mono fun e w' h => ⟨h.1, h.2.symm⟩
set_option maxRecDepth 20000 in
set_option maxHeartbeats 8000000 in
theorem Check_some (w : World) (a : Nat → Addr) (hX : Ctx w a) (c : Cm) (A1 A2 : Option Addr) (k1 k2 : Nat) (hV : CVal w c A1 k1 A2 k2) (sh : List UInt8) (hsh : shp c.word = some sh) :
    Calls Tryd.prog 13 #[.agg #[.string (strB c.word), .slice A1 c.names.length k1, .slice A2 c.nums.length k2, .string (strB c.text)]] w fun e w' => e = .returned (Ei.evA a (chk c)) ∧ Below w.heap.size w w' := by
  have HX := Lib.hid hX
  have HV := Lib.hid hV
  have HSS := Lib.hid hsh
  have HSH := Lib.hid (show ∀ W : World, TabR W → Calls Tryd.prog 17 #[.string (strB c.word)] W fun e w' => e = .returned (.tuple #[.string (strB sh), .bool true]) ∧ Below W.heap.size W w' from fun W hT => by
    have := Shape_any (strB c.word) W hT
    rw [show shpV (strB c.word).data.toList = (sh, true) by rw [show (strB c.word).data.toList = c.word from rfl]; unfold shpV; rw [hsh]] at this
    exact this)
  obtain ⟨t1, t2, t3, t4⟩ := cnt_tab _ (shp_mem hsh)
  obtain ⟨n1, hn1⟩ : ∃ n, n = sh.count 110 := ⟨_, rfl⟩
  obtain ⟨n2, hn2⟩ : ∃ n, n = sh.count 42 := ⟨_, rfl⟩
  obtain ⟨n3, hn3⟩ : ∃ n, n = sh.count 35 := ⟨_, rfl⟩
  obtain ⟨n4, hn4⟩ : ∃ n, n = sh.count 116 := ⟨_, rfl⟩
  have HC1 := Lib.hid (fun W => hn1 ▸ Count_same sh 110 W)
  have HC2 := Lib.hid (fun W => hn2 ▸ Count_same sh 42 W)
  have HC3 := Lib.hid (fun W => hn3 ▸ Count_any sh 35 W)
  have HC4 := Lib.hid (fun W => hn4 ▸ Count_any sh 116 W)
  have HOK := Lib.hid (show ok sh c ↔ (n1 ≤ c.names.length ∧ c.names.length ≤ n1 + 16 * n2 ∧ c.nums.length = n3 ∧ c.text.length ≤ 900 * n4 ∧ (∀ x ∈ c.names, okN x) ∧ ∀ k ∈ c.nums, 0 ≤ k ∧ k ≤ 999999999) by rw [hn1, hn2, hn3, hn4]; rfl)
  simp only at t1 t2 t3 t4
  rw [← hn1] at t1; rw [← hn2] at t2; rw [← hn3] at t3; rw [← hn4] at t4
  have hnb := hV.nb
  have hkb := hV.kb
  have htb := hV.ts
  have hst : (strB c.text).size = c.text.length := strB_size _
  clear hX hV hsh hn1 hn2 hn3 hn4
  have HBX := Lib.hid (show Below w.heap.size w (w.alloc (.cells #[.string (strB c.word), .slice A1 c.names.length k1, .slice A2 c.nums.length k2, .string (strB c.text)] 27)) from (Below.refl _ _).alloc (Nat.le_refl _) _)
  have HKX := Lib.hid (Rg.Blk.new w #[.string (strB c.word), .slice A1 c.names.length k1, .slice A2 c.nums.length k2, .string (strB c.text)] 27)
  by_cases hA : c.names.length < n1
  · have d1 : decide (c.names.length < n1) = true := by rw [decide_eq_true_iff]; omega
    have HQ := Lib.hid (show chk c = 3 from chk_bad HSS.out (by rw [HOK.out]; omega))
    clear hA
    go_enter Tryd.func13, Tryd.ntmps13
    go_upto_region 6 with (first
      | (go_at_call 17; refine (HSH.out _ (HX.out.below HBX.out).tabR).mono ?_; rintro e w1 ⟨rfl, hb1⟩; skip; have HB1 := Lib.hid (HBX.out.trans (Below.mono hb1 HBX.out.size)); have HK1 := Lib.hid (HKX.out.below hb1 HKX.out.lt); have x1 := HK1.out.cell 1 (v := .slice A1 c.names.length k1) rfl; have x2 := HK1.out.cell 2 (v := .slice A2 c.nums.length k2) rfl; have x3 := HK1.out.cell 3 (v := .string (strB c.text)) rfl; clear hb1)
      | (go_at_call 27; with_reducible (refine (HC1.out _).mono ?_); rintro e w' ⟨rfl, rfl⟩)
      | (go_at_call 27; with_reducible (refine (HC2.out _).mono ?_); rintro e w' ⟨rfl, rfl⟩))
    have hl1 := HB1.out
    have ec : w1.cell? ⟨2, 0, none⟩ = some (.iface 124 (.pointer (some (a 3)))) := (HX.out.errs.below HB1.out).cell 2 (by decide)
    have g1 : IntKind.i64.wrap (900 * (n4 : Int)) = 900 * (n4 : Int) := IntWalk.i64_in _ (by omega)
    go_quiet ((go_at_call 27; first | (with_reducible exact Calls.quiet_of_same (HC3.out _)) | (with_reducible exact Calls.quiet_of_same (HC4.out _))))
    clear g1 hl1
    go_wp2_with fail
    go_ret
    exact ⟨by rw [HQ.out]; rfl, HB1.out.trans (below_drewN _ _)⟩
  · by_cases hB : n1 + 16 * n2 < c.names.length
    · have d1 : decide (c.names.length < n1) = false := by rw [decide_eq_false_iff_not]; omega
      have d2 : decide ((n1 : Int) + 16 * (n2 : Int) < (c.names.length : Int)) = true := by rw [decide_eq_true_iff]; omega
      have HQ := Lib.hid (show chk c = 3 from chk_bad HSS.out (by rw [HOK.out]; omega))
      clear hA hB
      go_enter Tryd.func13, Tryd.ntmps13
      go_upto_region 6 with (first
        | (go_at_call 17; refine (HSH.out _ (HX.out.below HBX.out).tabR).mono ?_; rintro e w1 ⟨rfl, hb1⟩; skip; have HB1 := Lib.hid (HBX.out.trans (Below.mono hb1 HBX.out.size)); have HK1 := Lib.hid (HKX.out.below hb1 HKX.out.lt); have x1 := HK1.out.cell 1 (v := .slice A1 c.names.length k1) rfl; have x2 := HK1.out.cell 2 (v := .slice A2 c.nums.length k2) rfl; have x3 := HK1.out.cell 3 (v := .string (strB c.text)) rfl; clear hb1)
        | (go_at_call 27; with_reducible (refine (HC1.out _).mono ?_); rintro e w' ⟨rfl, rfl⟩)
        | (go_at_call 27; with_reducible (refine (HC2.out _).mono ?_); rintro e w' ⟨rfl, rfl⟩))
      have hl1 := HB1.out
      have ec : w1.cell? ⟨2, 0, none⟩ = some (.iface 124 (.pointer (some (a 3)))) := (HX.out.errs.below HB1.out).cell 2 (by decide)
      have g1 : IntKind.i64.wrap (900 * (n4 : Int)) = 900 * (n4 : Int) := IntWalk.i64_in _ (by omega)
      go_quiet ((go_at_call 27; first | (with_reducible exact Calls.quiet_of_same (HC3.out _)) | (with_reducible exact Calls.quiet_of_same (HC4.out _))))
      clear g1 hl1
      go_wp2_with fail
      go_ret
      exact ⟨by rw [HQ.out]; rfl, HB1.out.trans (below_drewN _ _)⟩
    · by_cases hC : c.nums.length ≠ n3
      · have d1 : decide (c.names.length < n1) = false := by rw [decide_eq_false_iff_not]; omega
        have d2 : decide ((n1 : Int) + 16 * (n2 : Int) < (c.names.length : Int)) = false := by rw [decide_eq_false_iff_not]; omega
        have d3 : (c.nums.length == n3) = false := by rw [beq_eq_false_iff_ne]; exact hC
        have d4 : (c.nums.length != n3) = true := by rw [bne_iff_ne]; exact hC
        have d5 : ((c.nums.length : Int) == (n3 : Int)) = false := by rw [beq_eq_false_iff_ne]; omega
        have d6 : ((c.nums.length : Int) != (n3 : Int)) = true := by rw [bne_iff_ne]; omega
        have HQ := Lib.hid (show chk c = 3 from chk_bad HSS.out (by rw [HOK.out]; exact fun e => hC e.2.2.1))
        clear hA hB hC
        go_enter Tryd.func13, Tryd.ntmps13
        go_upto_region 6 with (first
          | (go_at_call 17; refine (HSH.out _ (HX.out.below HBX.out).tabR).mono ?_; rintro e w1 ⟨rfl, hb1⟩; skip; have HB1 := Lib.hid (HBX.out.trans (Below.mono hb1 HBX.out.size)); have HK1 := Lib.hid (HKX.out.below hb1 HKX.out.lt); have x1 := HK1.out.cell 1 (v := .slice A1 c.names.length k1) rfl; have x2 := HK1.out.cell 2 (v := .slice A2 c.nums.length k2) rfl; have x3 := HK1.out.cell 3 (v := .string (strB c.text)) rfl; clear hb1)
          | (go_at_call 27; with_reducible (refine (HC1.out _).mono ?_); rintro e w' ⟨rfl, rfl⟩)
          | (go_at_call 27; with_reducible (refine (HC2.out _).mono ?_); rintro e w' ⟨rfl, rfl⟩))
        have hl1 := HB1.out
        have ec : w1.cell? ⟨2, 0, none⟩ = some (.iface 124 (.pointer (some (a 3)))) := (HX.out.errs.below HB1.out).cell 2 (by decide)
        have g1 : IntKind.i64.wrap (900 * (n4 : Int)) = 900 * (n4 : Int) := IntWalk.i64_in _ (by omega)
        go_quiet ((go_at_call 27; first | (with_reducible exact Calls.quiet_of_same (HC3.out _)) | (with_reducible exact Calls.quiet_of_same (HC4.out _))))
        clear g1 hl1
        go_wp2_with fail
        go_ret
        exact ⟨by rw [HQ.out]; rfl, HB1.out.trans (below_drewN _ _)⟩
      · have hC : c.nums.length = n3 := by omega
        by_cases hD : 900 * n4 < c.text.length
        · have d1 : decide (c.names.length < n1) = false := by rw [decide_eq_false_iff_not]; omega
          have d2 : decide ((n1 : Int) + 16 * (n2 : Int) < (c.names.length : Int)) = false := by rw [decide_eq_false_iff_not]; omega
          have d3 : (c.nums.length == n3) = true := by rw [beq_iff_eq]; exact hC
          have d4 : (c.nums.length != n3) = false := by rw [bne_eq_false_iff_eq]; exact hC
          have d5 : ((c.nums.length : Int) == (n3 : Int)) = true := by rw [beq_iff_eq]; omega
          have d6 : ((c.nums.length : Int) != (n3 : Int)) = false := by rw [bne_eq_false_iff_eq]; omega
          have d7 : decide (900 * (n4 : Int) < (c.text.length : Int)) = true := by rw [decide_eq_true_iff]; omega
          have HQ := Lib.hid (show chk c = 3 from chk_bad HSS.out (by rw [HOK.out]; omega))
          clear hA hB hC hD
          go_enter Tryd.func13, Tryd.ntmps13
          go_upto_region 6 with (first
            | (go_at_call 17; refine (HSH.out _ (HX.out.below HBX.out).tabR).mono ?_; rintro e w1 ⟨rfl, hb1⟩; skip; have HB1 := Lib.hid (HBX.out.trans (Below.mono hb1 HBX.out.size)); have HK1 := Lib.hid (HKX.out.below hb1 HKX.out.lt); have x1 := HK1.out.cell 1 (v := .slice A1 c.names.length k1) rfl; have x2 := HK1.out.cell 2 (v := .slice A2 c.nums.length k2) rfl; have x3 := HK1.out.cell 3 (v := .string (strB c.text)) rfl; clear hb1)
            | (go_at_call 27; with_reducible (refine (HC1.out _).mono ?_); rintro e w' ⟨rfl, rfl⟩)
            | (go_at_call 27; with_reducible (refine (HC2.out _).mono ?_); rintro e w' ⟨rfl, rfl⟩))
          have hl1 := HB1.out
          have ec : w1.cell? ⟨2, 0, none⟩ = some (.iface 124 (.pointer (some (a 3)))) := (HX.out.errs.below HB1.out).cell 2 (by decide)
          have g1 : IntKind.i64.wrap (900 * (n4 : Int)) = 900 * (n4 : Int) := IntWalk.i64_in _ (by omega)
          go_quiet ((go_at_call 27; first | (with_reducible exact Calls.quiet_of_same (HC3.out _)) | (with_reducible exact Calls.quiet_of_same (HC4.out _))))
          clear g1 hl1
          go_wp2_with fail
          go_ret
          exact ⟨by rw [HQ.out]; rfl, HB1.out.trans (below_drewN _ _)⟩
        · have d1 : decide (c.names.length < n1) = false := by rw [decide_eq_false_iff_not]; omega
          have d2 : decide ((n1 : Int) + 16 * (n2 : Int) < (c.names.length : Int)) = false := by rw [decide_eq_false_iff_not]; omega
          have d3 : (c.nums.length == n3) = true := by rw [beq_iff_eq]; exact hC
          have d4 : (c.nums.length != n3) = false := by rw [bne_eq_false_iff_eq]; exact hC
          have d5 : ((c.nums.length : Int) == (n3 : Int)) = true := by rw [beq_iff_eq]; omega
          have d6 : ((c.nums.length : Int) != (n3 : Int)) = false := by rw [bne_eq_false_iff_eq]; omega
          have d7 : decide (900 * (n4 : Int) < (c.text.length : Int)) = false := by rw [decide_eq_false_iff_not]; omega
          have HBD := Lib.hid (show n1 ≤ c.names.length ∧ c.names.length ≤ n1 + 16 * n2 ∧ c.nums.length = n3 ∧ c.text.length ≤ 900 * n4 from ⟨by omega, by omega, hC, by omega⟩)
          clear hA hB hC hD
          go_enter Tryd.func13, Tryd.ntmps13
          go_upto_region 6 with (first
            | (go_at_call 17; refine (HSH.out _ (HX.out.below HBX.out).tabR).mono ?_; rintro e w1 ⟨rfl, hb1⟩; skip; have HB1 := Lib.hid (HBX.out.trans (Below.mono hb1 HBX.out.size)); have HK1 := Lib.hid (HKX.out.below hb1 HKX.out.lt); have x1 := HK1.out.cell 1 (v := .slice A1 c.names.length k1) rfl; have x2 := HK1.out.cell 2 (v := .slice A2 c.nums.length k2) rfl; have x3 := HK1.out.cell 3 (v := .string (strB c.text)) rfl; clear hb1)
            | (go_at_call 27; with_reducible (refine (HC1.out _).mono ?_); rintro e w' ⟨rfl, rfl⟩)
            | (go_at_call 27; with_reducible (refine (HC2.out _).mono ?_); rintro e w' ⟨rfl, rfl⟩))
          have hl1 := HB1.out
          have ec : w1.cell? ⟨2, 0, none⟩ = some (.iface 124 (.pointer (some (a 3)))) := (HX.out.errs.below HB1.out).cell 2 (by decide)
          have g1 : IntKind.i64.wrap (900 * (n4 : Int)) = 900 * (n4 : Int) := IntWalk.i64_in _ (by omega)
          go_quiet ((go_at_call 27; first | (with_reducible exact Calls.quiet_of_same (HC3.out _)) | (with_reducible exact Calls.quiet_of_same (HC4.out _))))
          clear g1 hl1
          go_wp2_with fail
          obtain ⟨W2, hW2⟩ : ∃ W2, W2 = w1.drewN nq := ⟨_, rfl⟩
          rw [← hW2]
          have HB2 := Lib.hid (show Below w.heap.size w W2 by rw [hW2]; exact HB1.out.trans (below_drewN _ _))
          have y2 : W2.cell? ⟨w.heap.size, 2, none⟩ = some (.slice A2 c.nums.length k2) := by rw [hW2]; exact x2
          clear hW2 x1 x2 x3 ec
          have HV2 := Lib.hid (HV.out.below HB2.out)
          have ec : W2.cell? ⟨2, 0, none⟩ = some (.iface 124 (.pointer (some (a 3)))) := (HX.out.errs.below HB2.out).cell 2 (by decide)
          go_loop [60] (fun i => ∃ j : Nat, j ≤ c.names.length ∧ i = .int .i64 j ∧ okTo c.names j) (fun i => c.names.length - (intOf i).toNat)
          case atStart => exact ⟨0, Nat.zero_le _, rfl, fun i x hi => by omega⟩
          case round =>
            obtain ⟨j, hj, rfl, hok⟩ := hrel
            have HO := Lib.hid hok
            clear hok
            by_cases hlt : j < c.names.length
            · have hd : decide (j < c.names.length) = true := decide_eq_true hlt
              have hij : (j : Int) < (c.names.length : Int) := by omega
              obtain ⟨b, o, hA, hb, hcl⟩ := HV2.out.n.at_ (j := j) (by rw [List.length_map]; exact hlt)
              obtain ⟨x, hx⟩ : ∃ x, c.names[j]? = some x := ⟨_, List.getElem?_eq_getElem hlt⟩
              have hcell : W2.cell? ⟨b, o + j, none⟩ = some (.string (strB x)) := by
                rw [hcl]
                have := (List.getElem?_eq_some_iff.1 hx).2
                simp [encS, this]
              have HXJ := Lib.hid hx
              have hxs : (strB x).size ≤ 1000000 := by
                have h1 := HV2.out.ns x (List.mem_of_getElem? hx)
                rw [strB_size]; omega
              subst hA
              clear hcl hx hb
              by_cases ho : okN x
              · have HN := Lib.hid (HO.out.next HXJ.out ho)
                have HVI := Lib.hid (show ∀ W, Calls Tryd.prog 28 #[.string (strB x)] W fun e w' => e = .returned (.bool true) ∧ W = w' from fun W => by
                  have := visible_any (strB x) W hxs
                  rw [show okB (strB x).data.toList = true from decide_eq_true ho] at this
                  exact this)
                clear ho
                go_wp2_with (go_at_call 28; refine (HVI.out _).mono ?_; rintro e w' ⟨rfl, rfl⟩)
                go_round
                case rel => exact ⟨j + 1, by omega, by go_num, HN.out⟩
                case measure => simp [intOf]; omega
              · have HQ := Lib.hid (show chk c = 3 from chk_bad HSS.out (by rw [HOK.out]; exact fun e => ho (e.2.2.2.2.1 x (List.mem_of_getElem? HXJ.out))))
                have HVI := Lib.hid (show ∀ W, Calls Tryd.prog 28 #[.string (strB x)] W fun e w' => e = .returned (.bool false) ∧ W = w' from fun W => by
                  have := visible_any (strB x) W hxs
                  rw [show okB (strB x).data.toList = false from decide_eq_false ho] at this
                  exact this)
                clear ho
                go_wp2_with (go_at_call 28; refine (HVI.out _).mono ?_; rintro e w' ⟨rfl, rfl⟩)
                go_ret
                exact ⟨by rw [HQ.out]; rfl, HB2.out⟩
            · have hd : decide (j < c.names.length) = false := decide_eq_false hlt
              have HNA := Lib.hid (HO.out.all (by omega))
              clear hlt HO
              go_wp2_with fail
              go_loop [72] (fun i => ∃ j : Nat, j ≤ c.nums.length ∧ i = .int .i64 j ∧ rgTo c.nums j) (fun i => c.nums.length - (intOf i).toNat)
              case atStart => exact ⟨0, Nat.zero_le _, rfl, fun i x hi => by omega⟩
              case round =>
                obtain ⟨j, hj, rfl, hok⟩ := hrel
                have HO := Lib.hid hok
                clear hok
                by_cases hlt : j < c.nums.length
                · have hd : decide (j < c.nums.length) = true := decide_eq_true hlt
                  have hij : (j : Int) < (c.nums.length : Int) := by omega
                  obtain ⟨b, o, hA, hb, hcl⟩ := HV2.out.k.at_ (j := j) (by rw [List.length_map]; exact hlt)
                  obtain ⟨x, hx⟩ : ∃ x, c.nums[j]? = some x := ⟨_, List.getElem?_eq_getElem hlt⟩
                  have hcell : W2.cell? ⟨b, o + j, none⟩ = some (.int .i64 x) := by
                    rw [hcl]
                    have := (List.getElem?_eq_some_iff.1 hx).2
                    simp [this]
                  have HXJ := Lib.hid hx
                  subst hA
                  clear hcl hx hb
                  have hcs : x < 0 ∨ 999999999 < x ∨ (0 ≤ x ∧ x ≤ 999999999) := by omega
                  rcases hcs with hc | hc | hc
                  · have HQ := Lib.hid (show chk c = 3 from chk_bad HSS.out (by rw [HOK.out]; exact fun e => by have := e.2.2.2.2.2 x (List.mem_of_getElem? HXJ.out); omega))
                    have e1 : decide (x < 0) = true := decide_eq_true hc
                    clear hc
                    go_wp2_with fail
                    go_ret
                    exact ⟨by rw [HQ.out]; rfl, HB2.out⟩
                  · have HQ := Lib.hid (show chk c = 3 from chk_bad HSS.out (by rw [HOK.out]; exact fun e => by have := e.2.2.2.2.2 x (List.mem_of_getElem? HXJ.out); omega))
                    have e1 : decide (x < 0) = false := by rw [decide_eq_false_iff_not]; omega
                    have e2 : decide (999999999 < x) = true := decide_eq_true hc
                    clear hc
                    go_wp2_with fail
                    go_ret
                    exact ⟨by rw [HQ.out]; rfl, HB2.out⟩
                  · have HN := Lib.hid (HO.out.next HXJ.out hc)
                    have e1 : decide (x < 0) = false := by rw [decide_eq_false_iff_not]; omega
                    have e2 : decide (999999999 < x) = false := by rw [decide_eq_false_iff_not]; omega
                    clear hc
                    go_wp2_with fail
                    go_round
                    case rel => exact ⟨j + 1, by omega, by go_num, HN.out⟩
                    case measure => simp [intOf]; omega
                · have hd : decide (j < c.nums.length) = false := decide_eq_false hlt
                  have HQ := Lib.hid (show chk c = 0 from chk_ok HSS.out (by
                    rw [HOK.out]
                    exact ⟨HBD.out.1, HBD.out.2.1, HBD.out.2.2.1, HBD.out.2.2.2, HNA.out, HO.out.all (by omega)⟩))
                  clear hlt HO
                  go_wp2_with fail
                  go_ret
                  exact ⟨by rw [HQ.out]; rfl, HB2.out⟩
theorem Check_any (w : World) (a : Nat → Addr) (hX : Ctx w a) (c : Cm) (A1 A2 : Option Addr) (k1 k2 : Nat) (hV : CVal w c A1 k1 A2 k2) :
    Calls Tryd.prog 13 #[.agg #[.string (strB c.word), .slice A1 c.names.length k1, .slice A2 c.nums.length k2, .string (strB c.text)]] w fun e w' => e = .returned (Ei.evA a (chk c)) ∧ Below w.heap.size w w' := by
  cases hsh : shp c.word with
  | none => exact Check_none w a hX c A1 A2 k1 k2 hsh
  | some sh => exact Check_some w a hX c A1 A2 k1 k2 hV sh hsh
end Go.Proofs.YtonjgfbefhefjaaDoor.Ln
