/- Line: the reference's Line. -/
import Derived.Test.YtonjgfbefhefjaaDoorLnL1
import Derived.Test.YtonjgfbefhefjaaDoorLnF
import Derived.IntWalk
set_option linter.unusedVariables false
set_option linter.unusedSimpArgs false
namespace Go.Proofs.YtonjgfbefhefjaaDoor.Ln
open Go Go.RowKit Go.Proofs.YtonjgfbefhefjaaDoor.Ow
theorem bnf_lit {S : ByteArray} {l : List UInt8} (h : S.data.toList = l) : (S.toList != l) = false := by rw [bne, beq_lit h]; rfl
theorem bnt_lit {S : ByteArray} {l : List UInt8} (h : S.data.toList ≠ l) : (S.toList != l) = true := by rw [bne, bne_lit h]; rfl
def LTR (c : Cm) (sh : List UInt8) (i a b tx : Nat) (s n : Value) : Prop := ∃ (q : Nat) (ac : List UInt8), s = .string (strB ac) ∧ n = .int .i64 q ∧ LT c sh i a b tx q ac
def LR (Y : World) (c : Cm) (sh : List UInt8) (s n k t i : Value) (W : World) : Prop := ∃ (i' a b tx : Nat) (ac : List UInt8), s = .string (strB ac) ∧ n = .int .i64 a ∧ k = .int .i64 b ∧ t = .int .i64 tx ∧ i = .int .i64 i' ∧ LJ c sh i' a b tx ac ∧ Below Y.heap.size Y W
set_option maxRecDepth 20000 in
set_option maxHeartbeats 16000000 in
theorem RefLine_some (w : World) (a : Nat → Addr) (hX : Ctx w a) (c : Cm) (A1 A2 : Option Addr) (k1 k2 : Nat) (hV : CVal w c A1 k1 A2 k2) (sh : List UInt8) (hsh : shp c.word = some sh) :
    Calls Tryd.prog 15 #[.agg #[.string (strB c.word), .slice A1 c.names.length k1, .slice A2 c.nums.length k2, .string (strB c.text)]] w fun e w' => e = .returned (.tuple #[.string (strB (line c)), .int .i64 (chk c)]) ∧ Below w.heap.size w w' := by
  have HX := Lib.hid hX
  have HV := Lib.hid hV
  have HSS := Lib.hid hsh
  have HSH := Lib.hid (show ∀ W : World, Calls Tryd.prog 22 #[.string (strB c.word)] W fun e w' => e = .returned (.tuple #[.string (strB sh), .bool true]) ∧ W = w' from fun W => by
    have := RefShape_any (strB c.word) W
    rw [show shpV (strB c.word).data.toList = (sh, true) by rw [show (strB c.word).data.toList = c.word from rfl]; unfold shpV; rw [hsh]] at this
    exact this)
  have hnb := hV.nb
  have hkb := hV.kb
  have htb := hV.ts
  have hwb := hV.ws
  have hsl := (tab_sh _ (shp_mem hsh)).2.2
  simp only at hsl
  have hst : (strB c.text).size = c.text.length := strB_size _
  have hss : (strB sh).size = sh.length := strB_size _
  clear hX hV hsh
  have HBX := Lib.hid (show Below w.heap.size w (w.alloc (.cells #[.string (strB c.word), .slice A1 c.names.length k1, .slice A2 c.nums.length k2, .string (strB c.text)] 32)) from (Below.refl _ _).alloc (Nat.le_refl _) _)
  have HKX := Lib.hid (Rg.Blk.new w #[.string (strB c.word), .slice A1 c.names.length k1, .slice A2 c.nums.length k2, .string (strB c.text)] 32)
  go_enter Tryd.func15, Tryd.ntmps15
  go_wp2_with (go_at_call 22; refine (HSH.out _).mono ?_; rintro e w1 ⟨rfl, rfl⟩)
  generalize w.alloc (.cells #[.string (strB c.word), .slice A1 c.names.length k1, .slice A2 c.nums.length k2, .string (strB c.text)] 32) = Y at *
  go_loopw [6, 7, 8, 9, 10] (fun s n k t i W => LR Y c sh s n k t i W) (fun _ _ _ _ i _ => sh.length - (intOf i).toNat)
  case atStart => exact ⟨0, 0, 0, 0, c.word, rfl, rfl, rfl, rfl, rfl, ⟨Nat.zero_le _, Nat.zero_le _, Nat.zero_le _, Nat.zero_le _, by omega, [], by simp [tl], by simp⟩, Below.refl _ _⟩
  case round =>
    obtain ⟨i, a', b, tx, ac, rfl, rfl, rfl, rfl, rfl, hi, hb⟩ := hrel
    have HI := Lib.hid hi
    have HB := Lib.hid hb
    have HBW := Lib.hid (HBX.out.trans (hb.mono HBX.out.size))
    have HKW := Lib.hid (HKX.out.below hb HKX.out.lt)
    obtain ⟨hil0, hal, hbl, htl, hlen, _⟩ := hi
    have hacs : (strB ac).size ≤ 300000000 := by rw [strB_size]; omega
    have x1 := HKW.out.cell 1 (v := .slice A1 c.names.length k1) rfl; have x2 := HKW.out.cell 2 (v := .slice A2 c.nums.length k2) rfl; have x3 := HKW.out.cell 3 (v := .string (strB c.text)) rfl
    clear hb
    by_cases hlt : i < sh.length
    · have hd : decide (i < sh.length) = true := decide_eq_true hlt
      have hij0 : (i : Int) < (sh.length : Int) := by omega
      have hlt2 : i < (strB sh).size := by rw [strB_size]; exact hlt
      have HYY := Lib.hid (get_list (strB sh) i hlt2)
      have HSX := Lib.hid (show sh[i]? = some (strB sh)[i] from HYY.out)
      by_cases hy : (strB sh)[i] = 35
      · have e35 : (((strB sh)[i].toNat : Int) == 35) = true := by rw [hy]; rfl
        have e116 : (((strB sh)[i].toNat : Int) == 116) = false := by rw [hy]; rfl
        have e42 : (((strB sh)[i].toNat : Int) == 42) = false := by rw [hy]; rfl
        have HS2 := Lib.hid (show sh[i]? = some 35 by rw [HSX.out, hy])
        clear hy
        by_cases hltb : b < c.nums.length
        · obtain ⟨ba, o, hA, hba, hcl⟩ := HV.out.k.at_ (j := b) (by rw [List.length_map]; exact hltb)
          obtain ⟨x, hx⟩ : ∃ x, c.nums[b]? = some x := ⟨_, List.getElem?_eq_getElem hltb⟩
          have hcell : wr.cell? ⟨ba, o + b, none⟩ = some (.int .i64 x) := by
            refine (HBW.out.cell (p := ⟨ba, o + b, none⟩) hba).trans ?_
            rw [hcl]
            have := (List.getElem?_eq_some_iff.1 hx).2
            simp [this]
          have HXJ := Lib.hid hx
          subst hA
          clear hcl hx hba
          have hkr := HV.out.kw x (List.mem_of_getElem? HXJ.out)
          have db : decide (c.nums.length ≤ b) = false := by rw [decide_eq_false_iff_not]; omega
          have hij : (b : Int) < (c.nums.length : Int) := by omega
          have dbi : decide ((c.nums.length : Int) ≤ (b : Int)) = false := by rw [decide_eq_false_iff_not]; omega
          have hcs : x < 0 ∨ 999999999 < x ∨ (0 ≤ x ∧ x ≤ 999999999) := by omega
          rcases hcs with hc | hc | hc
          · have HQ := Lib.hid (res_bad HSS.out (HI.out.num_bad HS2.out (by rintro ⟨k, e1, e2⟩; rw [HXJ.out] at e1; cases e1; omega)))
            have e1 : decide (x < 0) = true := decide_eq_true hc
            clear hc
            go_wp2_with fail
            refine bodyPost_ret (v := .tuple #[.string ⟨#[]⟩, .int .i64 3]) (by simp [results, Tryd.results15, go_sem]) rfl ?_
            exact ⟨by rw [HQ.out.1, HQ.out.2]; rfl, HBW.out⟩
          · have HQ := Lib.hid (res_bad HSS.out (HI.out.num_bad HS2.out (by rintro ⟨k, e1, e2⟩; rw [HXJ.out] at e1; cases e1; omega)))
            have e1 : decide (x < 0) = false := by rw [decide_eq_false_iff_not]; omega
            have e2 : decide (999999999 < x) = true := decide_eq_true hc
            clear hc
            go_wp2_with fail
            refine bodyPost_ret (v := .tuple #[.string ⟨#[]⟩, .int .i64 3]) (by simp [results, Tryd.results15, go_sem]) rfl ?_
            exact ⟨by rw [HQ.out.1, HQ.out.2]; rfl, HBW.out⟩
          · have HN := Lib.hid (HI.out.num HS2.out HXJ.out hc)
            have e1 : decide (x < 0) = false := by rw [decide_eq_false_iff_not]; omega
            have e2 : decide (999999999 < x) = false := by rw [decide_eq_false_iff_not]; omega
            have HIT := Lib.hid (show ∀ W, Below w.heap.size w W → Calls Tryd.prog 31 #[.int .i64 x] W fun e w' => e = .returned (.string (strB (Lib.itoa x))) ∧ Below W.heap.size W w' from fun W hW => Itoa_any x hkr.1 hkr.2 W (HX.out.below hW).tabP)
            have HSE := Lib.hid (show Value.string (strB ac ++ (⟨#[32]⟩ ++ strB (Lib.itoa x))) = .string (strB (ac ++ 32 :: Lib.itoa x)) from rfl)
            have hil := itoa_len hc
            have hsz : (strB (Lib.itoa x)).size ≤ 9 := by rw [strB_size]; exact hil
            clear hc
            go_wp2_with (go_at_call 31; refine (HIT.out _ HBW.out).mono ?_; rintro e w5 ⟨rfl, hb5⟩; skip; have HB5 := Lib.hid (HB.out.trans (hb5.mono HB.out.size)); clear hb5)
            go_roundw
            case rel =>
              first
                | exact ⟨i + 1, a', b + 1, tx, _, HSE.out, rfl, by go_num, rfl, by go_num, HN.out, HB5.out⟩
                | ((repeat apply Exists.intro); refine ⟨?_, rfl⟩; exact ⟨i + 1, a', b + 1, tx, _, HSE.out, rfl, by go_num, rfl, by go_num, HN.out, HB5.out⟩)
            case measure => (first | (simp [intOf]; done) | (simp [intOf]; omega))
        · have HQ := Lib.hid (res_bad HSS.out (HI.out.num_bad HS2.out (by rintro ⟨k, e1, e2⟩; exact hltb (List.getElem?_eq_some_iff.1 e1).1)))
          have db : decide (c.nums.length ≤ b) = true := by rw [decide_eq_true_iff]; omega
          have dbi : decide ((c.nums.length : Int) ≤ (b : Int)) = true := by rw [decide_eq_true_iff]; omega
          clear hltb
          go_wp2_with fail
          refine bodyPost_ret (v := .tuple #[.string ⟨#[]⟩, .int .i64 3]) (by simp [results, Tryd.results15, go_sem]) rfl ?_
          exact ⟨by rw [HQ.out.1, HQ.out.2]; rfl, HBW.out⟩
      · have h35 := hy
        clear hy
        by_cases hy : (strB sh)[i] = 116
        · have e35 : (((strB sh)[i].toNat : Int) == 35) = false := by rw [hy]; rfl
          have e116 : (((strB sh)[i].toNat : Int) == 116) = true := by rw [hy]; rfl
          have e42 : (((strB sh)[i].toNat : Int) == 42) = false := by rw [hy]; rfl
          have HS2 := Lib.hid (show sh[i]? = some 116 by rw [HSX.out, hy])
          clear hy h35
          by_cases hc : c.text.length ≤ 900
          · have HN := Lib.hid (HI.out.text HS2.out hc)
            have d1 : decide (900 < c.text.length) = false := by rw [decide_eq_false_iff_not]; omega
            have d2 : decide ((900 : Int) < (c.text.length : Int)) = false := by rw [decide_eq_false_iff_not]; omega
            have HIT := Lib.hid (show ∀ W, Calls Tryd.prog 32 #[.string (strB c.text)] W fun e w' => e = .returned (.string (strB (hexL c.text))) ∧ Below W.heap.size W w' from fun W => RefHex_any (strB c.text) W (by rw [strB_size]; omega))
            have HSE := Lib.hid (show Value.string (strB ac ++ (⟨#[32]⟩ ++ strB (hexL c.text))) = .string (strB (ac ++ 32 :: hexL c.text)) from rfl)
            have hil := hexL_len hc
            have hsz : (strB (hexL c.text)).size ≤ 1800 := by rw [strB_size]; exact hil
            clear hc
            go_wp2_with (go_at_call 32; refine (HIT.out _).mono ?_; rintro e w5 ⟨rfl, hb5⟩; skip; have HB5 := Lib.hid (HB.out.trans (hb5.mono HB.out.size)); clear hb5)
            go_roundw
            case rel =>
              first
                | exact ⟨i + 1, a', b, tx + 1, _, HSE.out, rfl, rfl, by go_num, by go_num, HN.out, HB5.out⟩
                | ((repeat apply Exists.intro); refine ⟨?_, rfl⟩; exact ⟨i + 1, a', b, tx + 1, _, HSE.out, rfl, rfl, by go_num, by go_num, HN.out, HB5.out⟩)
            case measure => (first | (simp [intOf]; done) | (simp [intOf]; omega))
          · have HQ := Lib.hid (res_bad HSS.out (HI.out.text_bad HS2.out hc))
            have d1 : decide (900 < c.text.length) = true := by rw [decide_eq_true_iff]; omega
            have d2 : decide ((900 : Int) < (c.text.length : Int)) = true := by rw [decide_eq_true_iff]; omega
            clear hc
            go_wp2_with fail
            refine bodyPost_ret (v := .tuple #[.string ⟨#[]⟩, .int .i64 3]) (by simp [results, Tryd.results15, go_sem]) rfl ?_
            exact ⟨by rw [HQ.out.1, HQ.out.2]; rfl, HBW.out⟩
        · have h116 := hy
          clear hy
          by_cases hy : (strB sh)[i] = 42
          · have e35 : (((strB sh)[i].toNat : Int) == 35) = false := by rw [hy]; rfl
            have e116 : (((strB sh)[i].toNat : Int) == 116) = false := by rw [hy]; rfl
            have e42 : (((strB sh)[i].toNat : Int) == 42) = true := by rw [hy]; rfl
            have HS2 := Lib.hid (show sh[i]? = some 42 by rw [HSX.out, hy])
            clear hy h35 h116
            have g16 : IntKind.i64.wrap ((a' : Int) + 16) = (a' : Int) + 16 := IntWalk.i64_in _ (by omega)
            by_cases hc : c.names.length ≤ a' + 16
            · have d1 : decide ((a' : Int) + 16 < (c.names.length : Int)) = false := by rw [decide_eq_false_iff_not]; omega
              have d1n : decide (a' + 16 < c.names.length) = false := by rw [decide_eq_false_iff_not]; omega
              have HC16 := Lib.hid hc
              clear hc
              go_wp2_with fail
              go_loop [6, 7] (fun s n => LTR c sh i a' b tx s n) (fun _ n => c.names.length - (intOf n).toNat)
              case atStart => exact ⟨a', _, rfl, rfl, HI.out.star⟩
              case round =>
                obtain ⟨q, ac2, rfl, rfl, ht⟩ := hrel
                have HT := Lib.hid ht
                obtain ⟨hq1, hq2, hq3, _, _⟩ := ht
                have hac2 : (strB ac2).size ≤ 300000000 := by rw [strB_size]; omega
                by_cases hltq : q < c.names.length
                · obtain ⟨ba, o, hA, hba, hcl⟩ := HV.out.n.at_ (j := q) (by rw [List.length_map]; exact hltq)
                  obtain ⟨x, hx⟩ : ∃ x, c.names[q]? = some x := ⟨_, List.getElem?_eq_getElem hltq⟩
                  have hcell : wr.cell? ⟨ba, o + q, none⟩ = some (.string (strB x)) := by
                    refine (HBW.out.cell (p := ⟨ba, o + q, none⟩) hba).trans ?_
                    rw [hcl]
                    have := (List.getElem?_eq_some_iff.1 hx).2
                    simp [encS, this]
                  have HXJ := Lib.hid hx
                  subst hA
                  clear hcl hx hba
                  have dq : decide (q < c.names.length) = true := by rw [decide_eq_true_iff]; omega
                  have hij : (q : Int) < (c.names.length : Int) := by omega
                  have dqi : decide ((q : Int) < (c.names.length : Int)) = true := by rw [decide_eq_true_iff]; omega
                  by_cases ho : okN x
                  · have HN := Lib.hid (HT.out.next HXJ.out ho)
                    have hil := wn_len ho
                    have hsz : (strB (32 :: wn x)).size ≤ 65 := by rw [strB_size]; simp; omega
                    have HIT := Lib.hid (show ∀ W, Calls Tryd.prog 33 #[.string (strB x)] W fun e w' => e = .returned (.tuple #[.string (strB (32 :: wn x)), .bool true]) ∧ W = w' from fun W => by
                      have := Write_any (strB x) W (by have := HV.out.ns x (List.mem_of_getElem? HXJ.out); rw [strB_size]; omega)
                      rw [show okB (strB x).data.toList = true from decide_eq_true ho] at this
                      exact this)
                    have HSE := Lib.hid (show Value.string (strB ac2 ++ strB (32 :: wn x)) = .string (strB (ac2 ++ 32 :: wn x)) from rfl)
                    clear ho
                    go_wp2_with (go_at_call 33; refine (HIT.out _).mono ?_; rintro e w5 ⟨rfl, rfl⟩)
                    go_round
                    case rel => exact ⟨q + 1, _, HSE.out, by go_num, HN.out⟩
                    case measure => (first | (simp [intOf]; done) | (simp [intOf]; omega))
                  · have HQ := Lib.hid (res_bad HSS.out (HT.out.bad HS2.out HXJ.out ho))
                    have HIT := Lib.hid (show ∀ W, Calls Tryd.prog 33 #[.string (strB x)] W fun e w' => e = .returned (.tuple #[.string (strB (32 :: wn x)), .bool false]) ∧ W = w' from fun W => by
                      have := Write_any (strB x) W (by have := HV.out.ns x (List.mem_of_getElem? HXJ.out); rw [strB_size]; omega)
                      rw [show okB (strB x).data.toList = false from decide_eq_false ho] at this
                      exact this)
                    clear ho
                    go_wp2_with (go_at_call 33; refine (HIT.out _).mono ?_; rintro e w5 ⟨rfl, rfl⟩)
                    refine bodyPost_ret (v := .tuple #[.string ⟨#[]⟩, .int .i64 3]) (by simp [results, Tryd.results15, go_sem]) rfl ?_
                    exact ⟨by rw [HQ.out.1, HQ.out.2]; rfl, HBW.out⟩
                · have dq : decide (q < c.names.length) = false := by rw [decide_eq_false_iff_not]; omega
                  have dqi : decide ((q : Int) < (c.names.length : Int)) = false := by rw [decide_eq_false_iff_not]; omega
                  have HN := Lib.hid (HT.out.done HS2.out HC16.out (by omega) ⟨HI.out.bl, HI.out.tl⟩)
                  clear hltq
                  go_wp2_with fail
                  go_roundw
                  case rel =>
                    first
                      | exact ⟨i + 1, q, b, tx, _, rfl, rfl, rfl, rfl, by go_num, HN.out, HB.out⟩
                      | ((repeat apply Exists.intro); refine ⟨?_, rfl⟩; exact ⟨i + 1, q, b, tx, _, rfl, rfl, rfl, rfl, by go_num, HN.out, HB.out⟩)
                  case measure => (first | (simp [intOf]; done) | (simp [intOf]; omega))
            · have HQ := Lib.hid (res_bad HSS.out (HI.out.star_bad HS2.out hc))
              have d1 : decide ((a' : Int) + 16 < (c.names.length : Int)) = true := by rw [decide_eq_true_iff]; omega
              have d1n : decide (a' + 16 < c.names.length) = true := by rw [decide_eq_true_iff]; omega
              clear hc
              go_wp2_with fail
              refine bodyPost_ret (v := .tuple #[.string ⟨#[]⟩, .int .i64 3]) (by simp [results, Tryd.results15, go_sem]) rfl ?_
              exact ⟨by rw [HQ.out.1, HQ.out.2]; rfl, HBW.out⟩
          · have h42 := hy
            clear hy
            have e35 : (((strB sh)[i].toNat : Int) == 35) = false := by rw [beq_eq_false_iff_ne]; intro e; exact h35 (UInt8.toNat_inj.1 (by show (strB sh)[i].toNat = 35; omega))
            have e116 : (((strB sh)[i].toNat : Int) == 116) = false := by rw [beq_eq_false_iff_ne]; intro e; exact h116 (UInt8.toNat_inj.1 (by show (strB sh)[i].toNat = 116; omega))
            have e42 : (((strB sh)[i].toNat : Int) == 42) = false := by rw [beq_eq_false_iff_ne]; intro e; exact h42 (UInt8.toNat_inj.1 (by show (strB sh)[i].toNat = 42; omega))
            have HS2 := Lib.hid (show sh[i]? = some (strB sh)[i] from HSX.out)
            have H35 := Lib.hid h35
            have H116 := Lib.hid h116
            have H42 := Lib.hid h42
            clear h35 h116 h42
            by_cases hlta : a' < c.names.length
            · obtain ⟨ba, o, hA, hba, hcl⟩ := HV.out.n.at_ (j := a') (by rw [List.length_map]; exact hlta)
              obtain ⟨x, hx⟩ : ∃ x, c.names[a']? = some x := ⟨_, List.getElem?_eq_getElem hlta⟩
              have hcell : wr.cell? ⟨ba, o + a', none⟩ = some (.string (strB x)) := by
                refine (HBW.out.cell (p := ⟨ba, o + a', none⟩) hba).trans ?_
                rw [hcl]
                have := (List.getElem?_eq_some_iff.1 hx).2
                simp [encS, this]
              have HXJ := Lib.hid hx
              subst hA
              clear hcl hx hba
              have db : decide (c.names.length ≤ a') = false := by rw [decide_eq_false_iff_not]; omega
              have hij : (a' : Int) < (c.names.length : Int) := by omega
              have dbi : decide ((c.names.length : Int) ≤ (a' : Int)) = false := by rw [decide_eq_false_iff_not]; omega
              by_cases ho : okN x
              · have HN := Lib.hid (HI.out.name HS2.out H35.out H116.out H42.out HXJ.out ho)
                have hil := wn_len ho
                have hsz : (strB (32 :: wn x)).size ≤ 65 := by rw [strB_size]; simp; omega
                have HIT := Lib.hid (show ∀ W, Calls Tryd.prog 33 #[.string (strB x)] W fun e w' => e = .returned (.tuple #[.string (strB (32 :: wn x)), .bool true]) ∧ W = w' from fun W => by
                  have := Write_any (strB x) W (by have := HV.out.ns x (List.mem_of_getElem? HXJ.out); rw [strB_size]; omega)
                  rw [show okB (strB x).data.toList = true from decide_eq_true ho] at this
                  exact this)
                have HSE := Lib.hid (show Value.string (strB ac ++ strB (32 :: wn x)) = .string (strB (ac ++ 32 :: wn x)) from rfl)
                clear ho
                go_wp2_with (go_at_call 33; refine (HIT.out _).mono ?_; rintro e w5 ⟨rfl, rfl⟩)
                go_roundw
                case rel =>
                  first
                    | exact ⟨i + 1, a' + 1, b, tx, _, HSE.out, by go_num, rfl, rfl, by go_num, HN.out, HB.out⟩
                    | ((repeat apply Exists.intro); refine ⟨?_, rfl⟩; exact ⟨i + 1, a' + 1, b, tx, _, HSE.out, by go_num, rfl, rfl, by go_num, HN.out, HB.out⟩)
                case measure => (first | (simp [intOf]; done) | (simp [intOf]; omega))
              · have HQ := Lib.hid (res_bad HSS.out (HI.out.name_bad HS2.out H35.out H116.out H42.out (by rintro ⟨k, e1, e2⟩; rw [HXJ.out] at e1; cases e1; exact ho e2)))
                have HIT := Lib.hid (show ∀ W, Calls Tryd.prog 33 #[.string (strB x)] W fun e w' => e = .returned (.tuple #[.string (strB (32 :: wn x)), .bool false]) ∧ W = w' from fun W => by
                  have := Write_any (strB x) W (by have := HV.out.ns x (List.mem_of_getElem? HXJ.out); rw [strB_size]; omega)
                  rw [show okB (strB x).data.toList = false from decide_eq_false ho] at this
                  exact this)
                clear ho
                go_wp2_with (go_at_call 33; refine (HIT.out _).mono ?_; rintro e w5 ⟨rfl, rfl⟩)
                refine bodyPost_ret (v := .tuple #[.string ⟨#[]⟩, .int .i64 3]) (by simp [results, Tryd.results15, go_sem]) rfl ?_
                exact ⟨by rw [HQ.out.1, HQ.out.2]; rfl, HBW.out⟩
            · have HQ := Lib.hid (res_bad HSS.out (HI.out.name_bad HS2.out H35.out H116.out H42.out (by rintro ⟨k, e1, e2⟩; exact hlta (List.getElem?_eq_some_iff.1 e1).1)))
              have db : decide (c.names.length ≤ a') = true := by rw [decide_eq_true_iff]; omega
              have dbi : decide ((c.names.length : Int) ≤ (a' : Int)) = true := by rw [decide_eq_true_iff]; omega
              clear hlta
              go_wp2_with fail
              refine bodyPost_ret (v := .tuple #[.string ⟨#[]⟩, .int .i64 3]) (by simp [results, Tryd.results15, go_sem]) rfl ?_
              exact ⟨by rw [HQ.out.1, HQ.out.2]; rfl, HBW.out⟩
    · have hd : decide (i < sh.length) = false := decide_eq_false hlt
      by_cases h1 : a' = c.names.length
      · by_cases h2 : b = c.nums.length
        · have n1 : (a' != c.names.length) = false := by rw [bne_eq_false_iff_eq]; omega
          have n1b : (a' == c.names.length) = true := by rw [beq_iff_eq]; omega
          have n1i : ((a' : Int) != (c.names.length : Int)) = false := by rw [bne_eq_false_iff_eq]; omega
          have n1ib : ((a' : Int) == (c.names.length : Int)) = true := by rw [beq_iff_eq]; omega
          have n2 : (b != c.nums.length) = false := by rw [bne_eq_false_iff_eq]; omega
          have n2b : (b == c.nums.length) = true := by rw [beq_iff_eq]; omega
          have n2i : ((b : Int) != (c.nums.length : Int)) = false := by rw [bne_eq_false_iff_eq]; omega
          have n2ib : ((b : Int) == (c.nums.length : Int)) = true := by rw [beq_iff_eq]; omega
          by_cases h3 : tx = 0
          · have t3 : ((tx : Int) == 0) = true := by rw [beq_iff_eq]; omega
            by_cases h4 : c.text = []
            · have HQ := Lib.hid (HI.out.fin HSS.out (by omega) h1 h2 (fun e => e.2 h4))
              have t4 := beq_lit (S := strB c.text) (l := []) h4
              have t4' := bnf_lit (S := strB c.text) (l := []) h4
              clear h1 h2 h3 h4 hlt
              go_wp2_with fail
              refine bodyPost_ret (v := .tuple #[.string (strB ac), .int .i64 0]) (by simp [results, Tryd.results15, go_sem]) rfl ?_
              exact ⟨by rw [HQ.out.1, HQ.out.2]; rfl, HBW.out⟩
            · have HQ := Lib.hid (HI.out.fin_bad HSS.out (by omega) (by rintro ⟨e1, e2, e3⟩; exact e3 ⟨h3, h4⟩))
              have t4 := bne_lit (S := strB c.text) (l := []) h4
              have t4' := bnt_lit (S := strB c.text) (l := []) h4
              clear h1 h2 h3 h4 hlt
              go_wp2_with fail
              refine bodyPost_ret (v := .tuple #[.string ⟨#[]⟩, .int .i64 3]) (by simp [results, Tryd.results15, go_sem]) rfl ?_
              exact ⟨by rw [HQ.out.1, HQ.out.2]; rfl, HBW.out⟩
          · have t3 : ((tx : Int) == 0) = false := by rw [beq_eq_false_iff_ne]; omega
            have t3n : (tx == 0) = false := by rw [beq_eq_false_iff_ne]; omega
            have HQ := Lib.hid (HI.out.fin HSS.out (by omega) h1 h2 (fun e => h3 e.1))
            clear h1 h2 h3 hlt
            go_wp2_with fail
            refine bodyPost_ret (v := .tuple #[.string (strB ac), .int .i64 0]) (by simp [results, Tryd.results15, go_sem]) rfl ?_
            exact ⟨by rw [HQ.out.1, HQ.out.2]; rfl, HBW.out⟩
        · have HQ := Lib.hid (HI.out.fin_bad HSS.out (by omega) (by rintro ⟨e1, e2, e3⟩; exact h2 e2))
          have n1 : (a' != c.names.length) = false := by rw [bne_eq_false_iff_eq]; omega
          have n1b : (a' == c.names.length) = true := by rw [beq_iff_eq]; omega
          have n1i : ((a' : Int) != (c.names.length : Int)) = false := by rw [bne_eq_false_iff_eq]; omega
          have n1ib : ((a' : Int) == (c.names.length : Int)) = true := by rw [beq_iff_eq]; omega
          have n2 : (b != c.nums.length) = true := by rw [bne_iff_ne]; omega
          have n2b : (b == c.nums.length) = false := by rw [beq_eq_false_iff_ne]; omega
          have n2i : ((b : Int) != (c.nums.length : Int)) = true := by rw [bne_iff_ne]; omega
          have n2ib : ((b : Int) == (c.nums.length : Int)) = false := by rw [beq_eq_false_iff_ne]; omega
          clear h1 h2 hlt
          go_wp2_with fail
          refine bodyPost_ret (v := .tuple #[.string ⟨#[]⟩, .int .i64 3]) (by simp [results, Tryd.results15, go_sem]) rfl ?_
          exact ⟨by rw [HQ.out.1, HQ.out.2]; rfl, HBW.out⟩
      · have HQ := Lib.hid (HI.out.fin_bad HSS.out (by omega) (by rintro ⟨e1, e2, e3⟩; exact h1 e1))
        have n1 : (a' != c.names.length) = true := by rw [bne_iff_ne]; omega
        have n1b : (a' == c.names.length) = false := by rw [beq_eq_false_iff_ne]; omega
        have n1i : ((a' : Int) != (c.names.length : Int)) = true := by rw [bne_iff_ne]; omega
        have n1ib : ((a' : Int) == (c.names.length : Int)) = false := by rw [beq_eq_false_iff_ne]; omega
        clear h1 hlt
        go_wp2_with fail
        refine bodyPost_ret (v := .tuple #[.string ⟨#[]⟩, .int .i64 3]) (by simp [results, Tryd.results15, go_sem]) rfl ?_
        exact ⟨by rw [HQ.out.1, HQ.out.2]; rfl, HBW.out⟩
set_option maxRecDepth 20000 in
set_option maxHeartbeats 4000000 in
theorem RefLine_none (w : World) (c : Cm) (A1 A2 : Option Addr) (k1 k2 : Nat) (hsh : shp c.word = none) :
    Calls Tryd.prog 15 #[.agg #[.string (strB c.word), .slice A1 c.names.length k1, .slice A2 c.nums.length k2, .string (strB c.text)]] w fun e w' => e = .returned (.tuple #[.string (strB (line c)), .int .i64 (chk c)]) ∧ Below w.heap.size w w' := by
  have HQ := Lib.hid (show chk c = 20 ∧ line c = [] from ⟨chk_none hsh, by unfold line; rw [hsh]⟩)
  have HSH := Lib.hid (show ∀ W : World, Calls Tryd.prog 22 #[.string (strB c.word)] W fun e w' => e = .returned (.tuple #[.string ⟨#[]⟩, .bool false]) ∧ W = w' from fun W => by
    have := RefShape_any (strB c.word) W
    rw [show shpV (strB c.word).data.toList = ([], false) by rw [show (strB c.word).data.toList = c.word from rfl]; unfold shpV; rw [hsh]] at this
    exact this)
  clear hsh
  have HBX := Lib.hid (show Below w.heap.size w (w.alloc (.cells #[.string (strB c.word), .slice A1 c.names.length k1, .slice A2 c.nums.length k2, .string (strB c.text)] 32)) from (Below.refl _ _).alloc (Nat.le_refl _) _)
  go_enter Tryd.func15, Tryd.ntmps15
  go_wp2_with (go_at_call 22; refine (HSH.out _).mono ?_; rintro e w1 ⟨rfl, rfl⟩)
  refine bodyPost_ret (v := .tuple #[.string ⟨#[]⟩, .int .i64 20]) (by simp [results, Tryd.results15, go_sem]) rfl ?_
  exact ⟨by rw [HQ.out.1, HQ.out.2]; rfl, HBX.out⟩
theorem RefLine_any (w : World) (a : Nat → Addr) (hX : Ctx w a) (c : Cm) (A1 A2 : Option Addr) (k1 k2 : Nat) (hV : CVal w c A1 k1 A2 k2) :
    Calls Tryd.prog 15 #[.agg #[.string (strB c.word), .slice A1 c.names.length k1, .slice A2 c.nums.length k2, .string (strB c.text)]] w fun e w' => e = .returned (.tuple #[.string (strB (line c)), .int .i64 (chk c)]) ∧ Below w.heap.size w w' := by
  cases hsh : shp c.word with
  | none => exact RefLine_none w c A1 A2 k1 k2 hsh
  | some sh => exact RefLine_some w a hX c A1 A2 k1 k2 hV sh hsh
end Go.Proofs.YtonjgfbefhefjaaDoor.Ln
