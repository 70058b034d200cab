/- stands; the law TermFresh. -/
import Derived.Test.YtfcemnebhapidaaDoorTmLr
import Derived.Test.YtfcemnebhapidaaDoorTmGr
set_option linter.unusedVariables false
set_option linter.unusedSimpArgs false
namespace Go.Proofs.YtfcemnebhapidaaDoor.Te
open Go.RowKit Go.Proofs.YtfcemnebhapidaaDoor.Ow Go.Proofs.YtfcemnebhapidaaDoor.Mp Go.Maps
theorem cmp_atom {t : Tm} {x : List UInt8} (h : t.wf) (hx : atomOk x) : ((strB t.txt).toList == (strB x).toList) = decide (t = .atom x) := by
  rw [strB_beq, Bool.eq_iff_iff, beq_iff_eq, decide_eq_true_iff]
  exact ⟨fun e => txt_inj h hx e, fun e => by rw [e]; rfl⟩
theorem Split_txt (t : Tm) (hw : t.wf) (hl : t.txt.length ≤ 100000) : ∀ W, Calls Tryd.prog 18 #[.string (strB t.txt)] W fun e w' => ∃ v, e = .returned (.tuple #[.string (strB t.knd), v]) ∧ Owns w' W.heap.size 9 v ((t.prt.map Tm.txt).map encStr) ∧ Below W.heap.size W w' := fun W => (RSplit_any W (strB t.txt) (by rw [strB_size]; exact hl)).mono (by
  rintro e w' ⟨v, rfl, ho, hb⟩
  have hsp := spl_txt hw
  rw [show (strB t.txt).data.toList = t.txt from rfl, hsp] at ho
  exact ⟨v, by rw [show (strB t.txt).data.toList = t.txt from rfl, hsp], ho, hb⟩)
set_option maxRecDepth 20000 in
set_option maxHeartbeats 4000000 in
theorem stands_any (x : List UInt8) (hx : atomOk x) : ∀ (t : Tm) (w : World), t.wf → t.txt.length ≤ 100000 → Calls Tryd.prog 19 #[.string (strB t.txt), .string (strB x)] w fun e w' => e = .returned (.bool (occ (.atom x) t)) ∧ Below w.heap.size w w'
  | .atom s, w, hw, hl => by
    have HSP := Lib.hid (Split_txt (.atom s) hw hl)
    have HCM := Lib.hid (cmp_atom hw hx)
    go_enter Tryd.func19, Tryd.ntmps19
    go_wp2_with (go_at_call 18; refine (HSP.out _).mono ?_; rintro e W1 ⟨v1, rfl, ho1, hb1⟩; obtain ⟨A1, c1, rfl, hr1, _⟩ := ho1.form; rw [show (List.map encStr (List.map Tm.txt (Tm.prt (.atom s)))).length = 0 from rfl]; skip; have HB := Lib.hid hb1; have HR := Lib.hid hr1; clear ho1 hr1 hb1)
    refine wp_loop_rounds 1 ?_
    rw [rounds_succ]
    go_wp2
    rw [HCM.out]
    go_ret
    exact ⟨by unfold occ; rfl, HB.out⟩
  | .one k a, w, hw, hl => by
    have hal : a.txt.length ≤ 100000 := by simp [Tm.txt] at hl; omega
    have HSP := Lib.hid (Split_txt (.one k a) hw hl)
    have HCM := Lib.hid (cmp_atom hw hx)
    have HI := Lib.hid (fun W => stands_any x hx a W hw.2 hal)
    clear hl hal
    cases ho : occ (.atom x) a with
    | true =>
      rw [ho] at HI
      go_enter Tryd.func19, Tryd.ntmps19
      go_wp2_with (go_at_call 18; refine (HSP.out _).mono ?_; rintro e W1 ⟨v1, rfl, ho1, hb1⟩; obtain ⟨A1, c1, rfl, hr1, _⟩ := ho1.form; obtain ⟨bk, o, rfl, hlb, -⟩ := hr1.place (by simp [Tm.prt]); rw [show (List.map encStr (List.map Tm.txt (Tm.prt (.one k a)))).length = 1 from rfl]; skip; have HB := Lib.hid hb1; have HR := Lib.hid hr1; clear ho1 hr1 hb1 hlb)
      have c0 : W1.cell? ⟨bk, o, none⟩ = some (.string (strB a.txt)) := rd_at HR.out (j := 0) rfl
      refine wp_loop_rounds 2 ?_
      rw [rounds_succ]
      go_wp2_with (go_at_call 19; refine (HI.out _).mono ?_; rintro e W2 ⟨rfl, hb⟩; skip; have HBy := Lib.hid (HB.out.trans (Below.mono hb HB.out.size)); clear HB; have HB := HBy; clear HBy; have HRy := Lib.hid (HR.out.below hb); clear HR; have HR := HRy; clear HRy; clear hb)
      go_ret
      exact ⟨by unfold occ; rw [ho]; simp, HB.out⟩
    | false =>
      rw [ho] at HI
      go_enter Tryd.func19, Tryd.ntmps19
      go_wp2_with (go_at_call 18; refine (HSP.out _).mono ?_; rintro e W1 ⟨v1, rfl, ho1, hb1⟩; obtain ⟨A1, c1, rfl, hr1, _⟩ := ho1.form; obtain ⟨bk, o, rfl, hlb, -⟩ := hr1.place (by simp [Tm.prt]); rw [show (List.map encStr (List.map Tm.txt (Tm.prt (.one k a)))).length = 1 from rfl]; skip; have HB := Lib.hid hb1; have HR := Lib.hid hr1; clear ho1 hr1 hb1 hlb)
      have c0 : W1.cell? ⟨bk, o, none⟩ = some (.string (strB a.txt)) := rd_at HR.out (j := 0) rfl
      refine wp_loop_rounds 2 ?_
      rw [rounds_succ]
      go_wp2_with (go_at_call 19; refine (HI.out _).mono ?_; rintro e W2 ⟨rfl, hb⟩; skip; have HBy := Lib.hid (HB.out.trans (Below.mono hb HB.out.size)); clear HB; have HB := HBy; clear HBy; have HRy := Lib.hid (HR.out.below hb); clear HR; have HR := HRy; clear HRy; clear hb)
      rw [rounds_succ]
      go_wp2
      rw [HCM.out]
      go_ret
      exact ⟨by unfold occ; rw [ho]; simp, HB.out⟩
  | .two k a b, w, hw, hl => by
    have hal : a.txt.length ≤ 100000 := by simp [Tm.txt] at hl; omega
    have hbl : b.txt.length ≤ 100000 := by simp [Tm.txt] at hl; omega
    have HSP := Lib.hid (Split_txt (.two k a b) hw hl)
    have HCM := Lib.hid (cmp_atom hw hx)
    have HI := Lib.hid (fun W => stands_any x hx a W hw.2.2.1 hal)
    have HJ := Lib.hid (fun W => stands_any x hx b W hw.2.2.2.1 hbl)
    clear hl hal hbl
    cases ho : occ (.atom x) a with
    | true =>
      rw [ho] at HI
      go_enter Tryd.func19, Tryd.ntmps19
      go_wp2_with (go_at_call 18; refine (HSP.out _).mono ?_; rintro e W1 ⟨v1, rfl, ho1, hb1⟩; obtain ⟨A1, c1, rfl, hr1, _⟩ := ho1.form; obtain ⟨bk, o, rfl, hlb, -⟩ := hr1.place (by simp [Tm.prt]); rw [show (List.map encStr (List.map Tm.txt (Tm.prt (.two k a b)))).length = 2 from rfl]; skip; have HB := Lib.hid hb1; have HR := Lib.hid hr1; clear ho1 hr1 hb1 hlb)
      have c0 : W1.cell? ⟨bk, o, none⟩ = some (.string (strB a.txt)) := rd_at HR.out (j := 0) rfl
      refine wp_loop_rounds 3 ?_
      rw [rounds_succ]
      go_wp2_with (go_at_call 19; refine (HI.out _).mono ?_; rintro e W2 ⟨rfl, hb⟩; skip; have HBy := Lib.hid (HB.out.trans (Below.mono hb HB.out.size)); clear HB; have HB := HBy; clear HBy; have HRy := Lib.hid (HR.out.below hb); clear HR; have HR := HRy; clear HRy; clear hb)
      go_ret
      exact ⟨by unfold occ; rw [ho]; simp, HB.out⟩
    | false =>
      rw [ho] at HI
      cases hq : occ (.atom x) b with
      | true =>
        rw [hq] at HJ
        go_enter Tryd.func19, Tryd.ntmps19
        go_wp2_with (go_at_call 18; refine (HSP.out _).mono ?_; rintro e W1 ⟨v1, rfl, ho1, hb1⟩; obtain ⟨A1, c1, rfl, hr1, _⟩ := ho1.form; obtain ⟨bk, o, rfl, hlb, -⟩ := hr1.place (by simp [Tm.prt]); rw [show (List.map encStr (List.map Tm.txt (Tm.prt (.two k a b)))).length = 2 from rfl]; skip; have HB := Lib.hid hb1; have HR := Lib.hid hr1; clear ho1 hr1 hb1 hlb)
        have c0 : W1.cell? ⟨bk, o, none⟩ = some (.string (strB a.txt)) := rd_at HR.out (j := 0) rfl
        refine wp_loop_rounds 3 ?_
        rw [rounds_succ]
        go_wp2_with (go_at_call 19; refine (HI.out _).mono ?_; rintro e W2 ⟨rfl, hb⟩; skip; have HBy := Lib.hid (HB.out.trans (Below.mono hb HB.out.size)); clear HB; have HB := HBy; clear HBy; have HRy := Lib.hid (HR.out.below hb); clear HR; have HR := HRy; clear HRy; clear hb)
        have c1 : W2.cell? ⟨bk, o + 1, none⟩ = some (.string (strB b.txt)) := rd_at HR.out (j := 1) rfl
        rw [rounds_succ]
        go_wp2_with (go_at_call 19; refine (HJ.out _).mono ?_; rintro e W3 ⟨rfl, hb⟩; skip; have HBy := Lib.hid (HB.out.trans (Below.mono hb HB.out.size)); clear HB; have HB := HBy; clear HBy; have HRy := Lib.hid (HR.out.below hb); clear HR; have HR := HRy; clear HRy; clear hb)
        go_ret
        exact ⟨by unfold occ; rw [ho, hq]; simp, HB.out⟩
      | false =>
        rw [hq] at HJ
        go_enter Tryd.func19, Tryd.ntmps19
        go_wp2_with (go_at_call 18; refine (HSP.out _).mono ?_; rintro e W1 ⟨v1, rfl, ho1, hb1⟩; obtain ⟨A1, c1, rfl, hr1, _⟩ := ho1.form; obtain ⟨bk, o, rfl, hlb, -⟩ := hr1.place (by simp [Tm.prt]); rw [show (List.map encStr (List.map Tm.txt (Tm.prt (.two k a b)))).length = 2 from rfl]; skip; have HB := Lib.hid hb1; have HR := Lib.hid hr1; clear ho1 hr1 hb1 hlb)
        have c0 : W1.cell? ⟨bk, o, none⟩ = some (.string (strB a.txt)) := rd_at HR.out (j := 0) rfl
        refine wp_loop_rounds 3 ?_
        rw [rounds_succ]
        go_wp2_with (go_at_call 19; refine (HI.out _).mono ?_; rintro e W2 ⟨rfl, hb⟩; skip; have HBy := Lib.hid (HB.out.trans (Below.mono hb HB.out.size)); clear HB; have HB := HBy; clear HBy; have HRy := Lib.hid (HR.out.below hb); clear HR; have HR := HRy; clear HRy; clear hb)
        have c1 : W2.cell? ⟨bk, o + 1, none⟩ = some (.string (strB b.txt)) := rd_at HR.out (j := 1) rfl
        rw [rounds_succ]
        go_wp2_with (go_at_call 19; refine (HJ.out _).mono ?_; rintro e W3 ⟨rfl, hb⟩; skip; have HBy := Lib.hid (HB.out.trans (Below.mono hb HB.out.size)); clear HB; have HB := HBy; clear HBy; have HRy := Lib.hid (HR.out.below hb); clear HR; have HR := HRy; clear HRy; clear hb)
        rw [rounds_succ]
        go_wp2
        rw [HCM.out]
        go_ret
        exact ⟨by unfold occ; rw [ho, hq]; simp, HB.out⟩
theorem sld_wf {x c : List UInt8} (hx : atomOk x) (hc : atomOk c) : (Sld x c).wf := by
  unfold Sld
  exact ⟨by decide, by decide, ⟨by decide, hx⟩, ⟨by decide, by decide, hc, hx, fun e => absurd e (by decide)⟩, fun e => absurd e (by decide)⟩
theorem sld_txt (x c : List UInt8) : (⟨#[115, 101, 97, 108, 40, 104, 97, 115, 104, 40]⟩ : ByteArray) ++ strB x ++ ⟨#[41, 44, 112, 97, 105, 114, 40]⟩ ++ strB c ++ ⟨#[44]⟩ ++ strB x ++ ⟨#[41, 41]⟩ = strB (Sld x c).txt := by
  rw [show (⟨#[115, 101, 97, 108, 40, 104, 97, 115, 104, 40]⟩ : ByteArray) = strB [115, 101, 97, 108, 40, 104, 97, 115, 104, 40] from rfl, show (⟨#[41, 44, 112, 97, 105, 114, 40]⟩ : ByteArray) = strB [41, 44, 112, 97, 105, 114, 40] from rfl, show (⟨#[44]⟩ : ByteArray) = strB [44] from rfl, show (⟨#[41, 41]⟩ : ByteArray) = strB [41, 41] from rfl]
  simp only [strB_append]
  unfold Sld
  simp [Tm.txt, word]
theorem hash_txt (x : List UInt8) : (⟨#[104, 97, 115, 104, 40]⟩ : ByteArray) ++ strB x ++ ⟨#[41]⟩ = strB (Tm.one 0 (.atom x)).txt := by
  rw [show (⟨#[104, 97, 115, 104, 40]⟩ : ByteArray) = strB [104, 97, 115, 104, 40] from rfl, show (⟨#[41]⟩ : ByteArray) = strB [41] from rfl]
  simp only [strB_append]
  simp [Tm.txt, word]
theorem point_txt (x : List UInt8) : (⟨#[112, 111, 105, 110, 116, 40]⟩ : ByteArray) ++ strB x ++ ⟨#[41]⟩ = strB (Tm.one 1 (.atom x)).txt := by
  rw [show (⟨#[112, 111, 105, 110, 116, 40]⟩ : ByteArray) = strB [112, 111, 105, 110, 116, 40] from rfl, show (⟨#[41]⟩ : ByteArray) = strB [41] from rfl]
  simp only [strB_append]
  simp [Tm.txt, word]
/-- the other atom -/
def oth (x : List UInt8) : List UInt8 := x.take 1 ++ [48, 120]
theorem oth_ok {x : List UInt8} (h : atomOk x) : atomOk (oth x) := by
  refine ⟨by unfold oth; simp, by unfold oth; rw [List.length_append, List.length_take]; simp; omega, fun c hc => ?_⟩
  unfold oth at hc
  rcases List.mem_append.1 hc with hc | hc
  · exact h.2.2 c (List.mem_of_mem_take hc)
  · simp at hc
    rcases hc with rfl | rfl <;> decide
theorem oth_txt (x : List UInt8) : (strB x).extract 0 1 ++ ⟨#[48, 120]⟩ = strB (oth x) := by
  rw [ext_take, show (⟨#[48, 120]⟩ : ByteArray) = strB [48, 120] from rfl, strB_append]; rfl
theorem OfT (w : World) (t : Tm) (S : ByteArray) (hS : S = strB t.txt) (hw : t.wf) (hl : t.txt.length ≤ 900) (a : Nat → Addr) (hE : ErrsT w a) : ∀ W, Below w.heap.size w W →
    Calls Tryd.prog 13 #[.string S] W fun e w' => ∃ A c, e = .returned (.agg (tv t (.slice A t.prt.length c))) ∧ TP w' t (.slice A t.prt.length c) ∧ Below W.heap.size W w' := fun W hW => by
  subst hS
  refine (Of_some W t.txt t (by omega) (parse_iff.2 (Prs.self hw)) a (hE.below hW)).mono ?_
  rintro e w' ⟨A, c, rfl, hf, hb⟩
  exact ⟨A, c, rfl, hf.tp, hb⟩
theorem ks_from {w W w' : World} {kb mb : Nat} {L : List Tm} (h : KS W w' kb mb L) (hb : Below w.heap.size w W) : KS w w' kb mb L :=
  ⟨h.out, hb.trans (h.bel.mono hb.size), Nat.le_trans hb.size h.lk, Nat.le_trans hb.size h.lm, h.fit⟩
def cut17 (s : ByteArray) : List UInt8 := (s.extract 0 17).data.toList
theorem cut17_len (s : ByteArray) : (cut17 s).length ≤ 17 := by unfold cut17; rw [Array.length_toList]; show (s.extract 0 17).size ≤ 17; rw [ByteArray.size_extract]; omega
theorem knd_atom {t : Tm} (h : t.wf) : ((strB t.knd).toList == [97, 116, 111, 109]) = false ∨ (∃ x, t = .atom x ∧ atomOk x) := by
  cases t with
  | atom x => exact .inr ⟨x, rfl, h⟩
  | one k a =>
    left
    rw [strB_toList, beq_eq_false_iff_ne]
    exact fun e => absurd (numW_word k (by have := h.1; omega)) (by rw [show word k = [97, 116, 111, 109] from e, show numW [97, 116, 111, 109] = 7 by decide]; have := h.1; omega)
  | two k a b =>
    left
    rw [strB_toList, beq_eq_false_iff_ne]
    exact fun e => absurd (numW_word k h.2.1) (by rw [show word k = [97, 116, 111, 109] from e, show numW [97, 116, 111, 109] = 7 by decide]; have := h.2.1; omega)
set_option maxRecDepth 20000 in
set_option maxHeartbeats 8000000 in
theorem Fresh_none (w : World) (A : Option Addr) (c : Nat) (xs : List ByteArray) (hR : Rd w A (xs.map Value.string)) (hc : xs.length ≤ c) (hm : c ≤ maxLen) (S : ByteArray) (a : Nat → Addr) (hE : ErrsT w a) (hp : parse (cut17 S) = none) : Calls Tryd.prog 4 #[.slice A xs.length c, .string S] w fun e w' => e = .returned (.bool true) ∧ Below w.heap.size w w' := by
  have HAW := Lib.hid (awake31 w a hE)
  have HLN := Lib.hid (fun W (hW : Below w.heap.size w W) => learn_any W A c xs xs.length rfl (hR.below hW) 10 (by decide) (by simp only [maxLen] at hm; omega) a (hE.below hW))
  have HCT := Lib.hid (show ∀ W : World, Calls Tryd.prog 14 #[.string S, .int .i64 17] W fun e w' => e = .returned (.string (strB (cut17 S))) ∧ W = w' from fun W => Cut31 W S 17 (by decide))
  obtain ⟨L, hL⟩ : ∃ L, lrn xs 10 = L := ⟨_, rfl⟩
  have HLE := Lib.hid hL
  have HLL := Lib.hid (show L.length ≤ 10 from hL ▸ lrn_len xs 10)
  have HFIT := Lib.hid (show ∀ t ∈ L, t.wf ∧ t.txt.length ≤ 90 from hL ▸ lrn_fit)
  have HCA := Lib.hid (show ∀ W, Calls Tryd.prog 17 #[.string (strB (cut17 S))] W fun e w' => (∃ y : List UInt8, y.length ≤ 100000 ∧ e = .returned (.tuple #[.string (strB y), .bool false])) ∧ Below W.heap.size W w' from fun W => (RCanon_any _ W (cut17 S) (Nat.lt_succ_self _) (by have := cut17_len S; omega)).mono (by rintro e w' ⟨h, hb⟩; rw [hp] at h; exact ⟨h, hb⟩))
  clear hE hR hc hm hL hp
  go_enter Tryd.func4, Tryd.ntmps4
  go_wp2_with (first
    | (go_at_call 9; refine HAW.out.mono ?_; rintro e w1 ⟨rfl, hb1⟩; skip; have HB := Lib.hid hb1; clear hb1)
    | (go_at_call 10; refine (HLN.out _ HB.out).mono ?_; rintro e w2 ⟨kb, mb, v2, rfl, hk, ho⟩; rw [HLE.out] at hk ho; obtain ⟨A2, c2, rfl, hr, _⟩ := ho.form; rw [txts_len]; skip; have HK := Lib.hid (ks_from hk HB.out); have HR := Lib.hid hr; clear hk ho hr HB)
    | (go_at_call 14; refine (HCT.out _).mono ?_; rintro e w3 ⟨rfl, rfl⟩; skip)
    | (go_at_call 17; refine (HCA.out _).mono ?_; rintro e w4 ⟨⟨y, hy, rfl⟩, hb⟩; skip; have HY := Lib.hid hy; have HKy := Lib.hid (HK.out.below hb); clear HK; have HK := HKy; clear HKy; clear hb hy)
    | (go_at_call 18; refine (RSplit_any _ (strB y) (by rw [strB_size]; exact HY.out)).mono ?_; rintro e w5 ⟨v5, rfl, ho, hb⟩; skip; have HKy := Lib.hid (HK.out.below hb); clear HK; have HK := HKy; clear HKy; clear ho hb))
  go_ret
  exact ⟨rfl, HK.out.bel⟩
set_option maxRecDepth 20000 in
set_option maxHeartbeats 8000000 in
theorem Fresh_other (w : World) (A : Option Addr) (c : Nat) (xs : List ByteArray) (hR : Rd w A (xs.map Value.string)) (hc : xs.length ≤ c) (hm : c ≤ maxLen) (S : ByteArray) (a : Nat → Addr) (hE : ErrsT w a) (t : Tm) (hp : parse (cut17 S) = some t) (hk : ((strB t.knd).toList == [97, 116, 111, 109]) = false) : Calls Tryd.prog 4 #[.slice A xs.length c, .string S] w fun e w' => e = .returned (.bool true) ∧ Below w.heap.size w w' := by
  have HAW := Lib.hid (awake31 w a hE)
  have HLN := Lib.hid (fun W (hW : Below w.heap.size w W) => learn_any W A c xs xs.length rfl (hR.below hW) 10 (by decide) (by simp only [maxLen] at hm; omega) a (hE.below hW))
  have HCT := Lib.hid (show ∀ W : World, Calls Tryd.prog 14 #[.string S, .int .i64 17] W fun e w' => e = .returned (.string (strB (cut17 S))) ∧ W = w' from fun W => Cut31 W S 17 (by decide))
  obtain ⟨L, hL⟩ : ∃ L, lrn xs 10 = L := ⟨_, rfl⟩
  have HLE := Lib.hid hL
  have HLL := Lib.hid (show L.length ≤ 10 from hL ▸ lrn_len xs 10)
  have HFIT := Lib.hid (show ∀ t ∈ L, t.wf ∧ t.txt.length ≤ 90 from hL ▸ lrn_fit)
  have HCA := Lib.hid (show ∀ W, Calls Tryd.prog 17 #[.string (strB (cut17 S))] W fun e w' => e = .returned (.tuple #[.string (strB (t).txt), .bool true]) ∧ Below W.heap.size W w' from fun W => (RCanon_any _ W (cut17 S) (Nat.lt_succ_self _) (by have := cut17_len S; omega)).mono (by rintro e w' ⟨h, hb⟩; rw [hp] at h; exact ⟨h, hb⟩))
  have HSP := Lib.hid (Split_txt t (parse_iff.1 hp).wf (by rw [parse_len hp]; have := cut17_len S; omega))
  clear hE hR hc hm hL hp
  go_enter Tryd.func4, Tryd.ntmps4
  go_wp2_with (first
    | (go_at_call 9; refine HAW.out.mono ?_; rintro e w1 ⟨rfl, hb1⟩; skip; have HB := Lib.hid hb1; clear hb1)
    | (go_at_call 10; refine (HLN.out _ HB.out).mono ?_; rintro e w2 ⟨kb, mb, v2, rfl, hk, ho⟩; rw [HLE.out] at hk ho; obtain ⟨A2, c2, rfl, hr, _⟩ := ho.form; rw [txts_len]; skip; have HK := Lib.hid (ks_from hk HB.out); have HR := Lib.hid hr; clear hk ho hr HB)
    | (go_at_call 14; refine (HCT.out _).mono ?_; rintro e w3 ⟨rfl, rfl⟩; skip)
    | (go_at_call 17; refine (HCA.out _).mono ?_; rintro e w4 ⟨rfl, hb⟩; skip; have HKy := Lib.hid (HK.out.below hb); clear HK; have HK := HKy; clear HKy; have HRy := Lib.hid (HR.out.below hb); clear HR; have HR := HRy; clear HRy; clear hb)
    | (go_at_call 18; refine (HSP.out _).mono ?_; rintro e w5 ⟨v5, rfl, ho, hb⟩; skip; have HKy := Lib.hid (HK.out.below hb); clear HK; have HK := HKy; clear HKy; have HRy := Lib.hid (HR.out.below hb); clear HR; have HR := HRy; clear HRy; clear ho hb))
  go_ret
  exact ⟨rfl, HK.out.bel⟩
set_option maxRecDepth 20000 in
set_option maxHeartbeats 8000000 in
theorem Fresh_atom (w : World) (A : Option Addr) (c : Nat) (xs : List ByteArray) (hR : Rd w A (xs.map Value.string)) (hc : xs.length ≤ c) (hm : c ≤ maxLen) (S : ByteArray) (a : Nat → Addr) (hE : ErrsT w a) (x : List UInt8) (hp : parse (cut17 S) = some (.atom x)) (hx : atomOk x) : Calls Tryd.prog 4 #[.slice A xs.length c, .string S] w fun e w' => e = .returned (.bool true) ∧ Below w.heap.size w w' := by
  have HAW := Lib.hid (awake31 w a hE)
  have HLN := Lib.hid (fun W (hW : Below w.heap.size w W) => learn_any W A c xs xs.length rfl (hR.below hW) 10 (by decide) (by simp only [maxLen] at hm; omega) a (hE.below hW))
  have HCT := Lib.hid (show ∀ W : World, Calls Tryd.prog 14 #[.string S, .int .i64 17] W fun e w' => e = .returned (.string (strB (cut17 S))) ∧ W = w' from fun W => Cut31 W S 17 (by decide))
  obtain ⟨L, hL⟩ : ∃ L, lrn xs 10 = L := ⟨_, rfl⟩
  have HLE := Lib.hid hL
  have HLL := Lib.hid (show L.length ≤ 10 from hL ▸ lrn_len xs 10)
  have HFIT := Lib.hid (show ∀ t ∈ L, t.wf ∧ t.txt.length ≤ 90 from hL ▸ lrn_fit)
  have HCA := Lib.hid (show ∀ W, Calls Tryd.prog 17 #[.string (strB (cut17 S))] W fun e w' => e = .returned (.tuple #[.string (strB x), .bool true]) ∧ Below W.heap.size W w' from fun W => (RCanon_any _ W (cut17 S) (Nat.lt_succ_self _) (by have := cut17_len S; omega)).mono (by rintro e w' ⟨h, hb⟩; rw [hp] at h; exact ⟨h, hb⟩))
  have HSP := Lib.hid (show ∀ W, Calls Tryd.prog 18 #[.string (strB x)] W fun e w' => ∃ v, e = .returned (.tuple #[.string (strB (Tm.knd (.atom x))), v]) ∧ Owns w' W.heap.size 9 v (((Tm.prt (.atom x)).map Tm.txt).map encStr) ∧ Below W.heap.size W w' from Split_txt (.atom x) hx (by have := hx.2.1; show x.length ≤ _; omega))
  have HX := Lib.hid hx
  have hk0 : ((strB (Tm.knd (.atom x))).toList == [97, 116, 111, 109]) = true := by rw [strB_toList]; rfl
  have HOX := Lib.hid (OfT w (.atom x) (strB x) rfl hx (by have := hx.2.1; show x.length ≤ _; omega) a hE)
  have HOH := Lib.hid (OfT w (.one 0 (.atom x)) _ (hash_txt x) ⟨by decide, hx⟩ (by have := hx.2.1; simp [Tm.txt, word]; omega) a hE)
  have HOP := Lib.hid (OfT w (.one 1 (.atom x)) _ (point_txt x) ⟨by decide, hx⟩ (by have := hx.2.1; simp [Tm.txt, word]; omega) a hE)
  have hoc := oth_ok hx
  have HWS := Lib.hid (sld_wf hx hoc)
  have HLS := Lib.hid (show (Sld x (oth x)).txt.length ≤ 900 by have h1 := hx.2.1; have h2 := hoc.2.1; unfold Sld; simp [Tm.txt, word]; omega)
  have HOS := Lib.hid (OfT w (Sld x (oth x)) _ (sld_txt x (oth x)) HWS.out HLS.out a hE)
  have HXL := Lib.hid (show x.length ≤ 16 from hx.2.1)
  clear hE hR hc hm hL hp hoc hx
  have HLX := Lib.hid (show ∀ t : Tm, t ∈ L → ∀ W, Calls Tryd.prog 19 #[.string (strB t.txt), .string (strB x)] W fun e w' => e = .returned (.bool (occ (.atom x) t)) ∧ Below W.heap.size W w' from fun t ht W => stands_any x HX.out t W (HFIT.out t ht).1 (by have := (HFIT.out t ht).2; omega))
  have hsx : (strB x).size ≤ 16 := by rw [strB_size]; exact HXL.out
  have hsx1 : 1 ≤ (strB x).size := by rw [strB_size]; exact List.length_pos_iff.2 HX.out.1
  have hso : (strB (oth x)).size ≤ 16 := by rw [strB_size]; exact (oth_ok HX.out).2.1
  obtain ⟨n, hn⟩ : ∃ n, L.length = n := ⟨_, rfl⟩
  have HN := Lib.hid hn
  have hn10 : n ≤ 10 := hn ▸ HLL.out
  go_enter Tryd.func4, Tryd.ntmps4
  go_wp2_with (first
    | (go_at_call 9; refine HAW.out.mono ?_; rintro e w1 ⟨rfl, hb1⟩; skip; have HB := Lib.hid hb1; clear hb1)
    | (go_at_call 10; refine (HLN.out _ HB.out).mono ?_; rintro e w2 ⟨kb, mb, v2, rfl, hk, ho⟩; rw [HLE.out] at hk ho; obtain ⟨A2, c2, rfl, hr, _⟩ := ho.form; rw [txts_len, HN.out]; skip; have HK := Lib.hid (ks_from hk HB.out); have HR := Lib.hid hr; clear hk ho hr HB)
    | (go_at_call 14; refine (HCT.out _).mono ?_; rintro e w3 ⟨rfl, rfl⟩; skip)
    | (go_at_call 17; refine (HCA.out _).mono ?_; rintro e w4 ⟨rfl, hb⟩; skip; have HKy := Lib.hid (HK.out.below hb); clear HK; have HK := HKy; clear HKy; have HRy := Lib.hid (HR.out.below hb); clear HR; have HR := HRy; clear HRy; clear hb)
    | (go_at_call 18; refine (HSP.out _).mono ?_; rintro e w5 ⟨v5, rfl, ho, hb⟩; skip; have HKy := Lib.hid (HK.out.below hb); clear HK; have HK := HKy; clear HKy; have HRy := Lib.hid (HR.out.below hb); clear HR; have HR := HRy; clear HRy; clear ho hb))
  clear hn
  go_loopw [42] (fun i wr => ∃ k : Nat, k ≤ n ∧ i = .int .i64 k ∧ KS w wr kb mb L ∧ Rd wr A2 (txts L) ∧ ∀ j t, j < k → L[j]? = some t → occ (.atom x) t = false) (fun i _ => n - (intOf i).toNat)
  case atStart => exact ⟨0, Nat.zero_le _, rfl, HK.out, HR.out, fun j t h => by omega⟩
  case round =>
    obtain ⟨k, hkn, rfl, hks, hr, hno⟩ := hrel
    clear HK HR
    have HK := Lib.hid hks
    have HR := Lib.hid hr
    have HNO := Lib.hid hno
    clear hks hr hno
    by_cases hlt : k < n
    · have hd : decide (k < n) = true := by simp; exact hlt
      have hdi : (k : Int) < n := by omega
      have hk0 : (0 : Int) ≤ k := by omega
      obtain ⟨t, ht⟩ : ∃ t, L[k]? = some t := ⟨_, List.getElem?_eq_getElem (by rw [HN.out]; exact hlt)⟩
      obtain ⟨b0, o0, rfl, -, hc0⟩ := HR.out k (.string (strB t.txt)) (by unfold txts; rw [List.getElem?_map, List.getElem?_map, ht]; rfl)
      have HT := Lib.hid ht
      have HST := Lib.hid (HLX.out t (List.mem_of_getElem? ht))
      cases ho : occ (.atom x) t with
      | true =>
        rw [ho] at HST
        clear ht
        go_wp2_with (go_at_call 19; refine (HST.out _).mono ?_; rintro e w6 ⟨rfl, hb⟩; skip; have HKy := Lib.hid (HK.out.below hb); clear HK; have HK := HKy; clear HKy; have HRy := Lib.hid (HR.out.below hb); clear HR; have HR := HRy; clear HRy; clear hb)
        go_ret
        exact ⟨rfl, HK.out.bel⟩
      | false =>
        rw [ho] at HST
        have HNO2 := Lib.hid (show ∀ j t, j < k + 1 → L[j]? = some t → occ (.atom x) t = false from fun j u hj hu => by
          by_cases e : j = k
          · subst e; rw [ht] at hu; cases hu; exact ho
          · exact HNO.out j u (by omega) hu)
        clear ht ho
        go_wp2_with (go_at_call 19; refine (HST.out _).mono ?_; rintro e w6 ⟨rfl, hb⟩; skip; have HKy := Lib.hid (HK.out.below hb); clear HK; have HK := HKy; clear HKy; have HRy := Lib.hid (HR.out.below hb); clear HR; have HR := HRy; clear HRy; clear hb)
        go_roundw
        case rel =>
          have REL := Lib.hid (show ∃ k' : Nat, k' ≤ n ∧ Value.int .i64 ((k : Int) + 1) = .int .i64 k' ∧ KS w w6 kb mb L ∧ Rd w6 (some ⟨b0, o0, none⟩) (txts L) ∧ ∀ j t, j < k' → L[j]? = some t → occ (.atom x) t = false from ⟨k + 1, hlt, rfl, HK.out, HR.out, HNO2.out⟩)
          first
            | exact REL.out
            | ((repeat apply Exists.intro); refine ⟨?_, rfl⟩; exact REL.out)
        case measure => (first | (simp [intOf]; done) | (simp [intOf]; omega))
    · obtain rfl : k = n := by omega
      have hd : decide (k < k) = false := by simp
      have HOC := Lib.hid (show ∀ t ∈ L, occ (.atom x) t = false from fun t ht => by
        obtain ⟨j, hj⟩ := List.getElem?_of_mem ht
        exact HNO.out j t (by have := (List.getElem?_eq_some_iff.1 hj).1; rw [HN.out] at this; exact this) hj)
      have HD1 := Lib.hid (fresh_atom HOC.out)
      have HD2 := Lib.hid (fresh_one 0 HOC.out)
      have HD3 := Lib.hid (fresh_one 1 HOC.out)
      have HD4 := Lib.hid (fresh_sealed (c := oth x) HOC.out)
      have HD5 := Lib.hid (opened (L := L) (s := x) (c := oth x))
      have HOT := Lib.hid (oth_txt x)
      have HWX := Lib.hid (show (Tm.atom x).wf ∧ (Tm.atom x).txt.length ≤ 900 from ⟨HX.out, by have := HXL.out; show x.length ≤ _; omega⟩)
      have HWH := Lib.hid (show (Tm.one 0 (.atom x)).wf ∧ (Tm.one 0 (.atom x)).txt.length ≤ 900 from ⟨⟨by decide, HX.out⟩, by have := HXL.out; simp [Tm.txt, word]; omega⟩)
      have HWP := Lib.hid (show (Tm.one 1 (.atom x)).wf ∧ (Tm.one 1 (.atom x)).txt.length ≤ 900 from ⟨⟨by decide, HX.out⟩, by have := HXL.out; simp [Tm.txt, word]; omega⟩)
      clear HR HNO HLX HFIT
      have tok1 := True.intro
      by_cases hcx : oth x = x
      · have hbe : ((strB (oth x)).toList == (strB x).toList) = true := by rw [strB_beq, hcx]; exact beq_self_eq_true _
        go_upto_region 19 with (first
          | (go_at_call 13; have _t := tok1; refine (HOX.out _ HK.out.bel).mono ?_; rintro e w11 ⟨A11, c11, rfl, ht, hb⟩; skip; have HT11 := Lib.hid ht; have HKy := Lib.hid (HK.out.below hb); clear HK; have HK := HKy; clear HKy; clear hb ht; have tok2 := True.intro; clear _t tok1)
          | (go_at_call 15; have _t := tok2; refine (Derives_KS w _ kb mb _ (.atom x) _ HK.out HWX.out.1 (Nat.le_trans HWX.out.2 (by decide)) HT11.out).mono ?_; rintro e w12 ⟨rfl, hb⟩; rw [HD1.out]; skip; have HKy := Lib.hid (HK.out.below hb); clear HK; have HK := HKy; clear HKy; clear hb; have tok3 := True.intro; clear _t tok2)
          | (go_at_call 13; have _t := tok3; refine (HOH.out _ HK.out.bel).mono ?_; rintro e w13 ⟨A13, c13, rfl, ht, hb⟩; skip; have HT13 := Lib.hid ht; have HKy := Lib.hid (HK.out.below hb); clear HK; have HK := HKy; clear HKy; clear hb ht; have tok4 := True.intro; clear _t tok3)
          | (go_at_call 15; have _t := tok4; refine (Derives_KS w _ kb mb _ (.one 0 (.atom x)) _ HK.out HWH.out.1 (Nat.le_trans HWH.out.2 (by decide)) HT13.out).mono ?_; rintro e w14 ⟨rfl, hb⟩; rw [HD2.out]; skip; have HKy := Lib.hid (HK.out.below hb); clear HK; have HK := HKy; clear HKy; clear hb; have tok5 := True.intro; clear _t tok4)
          | (go_at_call 13; have _t := tok5; refine (HOP.out _ HK.out.bel).mono ?_; rintro e w15 ⟨A15, c15, rfl, ht, hb⟩; skip; have HT15 := Lib.hid ht; have HKy := Lib.hid (HK.out.below hb); clear HK; have HK := HKy; clear HKy; clear hb ht; have tok6 := True.intro; clear _t tok5)
          | (go_at_call 15; have _t := tok6; refine (Derives_KS w _ kb mb _ (.one 1 (.atom x)) _ HK.out HWP.out.1 (Nat.le_trans HWP.out.2 (by decide)) HT15.out).mono ?_; rintro e w16 ⟨rfl, hb⟩; rw [HD3.out]; skip; have HKy := Lib.hid (HK.out.below hb); clear HK; have HK := HKy; clear HKy; clear hb; have tok7 := True.intro; clear _t tok6))
        rw [HOT.out]
        go_wp2
        go_ret
        exact ⟨rfl, HK.out.bel⟩
      · have hbe : ((strB (oth x)).toList == (strB x).toList) = false := by rw [strB_beq, beq_eq_false_iff_ne]; exact hcx
        go_upto_region 19 with (first
          | (go_at_call 13; have _t := tok1; refine (HOX.out _ HK.out.bel).mono ?_; rintro e w11 ⟨A11, c11, rfl, ht, hb⟩; skip; have HT11 := Lib.hid ht; have HKy := Lib.hid (HK.out.below hb); clear HK; have HK := HKy; clear HKy; clear hb ht; have tok2 := True.intro; clear _t tok1)
          | (go_at_call 15; have _t := tok2; refine (Derives_KS w _ kb mb _ (.atom x) _ HK.out HWX.out.1 (Nat.le_trans HWX.out.2 (by decide)) HT11.out).mono ?_; rintro e w12 ⟨rfl, hb⟩; rw [HD1.out]; skip; have HKy := Lib.hid (HK.out.below hb); clear HK; have HK := HKy; clear HKy; clear hb; have tok3 := True.intro; clear _t tok2)
          | (go_at_call 13; have _t := tok3; refine (HOH.out _ HK.out.bel).mono ?_; rintro e w13 ⟨A13, c13, rfl, ht, hb⟩; skip; have HT13 := Lib.hid ht; have HKy := Lib.hid (HK.out.below hb); clear HK; have HK := HKy; clear HKy; clear hb ht; have tok4 := True.intro; clear _t tok3)
          | (go_at_call 15; have _t := tok4; refine (Derives_KS w _ kb mb _ (.one 0 (.atom x)) _ HK.out HWH.out.1 (Nat.le_trans HWH.out.2 (by decide)) HT13.out).mono ?_; rintro e w14 ⟨rfl, hb⟩; rw [HD2.out]; skip; have HKy := Lib.hid (HK.out.below hb); clear HK; have HK := HKy; clear HKy; clear hb; have tok5 := True.intro; clear _t tok4)
          | (go_at_call 13; have _t := tok5; refine (HOP.out _ HK.out.bel).mono ?_; rintro e w15 ⟨A15, c15, rfl, ht, hb⟩; skip; have HT15 := Lib.hid ht; have HKy := Lib.hid (HK.out.below hb); clear HK; have HK := HKy; clear HKy; clear hb ht; have tok6 := True.intro; clear _t tok5)
          | (go_at_call 15; have _t := tok6; refine (Derives_KS w _ kb mb _ (.one 1 (.atom x)) _ HK.out HWP.out.1 (Nat.le_trans HWP.out.2 (by decide)) HT15.out).mono ?_; rintro e w16 ⟨rfl, hb⟩; rw [HD3.out]; skip; have HKy := Lib.hid (HK.out.below hb); clear HK; have HK := HKy; clear HKy; clear hb; have tok7 := True.intro; clear _t tok6))
        rw [HOT.out]
        go_wp2_with (first
          | (go_at_call 13; have _t := tok7; refine (HOS.out _ HK.out.bel).mono ?_; rintro e w17 ⟨A17, c17, rfl, ht, hb⟩; skip; have HT17 := Lib.hid ht; have HKy := Lib.hid (HK.out.below hb); clear HK; have HK := HKy; clear HKy; clear hb ht; have tok8 := True.intro; clear _t tok7)
          | (go_at_call 16; have _t := tok8; refine (Learn_KS w _ kb mb _ (Sld x (oth x)) _ HK.out HWS.out HLS.out HT17.out (by have h := HLL.out; (try simp only [List.length_append, List.length_cons, List.length_nil]); omega)).mono ?_; rintro e w18 ⟨rfl, hks, _⟩; skip; clear HK; have HK := Lib.hid hks; clear hks; have tok9 := True.intro; clear _t tok8)
          | (go_at_call 13; have _t := tok9; refine (HOX.out _ HK.out.bel).mono ?_; rintro e w19 ⟨A19, c19, rfl, ht, hb⟩; skip; have HT19 := Lib.hid ht; have HKy := Lib.hid (HK.out.below hb); clear HK; have HK := HKy; clear HKy; clear hb ht; have tok10 := True.intro; clear _t tok9)
          | (go_at_call 15; have _t := tok10; refine (Derives_KS w _ kb mb _ (.atom x) _ HK.out HWX.out.1 (Nat.le_trans HWX.out.2 (by decide)) HT19.out).mono ?_; rintro e w20 ⟨rfl, hb⟩; rw [HD4.out]; skip; have HKy := Lib.hid (HK.out.below hb); clear HK; have HK := HKy; clear HKy; clear hb; have tok11 := True.intro; clear _t tok10)
          | (go_at_call 13; have _t := tok11; refine (HOH.out _ HK.out.bel).mono ?_; rintro e w21 ⟨A21, c21, rfl, ht, hb⟩; skip; have HT21 := Lib.hid ht; have HKy := Lib.hid (HK.out.below hb); clear HK; have HK := HKy; clear HKy; clear hb ht; have tok12 := True.intro; clear _t tok11)
          | (go_at_call 16; have _t := tok12; refine (Learn_KS w _ kb mb _ (.one 0 (.atom x)) _ HK.out HWH.out.1 HWH.out.2 HT21.out (by have h := HLL.out; (try simp only [List.length_append, List.length_cons, List.length_nil]); omega)).mono ?_; rintro e w22 ⟨rfl, hks, _⟩; skip; clear HK; have HK := Lib.hid hks; clear hks; have tok13 := True.intro; clear _t tok12)
          | (go_at_call 13; have _t := tok13; refine (HOX.out _ HK.out.bel).mono ?_; rintro e w23 ⟨A23, c23, rfl, ht, hb⟩; skip; have HT23 := Lib.hid ht; have HKy := Lib.hid (HK.out.below hb); clear HK; have HK := HKy; clear HKy; clear hb ht; have tok14 := True.intro; clear _t tok13)
          | (go_at_call 15; have _t := tok14; refine (Derives_KS w _ kb mb _ (.atom x) _ HK.out HWX.out.1 (Nat.le_trans HWX.out.2 (by decide)) HT23.out).mono ?_; rintro e w24 ⟨rfl, hb⟩; rw [HD5.out]; skip; have HKy := Lib.hid (HK.out.below hb); clear HK; have HK := HKy; clear HKy; clear hb; have tok15 := True.intro; clear _t tok14))
        go_ret
        exact ⟨rfl, HK.out.bel⟩
theorem law_TermFresh (w : World) (A : Option Addr) (c : Nat) (xs : List ByteArray) (hR : Rd w A (xs.map Value.string)) (hc : xs.length ≤ c) (hm : c ≤ maxLen) (S : ByteArray) (a : Nat → Addr) (hE : ErrsT w a) : Calls Tryd.prog 4 #[.slice A xs.length c, .string S] w fun e w' => e = .returned (.bool true) ∧ Below w.heap.size w w' := by
  cases hp : parse (cut17 S) with
  | none => exact Fresh_none w A c xs hR hc hm S a hE hp
  | some t =>
    rcases knd_atom (parse_iff.1 hp).wf with h | ⟨x, rfl, hx⟩
    · exact Fresh_other w A c xs hR hc hm S a hE t hp h
    · exact Fresh_atom w A c xs hR hc hm S a hE x hp hx
end Go.Proofs.YtfcemnebhapidaaDoor.Te
