/- Line: the fixed fact. -/
import Derived.Test.YtonjgfbefhefjaaDoorLnU
set_option linter.unusedVariables false
set_option linter.unusedSimpArgs false
namespace Go.Proofs.YtonjgfbefhefjaaDoor.Ln
open Go Go.RowKit Go.Proofs.YtonjgfbefhefjaaDoor.Ow
def cHi : Cm := ⟨[115, 97, 121], [[100, 101, 118]], [0], [104, 105]⟩
theorem hi_line : chk cHi = 0 ∧ line cHi = [115, 97, 121, 32, 100, 101, 118, 32, 48, 32, 54, 56, 54, 57] := by decide +kernel
theorem rd_hi : rd [115, 97, 121, 32, 100, 101, 118, 32, 48, 32, 54, 56, 54, 57] = (cHi, 0) := by rw [← hi_line.2]; exact rd_line hi_line.1
theorem cval_hi {W : World} {b1 b2 : Nat} (h1 : Rg.Blk W b1 9 #[.string ⟨#[100, 101, 118]⟩]) (h2 : Rg.Blk W b2 3 #[.int .i64 0]) : CVal W cHi (some ⟨b1, 0, none⟩) 1 (some ⟨b2, 0, none⟩) 1 :=
  ⟨fun j x hx => ⟨b1, 0, rfl, h1.lt, by
      have hj : j = 0 := by have := (List.getElem?_eq_some_iff.1 hx).1; simp [cHi] at this; omega
      subst hj; cases hx; exact h1.cell 0 rfl⟩,
   fun j x hx => ⟨b2, 0, rfl, h2.lt, by
      have hj : j = 0 := by have := (List.getElem?_eq_some_iff.1 hx).1; simp [cHi] at this; omega
      subst hj; cases hx; exact h2.cell 0 rfl⟩, by decide, by decide, by decide, by decide, by decide, by decide, by decide, by decide⟩
set_option maxRecDepth 20000 in
set_option maxHeartbeats 4000000 in
theorem awake_any (w : World) (a : Nat → Addr) (hX : Ctx w a) :
    Calls Tryd.prog 7 #[] w fun e w' => e = .returned (.bool true) ∧ Below w.heap.size w w' := by
  have HX := Lib.hid hX
  have HPA := Lib.hid (show Calls Tryd.prog 9 #[.string ⟨#[115, 97, 121, 32, 100, 101, 118, 32, 48, 32, 54, 56, 54, 57]⟩] w fun e w' => ∃ A1 k1 A2 k2, e = .returned (.tuple #[.agg #[.string ⟨#[115, 97, 121]⟩, .slice A1 1 k1, .slice A2 1 k2, .string ⟨#[104, 105]⟩], .nilIface]) ∧ CVal w' cHi A1 k1 A2 k2 ∧ Below w.heap.size w w' from by
    refine (Parse_any w a hX ⟨#[115, 97, 121, 32, 100, 101, 118, 32, 48, 32, 54, 56, 54, 57]⟩ (by decide)).mono ?_
    intro e w' h
    have := h.both
    rw [rd_hi] at this
    exact this)
  clear hX
  go_enter Tryd.func7, Tryd.ntmps7
  go_upto_region 2 with (go_at_call 9; refine HPA.out.mono ?_; rintro e w1 ⟨A1, k1, A2, k2, rfl, hcv, hb1⟩; skip; have HC := Lib.hid hcv; have HB1 := Lib.hid hb1; clear hcv hb1)
  have HB2 := Lib.hid (show Below w.heap.size w (w1.alloc (.cells #[.string ⟨#[115, 97, 121]⟩, .slice A1 1 k1, .slice A2 1 k2, .string ⟨#[104, 105]⟩] 27)) from HB1.out.trans ((Below.refl _ _).alloc HB1.out.size _))
  have HK := Lib.hid (Rg.Blk.new w1 #[.string ⟨#[115, 97, 121]⟩, .slice A1 1 k1, .slice A2 1 k2, .string ⟨#[104, 105]⟩] 27)
  have HC2 := Lib.hid (HC.out.below (show Below w1.heap.size w1 (w1.alloc (.cells #[.string ⟨#[115, 97, 121]⟩, .slice A1 1 k1, .slice A2 1 k2, .string ⟨#[104, 105]⟩] 27)) from (Below.refl _ _).alloc (Nat.le_refl _) _))
  generalize w1.alloc (.cells #[.string ⟨#[115, 97, 121]⟩, .slice A1 1 k1, .slice A2 1 k2, .string ⟨#[104, 105]⟩] 27) = Y at *
  have c0 := HK.out.cell 0 (v := .string ⟨#[115, 97, 121]⟩) rfl
  have c1 := HK.out.cell 1 (v := .slice A1 1 k1) rfl
  have c2 := HK.out.cell 2 (v := .slice A2 1 k2) rfl
  have c3 := HK.out.cell 3 (v := .string ⟨#[104, 105]⟩) rfl
  have hb1 := HK.out.lt
  have HSM := Lib.hid (show Calls Tryd.prog 12 #[.agg #[.string ⟨#[115, 97, 121]⟩, .slice A1 1 k1, .slice A2 1 k2, .string ⟨#[104, 105]⟩], .agg #[.string ⟨#[115, 97, 121]⟩, .slice (some ⟨Y.heap.size, 0, none⟩) 1 1, .slice (some ⟨Y.heap.size + 1, 0, none⟩) 1 1, .string ⟨#[104, 105]⟩]] ((Y.alloc (.cells #[.string ⟨#[100, 101, 118]⟩] 9)).alloc (.cells #[.int .i64 0] 3)) fun e w' => e = .returned (.bool true) ∧ Below Y.heap.size Y w' from by
    have hba := show Below Y.heap.size Y ((Y.alloc (.cells #[.string ⟨#[100, 101, 118]⟩] 9)).alloc (.cells #[.int .i64 0] 3)) from ((Below.refl _ _).alloc (Nat.le_refl _) _).alloc (by simp) _
    refine (Same_true _ cHi A1 A2 (some ⟨Y.heap.size, 0, none⟩) (some ⟨Y.heap.size + 1, 0, none⟩) k1 k2 1 1 (HC2.out.below hba) (cval_hi ((Rg.Blk.new Y _ _).alloc _) (Rg.Blk.newAt (by simp) _ _))).mono ?_
    rintro e w' ⟨h1, h2⟩
    exact ⟨h1, hba.trans (h2.mono hba.size)⟩)
  have HLN := Lib.hid (show ∀ W, Below Y.heap.size Y W → Calls Tryd.prog 14 #[.agg #[.string ⟨#[115, 97, 121]⟩, .slice A1 1 k1, .slice A2 1 k2, .string ⟨#[104, 105]⟩]] W fun e w' => e = .returned (.string ⟨#[115, 97, 121, 32, 100, 101, 118, 32, 48, 32, 54, 56, 54, 57]⟩) ∧ Below W.heap.size W w' from fun W hW => by
    have h := Line_any W a ((HX.out.below HB2.out).below hW) cHi A1 A2 k1 k2 (HC2.out.below hW)
    rw [hi_line.2] at h
    exact h)
  go_wp2_with (first
    | (go_at_call 12; refine HSM.out.mono ?_; rintro e w3 ⟨rfl, hb3⟩; skip; have HB3 := Lib.hid hb3; have HK3 := Lib.hid (HK.out.below hb3 HK.out.lt); have d0 := HK3.out.cell 0 (v := .string ⟨#[115, 97, 121]⟩) rfl; have d1 := HK3.out.cell 1 (v := .slice A1 1 k1) rfl; have d2 := HK3.out.cell 2 (v := .slice A2 1 k2) rfl; have d3 := HK3.out.cell 3 (v := .string ⟨#[104, 105]⟩) rfl; clear hb3)
    | (go_at_call 14; refine (HLN.out _ HB3.out).mono ?_; rintro e w4 ⟨rfl, hb4⟩; skip; have HB4 := Lib.hid (HB3.out.trans (hb4.mono HB3.out.size)); clear hb4))
  go_ret
  exact ⟨rfl, HB2.out.trans (HB4.out.mono HB2.out.size)⟩
end Go.Proofs.YtonjgfbefhefjaaDoor.Ln
