/- Line's Parse: a command without a blank behind it. -/
import Derived.Test.YtonjgfbefhefjaaDoorLnP0
set_option linter.unusedVariables false
set_option linter.unusedSimpArgs false
namespace Go.Proofs.YtonjgfbefhefjaaDoor.Ln
open Go Go.RowKit Go.Proofs.YtonjgfbefhefjaaDoor.Ow
/-- the boxes of the shape, the command, whether it is open, the number of words -/
structure BoxAt (w X : World) (sh : List UInt8) (c : Cm) (k : Nat) (vN vK : Value) (b7 B : Nat) : Prop where
  two : TwoAt w X
  s : Rg.Blk X b7 9 #[.string (strB sh)]
  o : Rg.Blk X (b7 + 2) 4 #[.bool (opn sh)]
  n : Rg.Blk X (b7 + 3) 3 #[.int .i64 k]
  lo : w.heap.size + 2 ≤ b7
set_option maxRecDepth 20000 in
set_option maxHeartbeats 4000000 in
theorem Parse_word (w : World) (a : Nat → Addr) (hX : Ctx w a) (S : ByteArray) (hs : S.size ≤ 2000) (w0 : List UInt8) (r : ByteArray) (hC : CutAs S w0 r false) (hsp : sp S.data.toList = [w0]) (sh : List UInt8) (hsh : shp w0 = some sh) :
    Calls Tryd.prog 9 #[.string S] w (PPost a S.data.toList w) := by
  have HP := Lib.hid (show parse S.data.toList = if 0 < (stem sh).length then .error 3 else .ok ⟨w0, [], [], []⟩ by
    rw [parse_at (by rw [Array.length_toList]; exact hs) hsp, hsh]
    simp only [List.length_nil]
    by_cases h : 0 < (stem sh).length
    · rw [if_pos h, if_pos h]
    · rw [if_neg h, if_neg h]
      cases letters sh <;> rfl)
  have ec : w.cell? ⟨2, 0, none⟩ = some (.iface 124 (.pointer (some (a 3)))) := hX.errs.cell 2 (by decide)
  have hgl : 2 < w.heap.size := World.block_lt_of_cell? w _ ec
  have HTW := Lib.hid (TwoAt.new w)
  have HEC := Lib.hid ec
  have HX := Lib.hid hX
  have HC := Lib.hid hC
  have HSV := Lib.hid (show shpV w0 = (sh, true) by unfold shpV; rw [hsh])
  have hshl : sh.length ≤ 1000 ∧ (stem sh).length ≤ 1000 := by
    have : ∀ r ∈ tab, r.2.length ≤ 1000 ∧ (stem r.2).length ≤ 1000 := by decide +kernel
    exact this _ (shp_mem hsh)
  have HSH := Lib.hid (show ∀ W : World, TabR W → Calls Tryd.prog 17 #[.string (strB w0)] W fun e w' => e = .returned (.tuple #[.string (strB sh), .bool true]) ∧ Below W.heap.size W w' from fun W hT => by
    have := Shape_any (strB w0) W hT
    rw [show (strB w0).data.toList = w0 from rfl, HSV.out] at this
    exact this)
  have HCS := Lib.hid (CutSuffix_any sh (by omega))
  obtain ⟨st, hst⟩ : ∃ st, st = stem sh := ⟨_, rfl⟩
  obtain ⟨op, hop⟩ : ∃ op, op = opn sh := ⟨_, rfl⟩
  rw [← hst] at HP hshl HCS
  rw [← hop] at HCS
  obtain ⟨_, hstl⟩ := hshl
  have hsts : (strB st).size = st.length := strB_size st
  have h1 : decide (2000 < (S.size : Int)) = false := by rw [decide_eq_false_iff_not]; omega
  clear hX hC hsp hsh ec hst hop
  by_cases h0 : 0 < st.length
  · have HQ := Lib.hid (show parse S.data.toList = .error 3 by rw [HP.out, if_pos h0])
    have hd : decide (0 < st.length) = true := decide_eq_true h0
    clear h0 HP
    go_enter Tryd.func9, Tryd.ntmps9
    go_wp2_with fail
    generalize (w.alloc (.cells #[.string ⟨#[]⟩, .slice none 0 0, .slice none 0 0, .string ⟨#[]⟩] 27)).alloc (.cells #[.nilIface] 29) = X at *
    go_wp2_with (first
      | (go_at_call 16; refine (HC.out _ (HX.out.below HTW.out.2.2).maxl).mono ?_; rintro e w1 ⟨rfl, hb1⟩; skip; have HT1 := Lib.hid (HTW.out.below hb1); clear hb1)
      | (go_at_call 17; refine (HSH.out _ (HX.out.below HT1.out.2.2).tabR).mono ?_; rintro e w2 ⟨rfl, hb2⟩; skip; have HT2 := Lib.hid (HT1.out.below hb2); clear hb2)
      | (go_at_call 18; refine (HCS.out _).mono ?_; rintro e w3 ⟨rfl, rfl⟩; skip))
    have HT3 := Lib.hid (HT2.out.below (show Below w2.heap.size w2 ((((w2.alloc (.cells #[.string (strB st)] 9)).alloc (.cells #[.string (strB w0), .slice none 0 0, .slice none 0 0, .string ⟨#[]⟩] 27)).alloc (.cells #[.bool op] 4)).alloc (.cells #[.int .i64 0] 3)) from ((((Below.refl _ _).alloc (Nat.le_refl _) _).alloc (by simp) _).alloc (by simp; omega) _).alloc (by simp; omega) _))
    generalize (((w2.alloc (.cells #[.string (strB st)] 9)).alloc (.cells #[.string (strB w0), .slice none 0 0, .slice none 0 0, .string ⟨#[]⟩] 27)).alloc (.cells #[.bool op] 4)).alloc (.cells #[.int .i64 0] 3) = Y at *
    have z0 := HT3.out.1.cell 0 (v := .string ⟨#[]⟩) rfl; have z1 := HT3.out.1.cell 1 (v := .slice none 0 0) rfl; have z2 := HT3.out.1.cell 2 (v := .slice none 0 0) rfl; have z3 := HT3.out.1.cell 3 (v := .string ⟨#[]⟩) rfl
    have f0 := HT3.out.1.frozen 0; have f1 := HT3.out.1.frozen 1; have f2 := HT3.out.1.frozen 2; have f3 := HT3.out.1.frozen 3
    have y0 := HT3.out.2.1.cell 0 (v := .nilIface) rfl; have g0 := HT3.out.2.1.frozen 0
    have ec : Y.cell? ⟨2, 0, none⟩ = some (.iface 124 (.pointer (some (a 3)))) := (HT3.out.2.2.cell hgl).trans HEC.out
    have hg1 : ¬ 2 = w.heap.size := by omega
    have hg2 : ¬ w.heap.size = 2 := by omega
    clear hgl
    go_region
    all_goals
      go_wp2_with fail
      refine bodyPost_ret (v := .tuple #[.agg #[.string ⟨#[]⟩, .slice none 0 0, .slice none 0 0, .string ⟨#[]⟩], .iface 124 (.pointer (some (a 3)))]) (by simp [results, Tryd.results9, go_sem, z0, z1, z2, z3, y0]) rfl ?_
      refine .inl ⟨3, HQ.out, rfl, by decide, Below.trans HT3.out.2.2 ?_⟩
      repeat (first | exact Below.refl _ _ | apply Below.drew | (refine Below.setCell ?_ ?_ _; rotate_left; focus (first | (simp; done) | (simp; omega) | omega)) | (refine Below.alloc ?_ ?_ _; rotate_left; focus (first | (simp; done) | (simp; omega) | omega)))
  · have HQ := Lib.hid (show parse S.data.toList = .ok ⟨w0, [], [], []⟩ by rw [HP.out, if_neg h0])
    have hd : decide (0 < st.length) = false := decide_eq_false h0
    clear h0 HP
    go_enter Tryd.func9, Tryd.ntmps9
    go_wp2_with fail
    generalize (w.alloc (.cells #[.string ⟨#[]⟩, .slice none 0 0, .slice none 0 0, .string ⟨#[]⟩] 27)).alloc (.cells #[.nilIface] 29) = X at *
    go_upto_region 23 with (first
      | (go_at_call 16; refine (HC.out _ (HX.out.below HTW.out.2.2).maxl).mono ?_; rintro e w1 ⟨rfl, hb1⟩; skip; have HT1 := Lib.hid (HTW.out.below hb1); clear hb1)
      | (go_at_call 17; refine (HSH.out _ (HX.out.below HT1.out.2.2).tabR).mono ?_; rintro e w2 ⟨rfl, hb2⟩; skip; have HT2 := Lib.hid (HT1.out.below hb2); clear hb2)
      | (go_at_call 18; refine (HCS.out _).mono ?_; rintro e w3 ⟨rfl, rfl⟩; skip))
    have HT3 := Lib.hid (HT2.out.below (show Below w2.heap.size w2 ((((w2.alloc (.cells #[.string (strB st)] 9)).alloc (.cells #[.string (strB w0), .slice none 0 0, .slice none 0 0, .string ⟨#[]⟩] 27)).alloc (.cells #[.bool op] 4)).alloc (.cells #[.int .i64 0] 3)) from ((((Below.refl _ _).alloc (Nat.le_refl _) _).alloc (by simp) _).alloc (by simp; omega) _).alloc (by simp; omega) _))
    have H9 := Lib.hid (show Rg.Blk ((((w2.alloc (.cells #[.string (strB st)] 9)).alloc (.cells #[.string (strB w0), .slice none 0 0, .slice none 0 0, .string ⟨#[]⟩] 27)).alloc (.cells #[.bool op] 4)).alloc (.cells #[.int .i64 0] 3)) (w2.heap.size + 1) 27 #[.string (strB w0), .slice none 0 0, .slice none 0 0, .string ⟨#[]⟩] from ((Rg.Blk.newAt (by simp) _ _).alloc _).alloc _)
    generalize (((w2.alloc (.cells #[.string (strB st)] 9)).alloc (.cells #[.string (strB w0), .slice none 0 0, .slice none 0 0, .string ⟨#[]⟩] 27)).alloc (.cells #[.bool op] 4)).alloc (.cells #[.int .i64 0] 3) = Y at *
    have x0 := H9.out.cell 0 (v := .string (strB w0)) rfl; have x1 := H9.out.cell 1 (v := .slice none 0 0) rfl; have x2 := H9.out.cell 2 (v := .slice none 0 0) rfl; have x3 := H9.out.cell 3 (v := .string ⟨#[]⟩) rfl
    have z0 := HT3.out.1.cell 0 (v := .string ⟨#[]⟩) rfl; have z1 := HT3.out.1.cell 1 (v := .slice none 0 0) rfl; have z2 := HT3.out.1.cell 2 (v := .slice none 0 0) rfl; have z3 := HT3.out.1.cell 3 (v := .string ⟨#[]⟩) rfl
    have f0 := HT3.out.1.frozen 0; have f1 := HT3.out.1.frozen 1; have f2 := HT3.out.1.frozen 2; have f3 := HT3.out.1.frozen 3
    have y0 := HT3.out.2.1.cell 0 (v := .nilIface) rfl; have g0 := HT3.out.2.1.frozen 0
    clear hgl
    go_wp2_with fail
    refine bodyPost_ret (v := .tuple #[.agg #[.string (strB w0), .slice none 0 0, .slice none 0 0, .string ⟨#[]⟩], .nilIface]) (by simp [results, Tryd.results9, go_sem, z0, z1, z2, z3, y0]) rfl ?_
    refine .inr ⟨⟨w0, [], [], []⟩, .slice none 0 0, .slice none 0 0, HQ.out, rfl, ⟨Owns.nil _ _ _, Owns.nil _ _ _⟩, Below.trans HT3.out.2.2 ?_⟩
    repeat (first | exact Below.refl _ _ | apply Below.drew | (refine Below.setCell ?_ ?_ _; rotate_left; focus (first | (simp; done) | (simp; omega) | omega)) | (refine Below.alloc ?_ ?_ _; rotate_left; focus (first | (simp; done) | (simp; omega) | omega)))
end Go.Proofs.YtonjgfbefhefjaaDoor.Ln
