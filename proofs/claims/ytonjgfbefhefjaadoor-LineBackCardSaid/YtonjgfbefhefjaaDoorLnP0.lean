/- Line's Parse: too long, no command, a command without more. -/
import Derived.Test.YtonjgfbefhefjaaDoorLnSh
import Derived.Test.YtonjgfbefhefjaaDoorLnH
import Derived.Test.YtonjgfbefhefjaaDoorErrA
set_option linter.unusedVariables false
set_option linter.unusedSimpArgs false
namespace Go.Proofs.YtonjgfbefhefjaaDoor.Ln
open Go Go.RowKit Go.Proofs.YtonjgfbefhefjaaDoor.Ow
/-- what the program's variables hold -/
structure Ctx (w : World) (a : Nat → Addr) : Prop where
  errs : Ei.ErrsAll w a
  tabR : TabR w
  tabP : TabP w
  maxl : ∃ m, w.cell? ⟨21, 0, none⟩ = some (.int .i64 m)
theorem Ctx.below {w w' : World} {a : Nat → Addr} (h : Ctx w a) (hb : Below w.heap.size w w') : Ctx w' a :=
  ⟨h.errs.below hb, h.tabR.below hb, h.tabP.below hb, by
    obtain ⟨m, hm⟩ := h.maxl
    exact ⟨m, (hb.cell (World.block_lt_of_cell? w _ hm)).trans hm⟩⟩
def ZC : Array Value := #[.string ⟨#[]⟩, .slice none 0 0, .slice none 0 0, .string ⟨#[]⟩]
/-- a command by value, its rows from B on -/
def ValAt (W : World) (B : Nat) (c : Cm) (vN vK : Value) : Prop := Owns W B 9 vN (c.names.map encS) ∧ Owns W B 3 vK (c.nums.map (Value.int .i64))
def PPost (a : Nat → Addr) (s : List UInt8) (w : World) (e : Ending) (w' : World) : Prop :=
  (∃ f, parse s = .error f ∧ e = .returned (.tuple #[.agg ZC, Ei.evA a f]) ∧ (1 ≤ f ∧ f ≤ 20) ∧ Below w.heap.size w w') ∨
  (∃ c vN vK, parse s = .ok c ∧ e = .returned (.tuple #[.agg #[.string (strB c.word), vN, vK, .string (strB c.text)], .nilIface]) ∧ ValAt w' w.heap.size c vN vK ∧ Below w.heap.size w w')
theorem parse_long {s : List UInt8} (h : 2000 < s.length) : parse s = .error 4 := by unfold parse; rw [if_pos h]
theorem parse_at {s w : List UInt8} {ws : List (List UInt8)} (h : s.length ≤ 2000) (hs : sp s = w :: ws) : parse s = match shp w with
    | none => .error 20
    | some sh => if ws.length < (stem sh).length then .error 3 else match go (letters sh) ws ⟨w, [], [], []⟩ with
      | none => .error 3
      | some c => .ok c := by
  unfold parse
  rw [if_neg (by omega), hs]
  rfl
theorem Cut_no (S : ByteArray) (h : (32 : UInt8) ∉ S.data.toList) (hs : S.size ≤ 1000000) (w : World) (hm : ∃ m, w.cell? ⟨21, 0, none⟩ = some (.int .i64 m)) :
    Calls Tryd.prog 16 #[.string S, .string ⟨#[32]⟩] w fun e w' => e = .returned (.tuple #[.string S, .string ⟨#[]⟩, .bool false]) ∧ Below w.heap.size w w' := by
  obtain ⟨m, hm⟩ := hm
  refine (Tryd.strings_Cut S ⟨#[32]⟩ m w (by omega) hm).mono ?_
  rintro e w' ⟨rfl, n, rfl⟩
  refine ⟨?_, ⟨rfl, rfl, rfl, Nat.le_refl _, fun _ _ => rfl⟩⟩
  have hi : Lib.index S.data.toList [32] = -1 := by
    rw [Lib.index_one]
    have aux : ∀ l : List UInt8, (32 : UInt8) ∉ l → Lib.indexByte l 32 = -1 := by
      intro l
      induction l with
      | nil => intro _; rfl
      | cons b l ih =>
        intro h
        unfold Lib.indexByte
        rw [if_neg (by intro e; exact h (by simp at e; simp [e])), ih (fun e => h (by simp [e]))]
        rfl
    exact aux _ h
  have hc : Lib.cut S.data.toList (⟨#[32]⟩ : ByteArray).data.toList = (S.data.toList, [], false) := by
    show Lib.cut S.data.toList [32] = _
    unfold Lib.cut
    rw [hi, if_neg (by decide)]
  rw [hc]
theorem Cut_yes (S : ByteArray) {a r : List UInt8} (h : S.data.toList = a ++ 32 :: r) (ha : (32 : UInt8) ∉ a) (hs : S.size ≤ 1000000) (w : World) (hm : ∃ m, w.cell? ⟨21, 0, none⟩ = some (.int .i64 m)) :
    Calls Tryd.prog 16 #[.string S, .string ⟨#[32]⟩] w fun e w' => e = .returned (.tuple #[.string (strB a), .string (strB r), .bool true]) ∧ Below w.heap.size w w' := by
  obtain ⟨m, hm⟩ := hm
  refine (Tryd.strings_Cut S ⟨#[32]⟩ m w (by omega) hm).mono ?_
  rintro e w' ⟨rfl, n, rfl⟩
  refine ⟨?_, ⟨rfl, rfl, rfl, Nat.le_refl _, fun _ _ => rfl⟩⟩
  have hi : Lib.index S.data.toList [32] = (a.length : Int) := by
    rw [Lib.index_one, h]
    have aux : ∀ a : List UInt8, (32 : UInt8) ∉ a → Lib.indexByte (a ++ 32 :: r) 32 = (a.length : Int) := by
      intro a
      induction a with
      | nil => intro _; rfl
      | cons b a ih =>
        intro ha
        have hb := ih (fun e => ha (by simp [e]))
        rw [List.cons_append]
        unfold Lib.indexByte
        rw [if_neg (by intro e; exact ha (by simp at e; simp [e])), hb, if_neg (by intro e; simp at e)]
        simp
    exact aux a ha
  have hc : Lib.cut S.data.toList (⟨#[32]⟩ : ByteArray).data.toList = (a, r, true) := by
    show Lib.cut S.data.toList [32] = _
    unfold Lib.cut
    rw [hi, if_pos (by omega), h, show ((a.length : Int)).toNat = a.length by omega]
    simp
  rw [hc]
  rfl
theorem CutSuffix_any (sh : List UInt8) (hs : sh.length ≤ 1000000) (w : World) :
    Calls Tryd.prog 18 #[.string (strB sh), .string ⟨#[42]⟩] w fun e w' => e = .returned (.tuple #[.string (strB (stem sh)), .bool (opn sh)]) ∧ w = w' :=
  (Tryd.strings_CutSuffix (strB sh) ⟨#[42]⟩ w (by have := strB_size sh; omega)).mono fun e w' h => ⟨h.1, h.2.symm⟩
/-- the two boxes of what is returned -/
def TwoAt (w X : World) : Prop := Rg.Blk X w.heap.size 27 ZC ∧ Rg.Blk X (w.heap.size + 1) 29 #[.nilIface] ∧ Below w.heap.size w X
theorem TwoAt.new (w : World) : TwoAt w ((w.alloc (.cells #[.string ⟨#[]⟩, .slice none 0 0, .slice none 0 0, .string ⟨#[]⟩] 27)).alloc (.cells #[.nilIface] 29)) :=
  ⟨(Rg.Blk.new w ZC _).alloc _, Rg.Blk.newAt (by simp) _ _, ((Below.refl _ _).alloc (Nat.le_refl _) _).alloc (by simp) _⟩
theorem TwoAt.below {w X Y : World} (h : TwoAt w X) (hb : Below X.heap.size X Y) : TwoAt w Y := ⟨h.1.below hb h.1.lt, h.2.1.below hb h.2.1.lt, h.2.2.trans (hb.mono h.2.2.size)⟩
set_option maxRecDepth 20000 in
set_option maxHeartbeats 4000000 in
theorem Parse_long (w : World) (a : Nat → Addr) (hE : Ei.ErrsAll w a) (S : ByteArray) (hs : S.size ≤ 1000000) (h : 2000 < S.size) :
    Calls Tryd.prog 9 #[.string S] w (PPost a S.data.toList w) := by
  have HP := Lib.hid (parse_long (s := S.data.toList) (by rw [Array.length_toList]; exact h))
  have ec : w.cell? ⟨0, 0, none⟩ = some (.iface 124 (.pointer (some (a 4)))) := hE.cell 3 (by decide)
  have hgl : 0 < w.heap.size := World.block_lt_of_cell? w _ ec
  have HTW := Lib.hid (TwoAt.new w)
  have HEC := Lib.hid (ec)
  have h1 : decide (2000 < (S.size : Int)) = true := by rw [decide_eq_true_iff]; omega
  clear hE h ec
  go_enter Tryd.func9, Tryd.ntmps9
  go_wp2_with fail
  generalize (w.alloc (.cells #[.string ⟨#[]⟩, .slice none 0 0, .slice none 0 0, .string ⟨#[]⟩] 27)).alloc (.cells #[.nilIface] 29) = X at *
  have ec : X.cell? ⟨0, 0, none⟩ = some (.iface 124 (.pointer (some (a 4)))) := (HTW.out.2.2.cell hgl).trans HEC.out
  have hg1 : ¬ 0 = w.heap.size := by omega
  have hg2 : ¬ w.heap.size = 0 := by omega
  have z0 := HTW.out.1.cell 0 (v := .string ⟨#[]⟩) rfl; have z1 := HTW.out.1.cell 1 (v := .slice none 0 0) rfl; have z2 := HTW.out.1.cell 2 (v := .slice none 0 0) rfl; have z3 := HTW.out.1.cell 3 (v := .string ⟨#[]⟩) rfl
  have f0 := HTW.out.1.frozen 0; have f1 := HTW.out.1.frozen 1; have f2 := HTW.out.1.frozen 2; have f3 := HTW.out.1.frozen 3
  have y0 := HTW.out.2.1.cell 0 (v := .nilIface) rfl; have g0 := HTW.out.2.1.frozen 0
  clear hgl
  go_region
  all_goals
    go_wp2_with fail
    refine bodyPost_ret (v := .tuple #[.agg #[.string ⟨#[]⟩, .slice none 0 0, .slice none 0 0, .string ⟨#[]⟩], .iface 124 (.pointer (some (a 4)))]) (by simp [results, Tryd.results9, go_sem, z0, z1, z2, z3, y0]) rfl ?_
    refine .inl ⟨4, HP.out, rfl, by decide, Below.trans HTW.out.2.2 ?_⟩
    repeat (first | exact Below.refl _ _ | apply Below.drew | (refine Below.setCell ?_ ?_ _; rotate_left; focus (first | (simp; done) | (simp; omega) | omega)) | (refine Below.alloc ?_ ?_ _; rotate_left; focus (first | (simp; done) | (simp; omega) | omega)))
/-- how Cut parts the line -/
def CutAs (S : ByteArray) (w0 : List UInt8) (r : ByteArray) (more : Bool) : Prop := ∀ W : World, (∃ m, W.cell? ⟨21, 0, none⟩ = some (.int .i64 m)) →
  Calls Tryd.prog 16 #[.string S, .string ⟨#[32]⟩] W fun e w' => e = .returned (.tuple #[.string (strB w0), .string r, .bool more]) ∧ Below W.heap.size W w'
set_option maxRecDepth 20000 in
set_option maxHeartbeats 4000000 in
theorem Parse_none (w : World) (a : Nat → Addr) (hX : Ctx w a) (S : ByteArray) (hs : S.size ≤ 2000) (w0 : List UInt8) (ws : List (List UInt8)) (r : ByteArray) (more : Bool) (hC : CutAs S w0 r more) (hsp : sp S.data.toList = w0 :: ws) (hsh : shp w0 = none) :
    Calls Tryd.prog 9 #[.string S] w (PPost a S.data.toList w) := by
  have HP := Lib.hid (show parse S.data.toList = .error 20 by rw [parse_at (by rw [Array.length_toList]; exact hs) hsp, hsh])
  have ec : w.cell? ⟨1, 0, none⟩ = some (.iface 124 (.pointer (some (a 20)))) := hX.errs.cell 19 (by decide)
  have hgl : 1 < w.heap.size := World.block_lt_of_cell? w _ ec
  have HTW := Lib.hid (TwoAt.new w)
  have HEC := Lib.hid ec
  have HX := Lib.hid hX
  have HC := Lib.hid hC
  have HSV := Lib.hid (show shpV w0 = ([], false) by unfold shpV; rw [hsh])
  have HSH := Lib.hid (show ∀ W : World, TabR W → Calls Tryd.prog 17 #[.string (strB w0)] W fun e w' => e = .returned (.tuple #[.string ⟨#[]⟩, .bool false]) ∧ Below W.heap.size W w' from fun W hT => by
    have := Shape_any (strB w0) W hT
    rw [show (strB w0).data.toList = w0 from rfl, HSV.out] at this
    exact this)
  have h1 : decide (2000 < (S.size : Int)) = false := by rw [decide_eq_false_iff_not]; omega
  clear hX hC hsp hsh ec
  go_enter Tryd.func9, Tryd.ntmps9
  go_wp2_with fail
  generalize (w.alloc (.cells #[.string ⟨#[]⟩, .slice none 0 0, .slice none 0 0, .string ⟨#[]⟩] 27)).alloc (.cells #[.nilIface] 29) = X at *
  go_wp2_with (first
    | (go_at_call 16; refine (HC.out _ (HX.out.below HTW.out.2.2).maxl).mono ?_; rintro e w1 ⟨rfl, hb1⟩; skip; have HT1 := Lib.hid (HTW.out.below hb1); clear hb1)
    | (go_at_call 17; refine (HSH.out _ (HX.out.below HT1.out.2.2).tabR).mono ?_; rintro e w2 ⟨rfl, hb2⟩; skip; have HT2 := Lib.hid (HT1.out.below hb2); clear hb2))
  have HT3 := Lib.hid (HT2.out.below ((Below.refl _ _).alloc (Nat.le_refl _) (.cells #[.string ⟨#[]⟩] 9)))
  generalize w2.alloc (.cells #[.string ⟨#[]⟩] 9) = Y at *
  have z0 := HT3.out.1.cell 0 (v := .string ⟨#[]⟩) rfl; have z1 := HT3.out.1.cell 1 (v := .slice none 0 0) rfl; have z2 := HT3.out.1.cell 2 (v := .slice none 0 0) rfl; have z3 := HT3.out.1.cell 3 (v := .string ⟨#[]⟩) rfl
  have f0 := HT3.out.1.frozen 0; have f1 := HT3.out.1.frozen 1; have f2 := HT3.out.1.frozen 2; have f3 := HT3.out.1.frozen 3
  have y0 := HT3.out.2.1.cell 0 (v := .nilIface) rfl; have g0 := HT3.out.2.1.frozen 0
  have ec : Y.cell? ⟨1, 0, none⟩ = some (.iface 124 (.pointer (some (a 20)))) := (HT3.out.2.2.cell hgl).trans HEC.out
  have hg1 : ¬ 1 = w.heap.size := by omega
  have hg2 : ¬ w.heap.size = 1 := by omega
  clear hgl
  go_region
  all_goals
    go_wp2_with fail
    refine bodyPost_ret (v := .tuple #[.agg #[.string ⟨#[]⟩, .slice none 0 0, .slice none 0 0, .string ⟨#[]⟩], .iface 124 (.pointer (some (a 20)))]) (by simp [results, Tryd.results9, go_sem, z0, z1, z2, z3, y0]) rfl ?_
    refine .inl ⟨20, HP.out, rfl, by decide, Below.trans HT3.out.2.2 ?_⟩
    repeat (first | exact Below.refl _ _ | apply Below.drew | (refine Below.setCell ?_ ?_ _; rotate_left; focus (first | (simp; done) | (simp; omega) | omega)) | (refine Below.alloc ?_ ?_ _; rotate_left; focus (first | (simp; done) | (simp; omega) | omega)))
end Go.Proofs.YtonjgfbefhefjaaDoor.Ln
