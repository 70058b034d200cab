/- The fixed fact of layer 10's laws. -/
import Derived.Test.YtjfikbnfabdkoaaGreatDoorMsgPar
import Derived.Test.YtjfikbnfabdkoaaGreatDoorMsgSame
set_option linter.unusedVariables false
set_option linter.unusedSimpArgs false
namespace Go.Proofs.YtjfikbnfabdkoaaGreatDoor.Mg
open Go.RowKit Go.Proofs.YtjfikbnfabdkoaaGreatDoor.Wi Go.Proofs.YtjfikbnfabdkoaaGreatDoor.Ow Go.Proofs.YtjfikbnfabdkoaaGreatDoor.Be
@[irreducible] def awS : ByteArray := ⟨#[94, 0, 0, 0, 7, 0, 0, 0, 2, 97, 98]⟩
def awM : Msg := ⟨94, [7], [⟨#[97, 98]⟩], [], []⟩
theorem awS_eq : (⟨#[94, 0, 0, 0, 7, 0, 0, 0, 2, 97, 98]⟩ : ByteArray) = awS := by unfold awS; rfl
theorem awS_size : awS.size = 11 := by unfold awS; rfl
theorem aw_check : checkC awM = 0 := by decide +kernel
theorem aw_bytes : bytesL awM = [94, 0, 0, 0, 7, 0, 0, 0, 2, 97, 98] := by decide +kernel
theorem aw_parse : parseC awS = 0 ∧ parseM awS = awM := parse_bytes awM awS (by decide) aw_check (by rw [aw_bytes]; unfold awS; rfl)
theorem aw_name : nam 20 = [107, 101, 120, 105, 110, 105, 116] := by decide +kernel
theorem aw_fit : Fit awM := ⟨by decide, by decide, by decide⟩
theorem awS_list : awS.toList = [94, 0, 0, 0, 7, 0, 0, 0, 2, 97, 98] := by rw [ByteArray.toList_eq]; unfold awS; rfl
@[irreducible] def awN : ByteArray := ⟨#[107, 101, 120, 105, 110, 105, 116]⟩
theorem awN_list : awN.toList = [107, 101, 120, 105, 110, 105, 116] := by rw [ByteArray.toList_eq]; unfold awN; rfl
theorem awN_eq : mkS (nam 20) = awN := by rw [aw_name]; unfold awN; rfl
theorem awB_eq : mkS (bytesL awM) = awS := by rw [aw_bytes]; unfold awS; rfl
/-- the world gets a name -/
theorem wp_name {P : Program} {c : Code} {Q : Exit → Act → World → Prop} {a : Act} {W : World} (h : ∀ X, X = W → c.wp P Q a X) : c.wp P Q a W := h W rfl
theorem slOf {w : World} {b T : Nat} {cs : Array Value} (h : Rg.Blk w b T cs) (hm : cs.size ≤ maxLen) : SL w (.slice (some ⟨b, 0, none⟩) cs.size cs.size) cs.toList :=
  ⟨_, _, _, rfl, by simp, fun j x hx => ⟨b, 0, rfl, h.lt, by rw [Nat.zero_add]; exact h.cell j (by simpa using hx)⟩, Nat.le_refl _, hm⟩
set_option maxRecDepth 20000 in
set_option maxHeartbeats 4000000 in
theorem awake10 (w : World) (a : Nat → Addr) (hE : ErrsM w a) (hT : TabR w) (hM : ∃ m, w.cell? ⟨22, 0, none⟩ = some (.int .i64 m)) :
    Calls Tryz.prog 4 #[] w fun e w' => e = .returned (.bool true) ∧ Below w.heap.size w w' := by
  have HPA := Lib.hid (show ∀ W, Below w.heap.size w W → Calls Tryz.prog 14 #[.string ⟨#[94, 0, 0, 0, 7, 0, 0, 0, 2, 97, 98]⟩] W fun e w' => ∃ vu vs vn vb, e = .returned (.tuple #[.agg #[.int .i64 94, vu, vs, vn, vb], .nilIface]) ∧ IsMsg w' awM vu vs vn vb ∧ Below W.heap.size W w' from fun W hW => by
    rw [awS_eq]
    refine (Parse_any W a (hE.below hW) (hT.below hW) (cell_later hM hW) awS (by rw [awS_size]; decide)).mono ?_
    rintro e w' ⟨vu, vs, vn, vb, h1, h2, _, h3⟩
    rw [aw_parse.2] at h1 h2
    rw [aw_parse.1] at h1
    exact ⟨vu, vs, vn, vb, h1, h2, h3⟩)
  have HBY := Lib.hid (show ∀ W vu vs vn vb, Below w.heap.size w W → IsMsg W awM vu vs vn vb → Calls Tryz.prog 15 #[.agg #[.int .i64 94, vu, vs, vn, vb]] W fun e w' => e = .returned (.string awS) ∧ Below W.heap.size W w' from fun W vu vs vn vb hW hm => by
    have := MsgBytes_any W a (hE.below hW) (hT.below hW) awM vu vs vn vb hm aw_fit
    rw [awB_eq] at this; exact this)
  have HNM := Lib.hid (show ∀ W, Below w.heap.size w W → Calls Tryz.prog 17 #[.int .i64 20] W fun e w' => e = .returned (.string awN) ∧ Below W.heap.size W w' from fun W hW => by
    have := Name_of W 20 (hT.below hW)
    rw [awN_eq] at this; exact this)
  have HSM := Lib.hid (show ∀ W vu vs vn vb xu xs xn xb, IsMsg W awM vu vs vn vb → IsMsg W awM xu xs xn xb → Calls Tryz.prog 16 #[.agg #[.int .i64 94, vu, vs, vn, vb], .agg #[.int .i64 94, xu, xs, xn, xb]] W fun e w' => e = .returned (.bool true) ∧ Below W.heap.size W w' from fun W vu vs vn vb xu xs xn xb h1 h2 => Same_true W awM vu vs vn vb xu xs xn xb h1 h2)
  have k0 := awS_list
  have k1 := awN_list
  clear hE hT hM
  go_enter Tryz.func4, Tryz.ntmps4
  go_upto_region 2 with (fail)
  refine wp_name (fun X hX => ?_)
  have hB1 : Rg.Blk X w.heap.size 42 #[.int .u32 7] := by rw [hX]; exact ((Rg.Blk.new w _ _).alloc _).alloc _
  have hB2 : Rg.Blk X (w.heap.size + 1) 9 #[.string ⟨#[97, 98]⟩] := by rw [hX]; exact (Rg.Blk.newAt (by simp) _ _).alloc _
  have hB3 : Rg.Blk X (w.heap.size + 1 + 1) 47 #[.int .i64 94, .slice (some ⟨w.heap.size, 0, none⟩) 1 1, .slice (some ⟨w.heap.size + 1, 0, none⟩) 1 1, .slice none 0 0, .slice none 0 0] := by rw [hX]; exact Rg.Blk.newAt (by simp) _ _
  have hXW : Below w.heap.size w X := by rw [hX]; exact (((Below.refl _ _).alloc (Nat.le_refl _) _).alloc (by simp) _).alloc (by simp; omega) _
  have HMX := Lib.hid (show IsMsg X awM (.slice (some ⟨w.heap.size, 0, none⟩) 1 1) (.slice (some ⟨w.heap.size + 1, 0, none⟩) 1 1) (.slice none 0 0) (.slice none 0 0) from ⟨slOf hB1 (by decide), slOf hB2 (by decide), SLN.nil X, SL.nil X⟩)
  have HB3 := Lib.hid hB3
  have HXW := Lib.hid hXW
  clear hX hB1 hB2 hB3 hXW
  have tok := True.intro
  go_wp2_with (first
    | (go_at_call 14; refine (HPA.out _ HXW.out).mono ?_; rintro e w1 ⟨vu, vs, vn, vb, rfl, hm1, hb1⟩
       obtain ⟨au, nu, cu, rfl, _⟩ := hm1.u
       obtain ⟨aS, nS, cS, rfl, _⟩ := hm1.s
       obtain ⟨vns, ⟨an, nn, cn, rfl, _⟩, _⟩ := hm1.n
       obtain ⟨ab, nb, cb, rfl, _⟩ := hm1.b
       have HB1 := Lib.hid (HXW.out.trans (hb1.mono HXW.out.size))
       have HM0 := Lib.hid hm1
       have HMX0 := Lib.hid (HMX.out.below hb1)
       have HC0 := Lib.hid (HB3.out.below hb1 HB3.out.lt)
       clear hm1 hb1)
    | (refine Rg.store_fresh rfl 47 _ _ rfl #[.int .i64 94, .slice au nu cu, .slice aS nS cS, .slice an nn cn, .slice ab nb cb] _ 47 rfl rfl (by kernel_rfl) rfl (by simp [Value.oneCell']) ?_
       intro Y hY hbY
       have HN1 := Lib.hid hY
       have HM1 := Lib.hid (HM0.out.below hbY)
       have HMX1 := Lib.hid (HMX0.out.below hbY)
       have HC1 := Lib.hid (HC0.out.below hbY HC0.out.lt)
       have HBA := Lib.hid (HB1.out.trans (hbY.mono HB1.out.size))
       clear hY hbY)
    | (have _t := tok; refine wpList_load_row rfl 47 _ rfl _ rfl _ _ _ _ HC1.out Tryz.underlying47 rfl (by kernel_rfl) ?_; clear _t tok)
    | (go_at_call 15; refine (HBY.out _ _ _ _ _ HBA.out HMX1.out).mono ?_; rintro e w2 ⟨rfl, hb2⟩
       have HB2 := Lib.hid (HBA.out.trans (hb2.mono HBA.out.size))
       have HM2 := Lib.hid (HM1.out.below hb2)
       have HMX2 := Lib.hid (HMX1.out.below hb2)
       have hN2 := HN1.out.below hb2 HN1.out.lt
       have hC2 := HC1.out.below hb2 HC1.out.lt
       have n0 := hN2.cell 0 (v := .int .i64 94) rfl
       have n1 := hN2.cell 1 (v := .slice au nu cu) rfl
       have n2 := hN2.cell 2 (v := .slice aS nS cS) rfl
       have n3 := hN2.cell 3 (v := .slice an nn cn) rfl
       have n4 := hN2.cell 4 (v := .slice ab nb cb) rfl
       have c0 := hC2.cell 0 (v := .int .i64 94) rfl
       have c1 := hC2.cell 1 (v := .slice (some ⟨w.heap.size, 0, none⟩) 1 1) rfl
       have c2 := hC2.cell 2 (v := .slice (some ⟨w.heap.size + 1, 0, none⟩) 1 1) rfl
       have c3 := hC2.cell 3 (v := .slice none 0 0) rfl
       have c4 := hC2.cell 4 (v := .slice none 0 0) rfl
       clear hb2 hN2 hC2)
    | (go_at_call 16; refine (HSM.out _ _ _ _ _ _ _ _ _ HM2.out HMX2.out).mono ?_; rintro e w3 ⟨rfl, hb3⟩
       have HB3 := Lib.hid (HB2.out.trans (hb3.mono HB2.out.size))
       clear hb3)
    | (go_at_call 17; refine (HNM.out _ HB3.out).mono ?_; rintro e w4 ⟨rfl, hb4⟩
       have HB4 := Lib.hid (HB3.out.trans (hb4.mono HB3.out.size))
       clear hb4))
  go_ret
  exact ⟨by simp [k0, k1], HB4.out⟩
end Go.Proofs.YtjfikbnfabdkoaaGreatDoor.Mg
