/- The fixed facts of layer 9's laws; Cut; the law WireNames: the walk. -/
import Derived.Test.YtkpecnkflibmjaaDoorWireBig
import Derived.Test.YtkpecnkflibmjaaDoorWireOut2
set_option linter.unusedVariables false
set_option linter.unusedSimpArgs false
namespace Go.Proofs.YtkpecnkflibmjaaDoor.Wi
open Go.RowKit Go.Proofs.YtkpecnkflibmjaaDoor.Ow Go.Proofs.YtkpecnkflibmjaaDoor.Be
theorem Cut_any (w : World) (s : ByteArray) (n : Nat) (hn : n ≤ 1000000) : Calls Tryd.prog 8 #[.string s, .int .i64 n] w fun e w' => e = .returned (.string (s.extract 0 n)) ∧ w = w' := by
  by_cases h : n < s.size
  · go_enter Tryd.func8, Tryd.ntmps8
    go_wp2
    go_ret
    exact ⟨by simp, rfl⟩
  · have e : s.extract 0 n = s := by
      apply ByteArray.ext
      simp
      omega
    have h' : ¬ (n : Int) < s.size := by omega
    go_enter Tryd.func8, Tryd.ntmps8
    go_wp2
    go_ret
    exact ⟨rfl, rfl⟩
@[irreducible] def aw0 : ByteArray := ⟨#[0, 0, 0, 2, 97, 98, 0, 0, 0, 2, 0, 128, 1]⟩
theorem aw0_eq : (⟨(([] ++ textL (⟨#[97, 98]⟩ : ByteArray).data.toList) ++ textL (bigL (⟨#[0, 128]⟩ : ByteArray).data.toList) ++ [1]).toArray⟩ : ByteArray) = aw0 := by unfold aw0; rfl
theorem aw0_list : aw0.toList = [0, 0, 0, 2, 97, 98, 0, 0, 0, 2, 0, 128, 1] := by rw [ByteArray.toList_eq]; unfold aw0; rfl
theorem aw0_size : aw0.size = 13 := by unfold aw0; rfl
@[irreducible] def aw1 : ByteArray := ⟨#[97, 98]⟩
theorem aw1_list : aw1.toList = [97, 98] := by rw [ByteArray.toList_eq]; unfold aw1; rfl
@[irreducible] def aw2 : ByteArray := ⟨#[128]⟩
theorem aw2_list : aw2.toList = [128] := by rw [ByteArray.toList_eq]; unfold aw2; rfl
theorem aw_txt : txtR aw0 0 9 = aw1 ∧ txtS aw0 0 9 = ⟨#[0, 0, 0, 2, 0, 128, 1]⟩ ∧ txtC aw0 0 9 = 0 := by unfold aw0 aw1; refine ⟨?_, ?_, ?_⟩ <;> decide +kernel
theorem aw_big : bigR ⟨#[0, 0, 0, 2, 0, 128, 1]⟩ 0 9 = aw2 ∧ bigS ⟨#[0, 0, 0, 2, 0, 128, 1]⟩ 0 9 = ⟨#[1]⟩ ∧ bigC ⟨#[0, 0, 0, 2, 0, 128, 1]⟩ 0 9 = 0 := by unfold aw2; refine ⟨?_, ?_, ?_⟩ <;> decide +kernel
theorem aw_bool : (numV (rawR ⟨#[1]⟩ 0 1).data.toList != 0) = true ∧ rawS ⟨#[1]⟩ 0 1 = ⟨#[]⟩ ∧ rawC ⟨#[1]⟩ 0 1 = 0 := by refine ⟨?_, ?_, ?_⟩ <;> decide +kernel
theorem aw_end : endC ⟨#[]⟩ 0 = 0 ∧ endS ⟨#[]⟩ 0 = ⟨#[]⟩ := by refine ⟨?_, ?_⟩ <;> decide +kernel
set_option maxRecDepth 20000 in
set_option maxHeartbeats 1000000 in
theorem awake_any (w : World) (E : Nat → Value) (hE : Errs w E) : Calls Tryd.prog 7 #[] w fun e w' => e = .returned (.bool true) ∧ Below w.heap.size w w' := by
  have HE := Lib.hid hE
  have HO := Lib.hid (outFresh w)
  have HB := Lib.hid (show Below w.heap.size w (w.alloc (.cells #[.pointer none, .slice none 0 0] 31)) from (Below.refl _ _).alloc (Nat.le_refl _) _)
  have hw1 : w.heap.size ≤ w.heap.size + 1 := by omega
  clear hE
  have k0 := aw0_list
  have k1 := aw1_list
  have k2 := aw2_list
  have HS0 := Lib.hid aw0_size
  have tok := True.intro
  go_enter Tryd.func7, Tryd.ntmps7
  go_wp2_with (first
    | (go_at_call 22; refine (Text_any w.heap.size w.heap.size [] ⟨#[97, 98]⟩ (by decide) _ HO.out (by decide) HB.out.size).mono ?_; rintro e w1 ⟨rfl, h1, hb1⟩; skip; have H1 := Lib.hid h1; have HB1 := Lib.hid (HB.out.trans hb1.below); clear h1 hb1)
    | (go_at_call 20; refine (Big_any w.heap.size w.heap.size _ ⟨#[0, 128]⟩ (by decide) _ H1.out (by decide) HB1.out.size).mono ?_; rintro e w2 ⟨rfl, h2, hb2⟩; skip; have H2 := Lib.hid h2; have HB2 := Lib.hid (HB1.out.trans hb2.below); clear h2 hb2)
    | (go_at_call 13; refine (Bool_any w.heap.size w.heap.size _ true _ H2.out (by decide) HB2.out.size).mono ?_; rintro e w3 ⟨rfl, h3, hb3⟩; skip; have H3 := Lib.hid (Bo.Read.of h3); have HB3 := Lib.hid (HB2.out.trans hb3.below); clear h3 hb3)
    | (go_at_call 24; have _t := tok; refine (Bytes_eq w.heap.size w.heap.size _ aw0 aw0_eq _ H3.out HB3.out.size).mono ?_; rintro e w4 ⟨rfl, h4, hb4, _⟩; skip
       have H4 := Lib.hid h4; have HB4 := Lib.hid (HB3.out.trans hb4); clear h4 hb4 _t tok; have tok2 := True.intro)
    | (go_at_call 25; refine (Of_any _ aw0).mono ?_; rintro e w5 ⟨rfl, h5, hb5⟩; skip
       have H5 := Lib.hid h5; have HE5 := Lib.hid (HE.out.below (HB4.out.trans (hb5.mono HB4.out.size))); have HR5 := Lib.hid (H4.out.below hb5)
       have HB5 := Lib.hid (HB4.out.trans (hb5.mono HB4.out.size)); have HG := Lib.hid ((HE.out.below HB4.out).gl (Nat.le_refl w4.heap.size)); clear h5 hb5)
    | (go_at_call 24; have _t := tok2; go_loud (refine (Bytes_eq w.heap.size w.heap.size _ aw0 aw0_eq _ HR5.out HB5.out.size).mono ?_); rintro e w6 ⟨rfl, h6, hb6, hk6⟩; skip
       have HB6 := Lib.hid (HB5.out.trans hb6)
       have H6 := Lib.hid (show IsIn w6 w4.heap.size aw0 (evV E 0) from hk6 _ _ _ _ H5.out (by decide))
       have HE6 := Lib.hid (HE.out.below HB6.out)
       clear h6 hb6 hk6 _t tok2)
    | (go_at_call 27; refine (InText_any w6 E w4.heap.size aw0 0 9 (by rw [HS0.out]; decide) HE6.out HG.out H6.out).mono ?_; rintro e w7 ⟨rfl, h7, hg7⟩; skip
       rw [aw_txt.2.1, aw_txt.2.2] at h7
       rw [aw_txt.1]
       have H7 := Lib.hid h7; have HE7 := Lib.hid (HE6.out.keep hg7 HG.out); have HB7 := Lib.hid (HB6.out.grown hg7 HB6.out.size (fun k hk => by cases hk; exact HB4.out.size)); clear h7 hg7)
    | (go_at_call 30; refine (InBig_any w7 E w4.heap.size _ 0 9 (by decide) HE7.out HG.out H7.out (by decide)).mono ?_; rintro e w8 ⟨rfl, h8, hg8⟩; skip
       rw [aw_big.2.1, aw_big.2.2] at h8
       rw [aw_big.1]
       have H8 := Lib.hid h8; have HE8 := Lib.hid (HE7.out.keep hg8 HG.out); have HB8 := Lib.hid (HB7.out.grown hg8 HB7.out.size (fun k hk => by cases hk; exact HB4.out.size)); clear h8 hg8)
    | (go_at_call 31; refine (InBool_any w8 E w4.heap.size _ 0 (by decide) HE8.out HG.out H8.out).mono ?_; rintro e w9 ⟨rfl, h9, hg9⟩; skip
       rw [aw_bool.2.1, aw_bool.2.2] at h9
       rw [aw_bool.1]
       have H9 := Lib.hid h9; have HE9 := Lib.hid (HE8.out.keep hg9 HG.out); have HB9 := Lib.hid (HB8.out.grown hg9 HB8.out.size (fun k hk => by cases hk; exact HB4.out.size)); clear h9 hg9)
    | (go_at_call 32; refine (InEnd_any w9 E w4.heap.size _ 0 HE9.out HG.out H9.out).mono ?_; rintro e w10 ⟨rfl, h10, hg10⟩; skip
       rw [aw_end.1, evV_zero]
       have HB10 := Lib.hid (HB9.out.grown hg10 HB9.out.size (fun k hk => by cases hk; exact HB4.out.size)); clear h10 hg10))
  go_ret
  exact ⟨rfl, HB10.out⟩
end Go.Proofs.YtkpecnkflibmjaaDoor.Wi
