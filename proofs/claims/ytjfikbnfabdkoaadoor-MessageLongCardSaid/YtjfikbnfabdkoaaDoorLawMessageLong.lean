/- The law MessageLong: the walk. -/
import Derived.Test.YtjfikbnfabdkoaaDoorMsgLong
import Derived.Test.YtjfikbnfabdkoaaDoorGenA
set_option linter.unusedVariables false
set_option linter.unusedSimpArgs false
namespace Go.Proofs.YtjfikbnfabdkoaaDoor.Mg
open Go.RowKit Go.Proofs.YtjfikbnfabdkoaaDoor.Wi Go.Proofs.YtjfikbnfabdkoaaDoor.Ow Go.Proofs.YtjfikbnfabdkoaaDoor.Be Go.Proofs.YtjfikbnfabdkoaaDoor.Sp
set_option maxRecDepth 20000 in
set_option maxHeartbeats 8000000 in
theorem long0a (w : World) (kind n : Int) (hr : bits .and .i64 kind 3 = 0) (q : Nat) (hq : q < 16) (hn : bits .and .i64 n 15 = (q : Int)) (hbig : ¬ 32768 < 32760 + q) (a : Nat → Addr) (hE : Ei.ErrsAll w a) (hT : TabR w) (hM : ∃ m, w.cell? ⟨22, 0, none⟩ = some (.int .i64 m)) :
    Calls Tryd.prog 9 #[.int .i64 kind, .int .i64 n] w fun e w' => e = .returned (.bool true) ∧ Below w.heap.size w w' := by
  have HAW := Lib.hid (awake10 w a (ErrsM.of hE) hT hM)
  have HZ0 := Lib.hid (show ∀ w B, (w : World).ownsRow B 5 1 (.slice (some ⟨w.heap.size - 1, 0, none⟩) 0 0) 0 [] → True from fun _ _ _ => trivial)
  clear HZ0
  obtain ⟨S, hS⟩ : ∃ S, zs (32760 + q) = S := ⟨_, rfl⟩
  have hSs : S.size = 32760 + q := by rw [← hS, zs_size]
  have HS := Lib.hid hS
  have hS4 : S.size ≤ 40000 := by omega
  obtain ⟨fm, hfm⟩ : ∃ fm, lm0 S = fm := ⟨_, rfl⟩
  have hfk : fm.kind = 2 := by rw [← hfm]; rfl
  have hfit := (lm0_fit S hS4).1
  have hc : checkC fm = 0 := by rw [← hfm, lm0_check, hSs]; exact if_neg hbig
  obtain ⟨B, hB⟩ : ∃ B, mkS (bytesL fm) = B := ⟨_, rfl⟩
  have hBs : B.size ≤ 1000000 := by rw [← hB, mkS_size, ← hfm]; exact lm0_len S hS4
  have HIM := Lib.hid (show ∀ X b0, Rg.Blk X b0 9 #[.string S] → IsMsg X fm (.slice none 0 0) (.slice (some ⟨b0, 0, none⟩) 1 1) (.slice none 0 0) (.slice none 0 0) from fun X b0 h0 => by
    rw [← hfm]
    exact ⟨(SL.nil X), (slOf h0 (by unfold maxLen; simp)), SLN.nil X, (SL.nil X)⟩)
  have HCK := Lib.hid (show ∀ W, Below w.heap.size w W → ∀ xu xs xn xb, IsMsg W fm xu xs xn xb → Calls Tryd.prog 28 #[.agg #[.int .i64 2, xu, xs, xn, xb]] W fun e w' => e = .returned (Ei.evA a 0) ∧ Below W.heap.size W w' from fun W hW xu xs xn xb h => by
    have := Check_any W a ((ErrsM.of hE).below hW) (hT.below hW) fm xu xs xn xb h (hfm ▸ hfit)
    rw [hfk, hc] at this
    exact this)
  have HRC := Lib.hid (show ∀ W xu xs xn xb, IsMsg W fm xu xs xn xb → Calls Tryd.prog 29 #[.agg #[.int .i64 2, xu, xs, xn, xb]] W fun e w' => e = .returned (.int .i64 0) ∧ Below W.heap.size W w' from fun W xu xs xn xb h => by
    have := RefCheck_any W fm xu xs xn xb h (hfm ▸ hfit)
    rw [hfk, hc] at this
    exact this)
  have HCD := Lib.hid (show ∀ W : World, Below w.heap.size w W → Calls Tryd.prog 16 #[Ei.evA a 0] W fun e w' => e = .returned (.int .i64 0) ∧ W = w' from fun W hW => Ei.Code_any W a (hE.below hW) 0 (by decide))
  have HBY := Lib.hid (show ∀ W, Below w.heap.size w W → ∀ xu xs xn xb, IsMsg W fm xu xs xn xb → Calls Tryd.prog 30 #[.agg #[.int .i64 2, xu, xs, xn, xb]] W fun e w' => e = .returned (.string B) ∧ Below W.heap.size W w' from fun W hW xu xs xn xb h => by
    have := MsgBytes_any W a ((ErrsM.of hE).below hW) (hT.below hW) fm xu xs xn xb h (hfm ▸ hfit)
    rw [hfk, hB] at this
    exact this)
  have hpb := parse_bytes fm B (hfm ▸ hfit).u hc (by rw [← hB]; exact mkS_list _)
  have HPA := Lib.hid (show ∀ W, Below w.heap.size w W → Calls Tryd.prog 32 #[.string B] W fun e w' => ∃ yu ys yn yb, e = .returned (.tuple #[.agg #[.int .i64 2, yu, ys, yn, yb], .nilIface]) ∧ IsMsg w' fm yu ys yn yb ∧ Below W.heap.size W w' from fun W hW => by
    refine (Parse_any W a ((ErrsM.of hE).below hW) (hT.below hW) (cell_later hM hW) B (by omega)).mono ?_
    rintro e w' ⟨vu, vs, vn, vb, h1, h2, _, h3⟩
    rw [hpb.2] at h1 h2
    rw [hpb.1, hfk] at h1
    exact ⟨vu, vs, vn, vb, h1, h2, h3⟩)
  have HSM := Lib.hid (show ∀ W yu ys yn yb xu xs xn xb, IsMsg W fm yu ys yn yb → IsMsg W fm xu xs xn xb → Calls Tryd.prog 13 #[.agg #[.int .i64 2, yu, ys, yn, yb], .agg #[.int .i64 2, xu, xs, xn, xb]] W fun e w' => e = .returned (.bool true) ∧ Below W.heap.size W w' from fun W vu vs vn vb xu xs xn xb h1 h2 => by
    have := Same_true W fm vu vs vn vb xu xs xn xb h1 h2
    rw [hfk] at this
    exact this)
  clear hpb
  obtain ⟨ev, hev⟩ : ∃ ev, Ei.evA a 0 = ev := ⟨_, rfl⟩
  rw [hev] at HCK HCD
  have hz1 : decide ((32768 : Int) < (S.size : Int)) = false := by rw [hSs]; simp; omega
  have hz2 : decide (32768 < S.size) = false := by rw [hSs]; simp; omega
  have hz3 : ¬ 32768 < S.size := by rw [hSs]; exact hbig
  have HSS := Lib.hid hSs
  have hq0 : (0 : Int) ≤ q := by omega
  have hq1 : (q : Int) ≤ 15 := by omega
  have HZ := Lib.hid (And.intro hz1 (And.intro hz2 hz3))
  have HIB := Lib.hid (info_parts Bo.infoByte)
  clear hE hT hM hfit hc hB hBs hfm hfk hev hS hSs hS4 hbig hz1 hz2 hz3 hq
  go_enter Tryd.func9, Tryd.ntmps9
  go_upto_region 6 with (first
    | (go_at_call 18; refine HAW.out.mono ?_; rintro e w1 ⟨rfl, hb1⟩; skip
       have HW := Lib.hid hb1; clear hb1)
    | (refine Cv.store_blk rfl 36 _ _ rfl (w1.heap.size + 1) #[.int .i64 2, .slice none 0 0, .slice none 0 0, .slice none 0 0, .slice none 0 0] #[.int .i64 0, .slice none 0 0, .slice none 0 0, .slice none 0 0, .slice none 0 0] 36 rfl rfl (Rg.Blk.newAt (by simp) _ _) (by kernel_rfl) rfl (by simp [Value.oneCell']) ?_
       intro Y hY hgY
       have HWY := Lib.hid (((HW.out.alloc HW.out.size _).alloc (by have := HW.out.size; simp; omega) _).grown hgY (by have := HW.out.size; simp; omega) (fun k hk => by cases hk; have := HW.out.size; omega))
       have HY := Lib.hid hY; have HYL := Lib.hid (show w.heap.size ≤ (w1.heap.size + 1) by have := HW.out.size; omega)
       clear hY hgY)
    | (obtain ⟨ib, hi1, hi2, hi3, hi4⟩ := HIB.out; refine wpList_make_full _ rfl _ _ _ rfl Y.heap.size 5 ib (.int .u8 0) 1 Tryd.underlying35 hi1 hi2 hi3 .i64 .i64 _ _ (32760 + q) rfl rfl (by omega) (by omega) (by rw [hi4]; omega) (by unfold maxLen; omega) (Nat.le_refl _) ?_
       intro V hV hgV
       rw [made_bv] at hV
       have HV := Lib.hid (show Owns V Y.heap.size 5 (.slice (some ⟨Y.heap.size, 0, none⟩) (32760 + q) (32760 + q)) (bv (List.replicate (32760 + q) 0)) by unfold Owns; rw [bv_length, List.length_replicate]; exact hV)
       have hbV : Below Y.heap.size Y V := (Below.refl _ _).grown hgV (Nat.le_refl _) (fun k hk => by cases hk)
       have HWV := Lib.hid (HWY.out.trans (hbV.mono HWY.out.size))
       have HQ := Lib.hid (HY.out.below hbV HY.out.lt)
       clear hV hgV hbV hi1 hi2 hi3 hi4)
    | (refine Ow.str rfl 35 5 9 _ rfl Tryd.underlying35 Tryd.underlying5 Tryd.underlying9 HV.out rfl ?_; rw [show (⟨(List.replicate (32760 + q) (0 : UInt8)).toArray⟩ : ByteArray) = S from HS.out]))
  skip
  have hm0 : Mem w [] V [Sp.blk (w1.heap.size + 1) 36 #[.int .i64 2, .slice none 0 0, .slice none 0 0, .slice none 0 0, .slice none 0 0]] := ⟨Upd.of_below HWV.out, [[w1.heap.size + 1]], ⟨⟨rfl, HQ.out⟩, trivial⟩, by simp, fun k hk => by simp at hk; subst hk; exact .inr HYL.out⟩
  have hm1 := (hm0.alloc #[.string S] 9)
  simp only [World.size_alloc, List.cons_append, List.nil_append] at hm1
  have HM := Lib.hid hm1
  clear hm0 hm1 HQ HWV HV HWY HY
  go_upto_region 12 with (first
    | (refine store_slice rfl 23 _ _ rfl rfl rfl Tryd.underlying23 (by kernel_rfl) (HM.out.blk 0 rfl) rfl ?_
       intro Z0 hZ hgZ
       have hmz := HM.out.store 0 rfl hZ hgZ
       simp only [List.set_cons_zero, List.setIfInBounds_toArray, List.set_cons_succ] at hmz
       have HM1 := Lib.hid hmz
       clear hZ hgZ hmz))
  generalize w1.heap.size + 1 = P0 at *
  have HI := Lib.hid (HIM.out Z0 _ (HM1.out.blk 1 rfl))
  have HW2 := Lib.hid HM1.out.bel
  have HD := Lib.hid (HM1.out.blk 0 rfl)
  generalize V.heap.size = b0 at *
  clear HM HM1
  obtain ⟨hz1, hz2, hz3⟩ := HZ.out
  go_upto_region 15 with (first
    | (refine wpList_load_row rfl 36 _ rfl _ rfl _ _ _ _ HD.out Tryd.underlying36 rfl (by kernel_rfl) ?_; skip)
    | (go_at_call 28; refine (HCK.out _ HW2.out _ _ _ _ HI.out).mono ?_; rintro e w5 ⟨rfl, hb⟩; skip; have HW2x := Lib.hid (HW2.out.trans (hb.mono HW2.out.size)); clear HW2; have HW2 := HW2x; clear HW2x; have HDx := Lib.hid (HD.out.below hb HD.out.lt); clear HD; have HD := HDx; clear HDx; have HIx := Lib.hid (HI.out.below hb); clear HI; have HI := HIx; clear HIx; clear hb)
    | (go_at_call 16; refine (HCD.out _ HW2.out).mono ?_; rintro e w6 ⟨rfl, rfl⟩; skip)
    | (go_at_call 30; refine (HBY.out _ HW2.out _ _ _ _ HI.out).mono ?_; rintro e w7 ⟨rfl, hb⟩; skip; have HW2x := Lib.hid (HW2.out.trans (hb.mono HW2.out.size)); clear HW2; have HW2 := HW2x; clear HW2x; have HDx := Lib.hid (HD.out.below hb HD.out.lt); clear HD; have HD := HDx; clear HDx; have HIx := Lib.hid (HI.out.below hb); clear HI; have HI := HIx; clear HIx; clear hb)
    | (go_at_call 32; refine (HPA.out _ HW2.out).mono ?_; rintro e w8 ⟨yu, ys, yn, yb, rfl, hy, hb⟩
       obtain ⟨gu, hu, iu, rfl, _⟩ := hy.u
       obtain ⟨gS, hS, iS, rfl, _⟩ := hy.s
       obtain ⟨yns, ⟨gn, hn, iN, rfl, _⟩, _⟩ := hy.n
       obtain ⟨gb, hB, ib, rfl, _⟩ := hy.b
       have HY2 := Lib.hid hy
       have HW2x := Lib.hid (HW2.out.trans (hb.mono HW2.out.size)); clear HW2; have HW2 := HW2x; clear HW2x; have HDx := Lib.hid (HD.out.below hb HD.out.lt); clear HD; have HD := HDx; clear HDx; have HIx := Lib.hid (HI.out.below hb); clear HI; have HI := HIx; clear HIx; clear hb hy)
    | (refine Rg.store_fresh rfl 32 _ _ rfl #[.int .i64 2, .slice gu hu iu, .slice gS hS iS, .slice gn hn iN, .slice gb hB ib] _ 32 rfl rfl (by kernel_rfl) rfl (by simp [Value.oneCell']) ?_
       intro Z hZ hbZ
       have HE := Lib.hid hZ; have HY2x := Lib.hid (HY2.out.below hbZ); clear HY2; have HY2 := HY2x; clear HY2x; have HW2x := Lib.hid (HW2.out.trans (hbZ.mono HW2.out.size)); clear HW2; have HW2 := HW2x; clear HW2x; have HDx := Lib.hid (HD.out.below hbZ HD.out.lt); clear HD; have HD := HDx; clear HDx; have HIx := Lib.hid (HI.out.below hbZ); clear HI; have HI := HIx; clear HIx; clear hZ hbZ))
  go_wp2_with (first
    | (refine wpList_load_row rfl 36 _ rfl _ rfl _ _ _ _ HD.out Tryd.underlying36 rfl (by kernel_rfl) ?_; skip)
    | (go_at_call 29; refine (HRC.out _ _ _ _ _ HI.out).mono ?_; rintro e w9 ⟨rfl, hb⟩; skip; have HW2x := Lib.hid (HW2.out.trans (hb.mono HW2.out.size)); clear HW2; have HW2 := HW2x; clear HW2x; have HDx := Lib.hid (HD.out.below hb HD.out.lt); clear HD; have HD := HDx; clear HDx; have HIx := Lib.hid (HI.out.below hb); clear HI; have HI := HIx; clear HIx; have HEx := Lib.hid (HE.out.below hb HE.out.lt); clear HE; have HE := HEx; clear HEx; have HY2x := Lib.hid (HY2.out.below hb); clear HY2; have HY2 := HY2x; clear HY2x; clear hb
       have z0 := HE.out.cell 0 (v := .int .i64 2) rfl
       have z1 := HE.out.cell 1 (v := .slice gu hu iu) rfl
       have z2 := HE.out.cell 2 (v := .slice gS hS iS) rfl
       have z3 := HE.out.cell 3 (v := .slice gn hn iN) rfl
       have z4 := HE.out.cell 4 (v := .slice gb hB ib) rfl
       have q0 := HD.out.cell 0 (v := .int .i64 2) rfl
       have q1 := HD.out.cell 1 (v := .slice none 0 0) rfl
       have q2 := HD.out.cell 2 (v := .slice (some ⟨b0, 0, none⟩) 1 1) rfl
       have q3 := HD.out.cell 3 (v := .slice none 0 0) rfl
       have q4 := HD.out.cell 4 (v := .slice none 0 0) rfl
       skip)
    | (go_at_call 13; refine (HSM.out _ _ _ _ _ _ _ _ _ HY2.out HI.out).mono ?_; rintro e w10 ⟨rfl, hb⟩; skip; have HW2x := Lib.hid (HW2.out.trans (hb.mono HW2.out.size)); clear HW2; have HW2 := HW2x; clear HW2x; clear hb))
  go_ret
  exact ⟨by simp, HW2.out⟩
set_option maxRecDepth 20000 in
set_option maxHeartbeats 8000000 in
theorem long0b (w : World) (kind n : Int) (hr : bits .and .i64 kind 3 = 0) (q : Nat) (hq : q < 16) (hn : bits .and .i64 n 15 = (q : Int)) (hbig : 32768 < 32760 + q) (a : Nat → Addr) (hE : Ei.ErrsAll w a) (hT : TabR w) (hM : ∃ m, w.cell? ⟨22, 0, none⟩ = some (.int .i64 m)) :
    Calls Tryd.prog 9 #[.int .i64 kind, .int .i64 n] w fun e w' => e = .returned (.bool true) ∧ Below w.heap.size w w' := by
  have HAW := Lib.hid (awake10 w a (ErrsM.of hE) hT hM)
  have HZ0 := Lib.hid (show ∀ w B, (w : World).ownsRow B 5 1 (.slice (some ⟨w.heap.size - 1, 0, none⟩) 0 0) 0 [] → True from fun _ _ _ => trivial)
  clear HZ0
  obtain ⟨S, hS⟩ : ∃ S, zs (32760 + q) = S := ⟨_, rfl⟩
  have hSs : S.size = 32760 + q := by rw [← hS, zs_size]
  have HS := Lib.hid hS
  have hS4 : S.size ≤ 40000 := by omega
  obtain ⟨fm, hfm⟩ : ∃ fm, lm0 S = fm := ⟨_, rfl⟩
  have hfk : fm.kind = 2 := by rw [← hfm]; rfl
  have hfit := (lm0_fit S hS4).1
  have hc : checkC fm = 4 := by rw [← hfm, lm0_check, hSs]; exact if_pos hbig
  obtain ⟨B, hB⟩ : ∃ B, mkS (bytesL fm) = B := ⟨_, rfl⟩
  have hBs : B.size ≤ 1000000 := by rw [← hB, mkS_size, ← hfm]; exact lm0_len S hS4
  have HIM := Lib.hid (show ∀ X b0, Rg.Blk X b0 9 #[.string S] → IsMsg X fm (.slice none 0 0) (.slice (some ⟨b0, 0, none⟩) 1 1) (.slice none 0 0) (.slice none 0 0) from fun X b0 h0 => by
    rw [← hfm]
    exact ⟨(SL.nil X), (slOf h0 (by unfold maxLen; simp)), SLN.nil X, (SL.nil X)⟩)
  have HCK := Lib.hid (show ∀ W, Below w.heap.size w W → ∀ xu xs xn xb, IsMsg W fm xu xs xn xb → Calls Tryd.prog 28 #[.agg #[.int .i64 2, xu, xs, xn, xb]] W fun e w' => e = .returned (Ei.evA a 4) ∧ Below W.heap.size W w' from fun W hW xu xs xn xb h => by
    have := Check_any W a ((ErrsM.of hE).below hW) (hT.below hW) fm xu xs xn xb h (hfm ▸ hfit)
    rw [hfk, hc] at this
    exact this)
  have HRC := Lib.hid (show ∀ W xu xs xn xb, IsMsg W fm xu xs xn xb → Calls Tryd.prog 29 #[.agg #[.int .i64 2, xu, xs, xn, xb]] W fun e w' => e = .returned (.int .i64 4) ∧ Below W.heap.size W w' from fun W xu xs xn xb h => by
    have := RefCheck_any W fm xu xs xn xb h (hfm ▸ hfit)
    rw [hfk, hc] at this
    exact this)
  have HCD := Lib.hid (show ∀ W : World, Below w.heap.size w W → Calls Tryd.prog 16 #[Ei.evA a 4] W fun e w' => e = .returned (.int .i64 4) ∧ W = w' from fun W hW => Ei.Code_any W a (hE.below hW) 4 (by decide))
  have HBY := Lib.hid (show ∀ W, Below w.heap.size w W → ∀ xu xs xn xb, IsMsg W fm xu xs xn xb → Calls Tryd.prog 30 #[.agg #[.int .i64 2, xu, xs, xn, xb]] W fun e w' => e = .returned (.string ⟨#[]⟩) ∧ Below W.heap.size W w' from fun W hW xu xs xn xb h => by
    have := MsgBytes_any W a ((ErrsM.of hE).below hW) (hT.below hW) fm xu xs xn xb h (hfm ▸ hfit)
    rw [hfk, bytes_no (by rw [hc]; decide)] at this
    exact this)
  have HPA := Lib.hid (show ∀ W, Below w.heap.size w W → Calls Tryd.prog 32 #[.string ⟨#[]⟩] W fun e w' => ∃ yu ys yn yb, e = .returned (.tuple #[.agg #[.int .i64 0, yu, ys, yn, yb], Ei.evA a 2]) ∧ IsMsg w' zero yu ys yn yb ∧ Below W.heap.size W w' from fun W hW => by
    refine (Parse_any W a ((ErrsM.of hE).below hW) (hT.below hW) (cell_later hM hW) ⟨#[]⟩ (by decide)).mono ?_
    rintro e w' ⟨vu, vs, vn, vb, h1, h2, _, h3⟩
    rw [parse_none.2] at h1 h2
    rw [parse_none.1] at h1
    exact ⟨vu, vs, vn, vb, h1, h2, h3⟩)
  obtain ⟨ev2, hev2⟩ : ∃ ev2, Ei.evA a 2 = ev2 := ⟨_, rfl⟩
  rw [hev2] at HPA
  clear hev2
  obtain ⟨ev, hev⟩ : ∃ ev, Ei.evA a 4 = ev := ⟨_, rfl⟩
  rw [hev] at HCK HCD
  have hz1 : decide ((32768 : Int) < (S.size : Int)) = true := by rw [hSs]; simp; omega
  have hz2 : decide (32768 < S.size) = true := by rw [hSs]; simp; omega
  have hz3 : 32768 < S.size := by rw [hSs]; exact hbig
  have HSS := Lib.hid hSs
  have hq0 : (0 : Int) ≤ q := by omega
  have hq1 : (q : Int) ≤ 15 := by omega
  have HZ := Lib.hid (And.intro hz1 (And.intro hz2 hz3))
  have HIB := Lib.hid (info_parts Bo.infoByte)
  clear hE hT hM hfit hc hB hBs hfm hfk hev hS hSs hS4 hbig hz1 hz2 hz3 hq
  go_enter Tryd.func9, Tryd.ntmps9
  go_upto_region 6 with (first
    | (go_at_call 18; refine HAW.out.mono ?_; rintro e w1 ⟨rfl, hb1⟩; skip
       have HW := Lib.hid hb1; clear hb1)
    | (refine Cv.store_blk rfl 36 _ _ rfl (w1.heap.size + 1) #[.int .i64 2, .slice none 0 0, .slice none 0 0, .slice none 0 0, .slice none 0 0] #[.int .i64 0, .slice none 0 0, .slice none 0 0, .slice none 0 0, .slice none 0 0] 36 rfl rfl (Rg.Blk.newAt (by simp) _ _) (by kernel_rfl) rfl (by simp [Value.oneCell']) ?_
       intro Y hY hgY
       have HWY := Lib.hid (((HW.out.alloc HW.out.size _).alloc (by have := HW.out.size; simp; omega) _).grown hgY (by have := HW.out.size; simp; omega) (fun k hk => by cases hk; have := HW.out.size; omega))
       have HY := Lib.hid hY; have HYL := Lib.hid (show w.heap.size ≤ (w1.heap.size + 1) by have := HW.out.size; omega)
       clear hY hgY)
    | (obtain ⟨ib, hi1, hi2, hi3, hi4⟩ := HIB.out; refine wpList_make_full _ rfl _ _ _ rfl Y.heap.size 5 ib (.int .u8 0) 1 Tryd.underlying35 hi1 hi2 hi3 .i64 .i64 _ _ (32760 + q) rfl rfl (by omega) (by omega) (by rw [hi4]; omega) (by unfold maxLen; omega) (Nat.le_refl _) ?_
       intro V hV hgV
       rw [made_bv] at hV
       have HV := Lib.hid (show Owns V Y.heap.size 5 (.slice (some ⟨Y.heap.size, 0, none⟩) (32760 + q) (32760 + q)) (bv (List.replicate (32760 + q) 0)) by unfold Owns; rw [bv_length, List.length_replicate]; exact hV)
       have hbV : Below Y.heap.size Y V := (Below.refl _ _).grown hgV (Nat.le_refl _) (fun k hk => by cases hk)
       have HWV := Lib.hid (HWY.out.trans (hbV.mono HWY.out.size))
       have HQ := Lib.hid (HY.out.below hbV HY.out.lt)
       clear hV hgV hbV hi1 hi2 hi3 hi4)
    | (refine Ow.str rfl 35 5 9 _ rfl Tryd.underlying35 Tryd.underlying5 Tryd.underlying9 HV.out rfl ?_; rw [show (⟨(List.replicate (32760 + q) (0 : UInt8)).toArray⟩ : ByteArray) = S from HS.out]))
  skip
  have hm0 : Mem w [] V [Sp.blk (w1.heap.size + 1) 36 #[.int .i64 2, .slice none 0 0, .slice none 0 0, .slice none 0 0, .slice none 0 0]] := ⟨Upd.of_below HWV.out, [[w1.heap.size + 1]], ⟨⟨rfl, HQ.out⟩, trivial⟩, by simp, fun k hk => by simp at hk; subst hk; exact .inr HYL.out⟩
  have hm1 := (hm0.alloc #[.string S] 9)
  simp only [World.size_alloc, List.cons_append, List.nil_append] at hm1
  have HM := Lib.hid hm1
  clear hm0 hm1 HQ HWV HV HWY HY
  go_upto_region 12 with (first
    | (refine store_slice rfl 23 _ _ rfl rfl rfl Tryd.underlying23 (by kernel_rfl) (HM.out.blk 0 rfl) rfl ?_
       intro Z0 hZ hgZ
       have hmz := HM.out.store 0 rfl hZ hgZ
       simp only [List.set_cons_zero, List.setIfInBounds_toArray, List.set_cons_succ] at hmz
       have HM1 := Lib.hid hmz
       clear hZ hgZ hmz))
  generalize w1.heap.size + 1 = P0 at *
  have HI := Lib.hid (HIM.out Z0 _ (HM1.out.blk 1 rfl))
  have HW2 := Lib.hid HM1.out.bel
  have HD := Lib.hid (HM1.out.blk 0 rfl)
  generalize V.heap.size = b0 at *
  clear HM HM1
  obtain ⟨hz1, hz2, hz3⟩ := HZ.out
  go_upto_region 15 with (first
    | (refine wpList_load_row rfl 36 _ rfl _ rfl _ _ _ _ HD.out Tryd.underlying36 rfl (by kernel_rfl) ?_; skip)
    | (go_at_call 28; refine (HCK.out _ HW2.out _ _ _ _ HI.out).mono ?_; rintro e w5 ⟨rfl, hb⟩; skip; have HW2x := Lib.hid (HW2.out.trans (hb.mono HW2.out.size)); clear HW2; have HW2 := HW2x; clear HW2x; have HDx := Lib.hid (HD.out.below hb HD.out.lt); clear HD; have HD := HDx; clear HDx; have HIx := Lib.hid (HI.out.below hb); clear HI; have HI := HIx; clear HIx; clear hb)
    | (go_at_call 16; refine (HCD.out _ HW2.out).mono ?_; rintro e w6 ⟨rfl, rfl⟩; skip)
    | (go_at_call 30; refine (HBY.out _ HW2.out _ _ _ _ HI.out).mono ?_; rintro e w7 ⟨rfl, hb⟩; skip; have HW2x := Lib.hid (HW2.out.trans (hb.mono HW2.out.size)); clear HW2; have HW2 := HW2x; clear HW2x; have HDx := Lib.hid (HD.out.below hb HD.out.lt); clear HD; have HD := HDx; clear HDx; have HIx := Lib.hid (HI.out.below hb); clear HI; have HI := HIx; clear HIx; clear hb)
    | (go_at_call 32; refine (HPA.out _ HW2.out).mono ?_; rintro e w8 ⟨yu, ys, yn, yb, rfl, hy, hb⟩
       obtain ⟨gu, hu, iu, rfl, _⟩ := hy.u
       obtain ⟨gS, hS, iS, rfl, _⟩ := hy.s
       obtain ⟨yns, ⟨gn, hn, iN, rfl, _⟩, _⟩ := hy.n
       obtain ⟨gb, hB, ib, rfl, _⟩ := hy.b
       have HY2 := Lib.hid hy
       have HW2x := Lib.hid (HW2.out.trans (hb.mono HW2.out.size)); clear HW2; have HW2 := HW2x; clear HW2x; have HDx := Lib.hid (HD.out.below hb HD.out.lt); clear HD; have HD := HDx; clear HDx; have HIx := Lib.hid (HI.out.below hb); clear HI; have HI := HIx; clear HIx; clear hb hy)
    | (refine Rg.store_fresh rfl 32 _ _ rfl #[.int .i64 0, .slice gu hu iu, .slice gS hS iS, .slice gn hn iN, .slice gb hB ib] _ 32 rfl rfl (by kernel_rfl) rfl (by simp [Value.oneCell']) ?_
       intro Z hZ hbZ
       have HE := Lib.hid hZ; have HY2x := Lib.hid (HY2.out.below hbZ); clear HY2; have HY2 := HY2x; clear HY2x; have HW2x := Lib.hid (HW2.out.trans (hbZ.mono HW2.out.size)); clear HW2; have HW2 := HW2x; clear HW2x; have HDx := Lib.hid (HD.out.below hbZ HD.out.lt); clear HD; have HD := HDx; clear HDx; have HIx := Lib.hid (HI.out.below hbZ); clear HI; have HI := HIx; clear HIx; clear hZ hbZ))
  go_wp2_with (first
    | (refine wpList_load_row rfl 36 _ rfl _ rfl _ _ _ _ HD.out Tryd.underlying36 rfl (by kernel_rfl) ?_; skip)
    | (go_at_call 29; refine (HRC.out _ _ _ _ _ HI.out).mono ?_; rintro e w9 ⟨rfl, hb⟩; skip; have HW2x := Lib.hid (HW2.out.trans (hb.mono HW2.out.size)); clear HW2; have HW2 := HW2x; clear HW2x; have HDx := Lib.hid (HD.out.below hb HD.out.lt); clear HD; have HD := HDx; clear HDx; have HIx := Lib.hid (HI.out.below hb); clear HI; have HI := HIx; clear HIx; have HEx := Lib.hid (HE.out.below hb HE.out.lt); clear HE; have HE := HEx; clear HEx; have HY2x := Lib.hid (HY2.out.below hb); clear HY2; have HY2 := HY2x; clear HY2x; clear hb
       skip))
  go_ret
  exact ⟨by simp, HW2.out⟩
set_option maxRecDepth 20000 in
set_option maxHeartbeats 8000000 in
theorem long1a (w : World) (kind n : Int) (hr : bits .and .i64 kind 3 = 1) (q : Nat) (hq : q < 16) (hn : bits .and .i64 n 15 = (q : Int)) (hbig : ¬ 32768 < 32760 + q) (a : Nat → Addr) (hE : Ei.ErrsAll w a) (hT : TabR w) (hM : ∃ m, w.cell? ⟨22, 0, none⟩ = some (.int .i64 m)) :
    Calls Tryd.prog 9 #[.int .i64 kind, .int .i64 n] w fun e w' => e = .returned (.bool true) ∧ Below w.heap.size w w' := by
  have HAW := Lib.hid (awake10 w a (ErrsM.of hE) hT hM)
  have HZ0 := Lib.hid (show ∀ w B, (w : World).ownsRow B 5 1 (.slice (some ⟨w.heap.size - 1, 0, none⟩) 0 0) 0 [] → True from fun _ _ _ => trivial)
  clear HZ0
  obtain ⟨S, hS⟩ : ∃ S, zs (32760 + q) = S := ⟨_, rfl⟩
  have hSs : S.size = 32760 + q := by rw [← hS, zs_size]
  have HS := Lib.hid hS
  have hS4 : S.size ≤ 40000 := by omega
  obtain ⟨fm, hfm⟩ : ∃ fm, lm1 S = fm := ⟨_, rfl⟩
  have hfk : fm.kind = 94 := by rw [← hfm]; rfl
  have hfit := (lm1_fit S hS4).1
  have hc : checkC fm = 0 := by rw [← hfm, lm1_check, hSs]; exact if_neg hbig
  obtain ⟨B, hB⟩ : ∃ B, mkS (bytesL fm) = B := ⟨_, rfl⟩
  have hBs : B.size ≤ 1000000 := by rw [← hB, mkS_size, ← hfm]; exact lm1_len S hS4
  have HIM := Lib.hid (show ∀ X b0 b1, Rg.Blk X b0 34 #[.int .u32 1] → Rg.Blk X b1 9 #[.string S] → IsMsg X fm (.slice (some ⟨b0, 0, none⟩) 1 1) (.slice (some ⟨b1, 0, none⟩) 1 1) (.slice none 0 0) (.slice none 0 0) from fun X b0 b1 h0 h1 => by
    rw [← hfm]
    exact ⟨(slOf h0 (by unfold maxLen; simp)), (slOf h1 (by unfold maxLen; simp)), SLN.nil X, (SL.nil X)⟩)
  have HCK := Lib.hid (show ∀ W, Below w.heap.size w W → ∀ xu xs xn xb, IsMsg W fm xu xs xn xb → Calls Tryd.prog 28 #[.agg #[.int .i64 94, xu, xs, xn, xb]] W fun e w' => e = .returned (Ei.evA a 0) ∧ Below W.heap.size W w' from fun W hW xu xs xn xb h => by
    have := Check_any W a ((ErrsM.of hE).below hW) (hT.below hW) fm xu xs xn xb h (hfm ▸ hfit)
    rw [hfk, hc] at this
    exact this)
  have HRC := Lib.hid (show ∀ W xu xs xn xb, IsMsg W fm xu xs xn xb → Calls Tryd.prog 29 #[.agg #[.int .i64 94, xu, xs, xn, xb]] W fun e w' => e = .returned (.int .i64 0) ∧ Below W.heap.size W w' from fun W xu xs xn xb h => by
    have := RefCheck_any W fm xu xs xn xb h (hfm ▸ hfit)
    rw [hfk, hc] at this
    exact this)
  have HCD := Lib.hid (show ∀ W : World, Below w.heap.size w W → Calls Tryd.prog 16 #[Ei.evA a 0] W fun e w' => e = .returned (.int .i64 0) ∧ W = w' from fun W hW => Ei.Code_any W a (hE.below hW) 0 (by decide))
  have HBY := Lib.hid (show ∀ W, Below w.heap.size w W → ∀ xu xs xn xb, IsMsg W fm xu xs xn xb → Calls Tryd.prog 30 #[.agg #[.int .i64 94, xu, xs, xn, xb]] W fun e w' => e = .returned (.string B) ∧ Below W.heap.size W w' from fun W hW xu xs xn xb h => by
    have := MsgBytes_any W a ((ErrsM.of hE).below hW) (hT.below hW) fm xu xs xn xb h (hfm ▸ hfit)
    rw [hfk, hB] at this
    exact this)
  have hpb := parse_bytes fm B (hfm ▸ hfit).u hc (by rw [← hB]; exact mkS_list _)
  have HPA := Lib.hid (show ∀ W, Below w.heap.size w W → Calls Tryd.prog 32 #[.string B] W fun e w' => ∃ yu ys yn yb, e = .returned (.tuple #[.agg #[.int .i64 94, yu, ys, yn, yb], .nilIface]) ∧ IsMsg w' fm yu ys yn yb ∧ Below W.heap.size W w' from fun W hW => by
    refine (Parse_any W a ((ErrsM.of hE).below hW) (hT.below hW) (cell_later hM hW) B (by omega)).mono ?_
    rintro e w' ⟨vu, vs, vn, vb, h1, h2, _, h3⟩
    rw [hpb.2] at h1 h2
    rw [hpb.1, hfk] at h1
    exact ⟨vu, vs, vn, vb, h1, h2, h3⟩)
  have HSM := Lib.hid (show ∀ W yu ys yn yb xu xs xn xb, IsMsg W fm yu ys yn yb → IsMsg W fm xu xs xn xb → Calls Tryd.prog 13 #[.agg #[.int .i64 94, yu, ys, yn, yb], .agg #[.int .i64 94, xu, xs, xn, xb]] W fun e w' => e = .returned (.bool true) ∧ Below W.heap.size W w' from fun W vu vs vn vb xu xs xn xb h1 h2 => by
    have := Same_true W fm vu vs vn vb xu xs xn xb h1 h2
    rw [hfk] at this
    exact this)
  clear hpb
  obtain ⟨ev, hev⟩ : ∃ ev, Ei.evA a 0 = ev := ⟨_, rfl⟩
  rw [hev] at HCK HCD
  have hz1 : decide ((32768 : Int) < (S.size : Int)) = false := by rw [hSs]; simp; omega
  have hz2 : decide (32768 < S.size) = false := by rw [hSs]; simp; omega
  have hz3 : ¬ 32768 < S.size := by rw [hSs]; exact hbig
  have HSS := Lib.hid hSs
  have hq0 : (0 : Int) ≤ q := by omega
  have hq1 : (q : Int) ≤ 15 := by omega
  have HZ := Lib.hid (And.intro hz1 (And.intro hz2 hz3))
  have HIB := Lib.hid (info_parts Bo.infoByte)
  clear hE hT hM hfit hc hB hBs hfm hfk hev hS hSs hS4 hbig hz1 hz2 hz3 hq
  go_enter Tryd.func9, Tryd.ntmps9
  go_upto_region 6 with (first
    | (go_at_call 18; refine HAW.out.mono ?_; rintro e w1 ⟨rfl, hb1⟩; skip
       have HW := Lib.hid hb1; clear hb1)
    | (refine Cv.store_blk rfl 36 _ _ rfl (w1.heap.size + 1) #[.int .i64 94, .slice none 0 0, .slice none 0 0, .slice none 0 0, .slice none 0 0] #[.int .i64 0, .slice none 0 0, .slice none 0 0, .slice none 0 0, .slice none 0 0] 36 rfl rfl (Rg.Blk.newAt (by simp) _ _) (by kernel_rfl) rfl (by simp [Value.oneCell']) ?_
       intro Y hY hgY
       have HWY := Lib.hid (((HW.out.alloc HW.out.size _).alloc (by have := HW.out.size; simp; omega) _).grown hgY (by have := HW.out.size; simp; omega) (fun k hk => by cases hk; have := HW.out.size; omega))
       have HY := Lib.hid hY; have HYL := Lib.hid (show w.heap.size ≤ (w1.heap.size + 1) by have := HW.out.size; omega)
       clear hY hgY)
    | (obtain ⟨ib, hi1, hi2, hi3, hi4⟩ := HIB.out; refine wpList_make_full _ rfl _ _ _ rfl Y.heap.size 5 ib (.int .u8 0) 1 Tryd.underlying35 hi1 hi2 hi3 .i64 .i64 _ _ (32760 + q) rfl rfl (by omega) (by omega) (by rw [hi4]; omega) (by unfold maxLen; omega) (Nat.le_refl _) ?_
       intro V hV hgV
       rw [made_bv] at hV
       have HV := Lib.hid (show Owns V Y.heap.size 5 (.slice (some ⟨Y.heap.size, 0, none⟩) (32760 + q) (32760 + q)) (bv (List.replicate (32760 + q) 0)) by unfold Owns; rw [bv_length, List.length_replicate]; exact hV)
       have hbV : Below Y.heap.size Y V := (Below.refl _ _).grown hgV (Nat.le_refl _) (fun k hk => by cases hk)
       have HWV := Lib.hid (HWY.out.trans (hbV.mono HWY.out.size))
       have HQ := Lib.hid (HY.out.below hbV HY.out.lt)
       clear hV hgV hbV hi1 hi2 hi3 hi4)
    | (refine Ow.str rfl 35 5 9 _ rfl Tryd.underlying35 Tryd.underlying5 Tryd.underlying9 HV.out rfl ?_; rw [show (⟨(List.replicate (32760 + q) (0 : UInt8)).toArray⟩ : ByteArray) = S from HS.out]))
  skip
  have hm0 : Mem w [] V [Sp.blk (w1.heap.size + 1) 36 #[.int .i64 94, .slice none 0 0, .slice none 0 0, .slice none 0 0, .slice none 0 0]] := ⟨Upd.of_below HWV.out, [[w1.heap.size + 1]], ⟨⟨rfl, HQ.out⟩, trivial⟩, by simp, fun k hk => by simp at hk; subst hk; exact .inr HYL.out⟩
  have hm1 := ((hm0.alloc #[.int .u32 1] 34).alloc #[.string S] 9)
  simp only [World.size_alloc, List.cons_append, List.nil_append] at hm1
  have HM := Lib.hid hm1
  clear hm0 hm1 HQ HWV HV HWY HY
  go_upto_region 12 with (first
    | (refine store_slice rfl 28 _ _ rfl rfl rfl Tryd.underlying28 (by kernel_rfl) (HM.out.blk 0 rfl) rfl ?_
       intro Z0 hZ hgZ
       have hmz := HM.out.store 0 rfl hZ hgZ
       simp only [List.set_cons_zero, List.setIfInBounds_toArray, List.set_cons_succ] at hmz
       have HM1 := Lib.hid hmz
       clear hZ hgZ hmz)
    | (refine store_slice rfl 23 _ _ rfl rfl rfl Tryd.underlying23 (by kernel_rfl) (HM1.out.blk 0 rfl) rfl ?_
       intro Z1 hZ hgZ
       have hmz := HM1.out.store 0 rfl hZ hgZ
       simp only [List.set_cons_zero, List.setIfInBounds_toArray, List.set_cons_succ] at hmz
       have HM2 := Lib.hid hmz
       clear hZ hgZ hmz))
  generalize w1.heap.size + 1 = P0 at *
  have HI := Lib.hid (HIM.out Z1 _ _ (HM2.out.blk 1 rfl) (HM2.out.blk 2 rfl))
  have HW2 := Lib.hid HM2.out.bel
  have HD := Lib.hid (HM2.out.blk 0 rfl)
  generalize V.heap.size + 1 = b1 at *
  generalize V.heap.size = b0 at *
  clear HM HM1 HM2
  obtain ⟨hz1, hz2, hz3⟩ := HZ.out
  go_upto_region 15 with (first
    | (refine wpList_load_row rfl 36 _ rfl _ rfl _ _ _ _ HD.out Tryd.underlying36 rfl (by kernel_rfl) ?_; skip)
    | (go_at_call 28; refine (HCK.out _ HW2.out _ _ _ _ HI.out).mono ?_; rintro e w5 ⟨rfl, hb⟩; skip; have HW2x := Lib.hid (HW2.out.trans (hb.mono HW2.out.size)); clear HW2; have HW2 := HW2x; clear HW2x; have HDx := Lib.hid (HD.out.below hb HD.out.lt); clear HD; have HD := HDx; clear HDx; have HIx := Lib.hid (HI.out.below hb); clear HI; have HI := HIx; clear HIx; clear hb)
    | (go_at_call 16; refine (HCD.out _ HW2.out).mono ?_; rintro e w6 ⟨rfl, rfl⟩; skip)
    | (go_at_call 30; refine (HBY.out _ HW2.out _ _ _ _ HI.out).mono ?_; rintro e w7 ⟨rfl, hb⟩; skip; have HW2x := Lib.hid (HW2.out.trans (hb.mono HW2.out.size)); clear HW2; have HW2 := HW2x; clear HW2x; have HDx := Lib.hid (HD.out.below hb HD.out.lt); clear HD; have HD := HDx; clear HDx; have HIx := Lib.hid (HI.out.below hb); clear HI; have HI := HIx; clear HIx; clear hb)
    | (go_at_call 32; refine (HPA.out _ HW2.out).mono ?_; rintro e w8 ⟨yu, ys, yn, yb, rfl, hy, hb⟩
       obtain ⟨gu, hu, iu, rfl, _⟩ := hy.u
       obtain ⟨gS, hS, iS, rfl, _⟩ := hy.s
       obtain ⟨yns, ⟨gn, hn, iN, rfl, _⟩, _⟩ := hy.n
       obtain ⟨gb, hB, ib, rfl, _⟩ := hy.b
       have HY2 := Lib.hid hy
       have HW2x := Lib.hid (HW2.out.trans (hb.mono HW2.out.size)); clear HW2; have HW2 := HW2x; clear HW2x; have HDx := Lib.hid (HD.out.below hb HD.out.lt); clear HD; have HD := HDx; clear HDx; have HIx := Lib.hid (HI.out.below hb); clear HI; have HI := HIx; clear HIx; clear hb hy)
    | (refine Rg.store_fresh rfl 32 _ _ rfl #[.int .i64 94, .slice gu hu iu, .slice gS hS iS, .slice gn hn iN, .slice gb hB ib] _ 32 rfl rfl (by kernel_rfl) rfl (by simp [Value.oneCell']) ?_
       intro Z hZ hbZ
       have HE := Lib.hid hZ; have HY2x := Lib.hid (HY2.out.below hbZ); clear HY2; have HY2 := HY2x; clear HY2x; have HW2x := Lib.hid (HW2.out.trans (hbZ.mono HW2.out.size)); clear HW2; have HW2 := HW2x; clear HW2x; have HDx := Lib.hid (HD.out.below hbZ HD.out.lt); clear HD; have HD := HDx; clear HDx; have HIx := Lib.hid (HI.out.below hbZ); clear HI; have HI := HIx; clear HIx; clear hZ hbZ))
  go_wp2_with (first
    | (refine wpList_load_row rfl 36 _ rfl _ rfl _ _ _ _ HD.out Tryd.underlying36 rfl (by kernel_rfl) ?_; skip)
    | (go_at_call 29; refine (HRC.out _ _ _ _ _ HI.out).mono ?_; rintro e w9 ⟨rfl, hb⟩; skip; have HW2x := Lib.hid (HW2.out.trans (hb.mono HW2.out.size)); clear HW2; have HW2 := HW2x; clear HW2x; have HDx := Lib.hid (HD.out.below hb HD.out.lt); clear HD; have HD := HDx; clear HDx; have HIx := Lib.hid (HI.out.below hb); clear HI; have HI := HIx; clear HIx; have HEx := Lib.hid (HE.out.below hb HE.out.lt); clear HE; have HE := HEx; clear HEx; have HY2x := Lib.hid (HY2.out.below hb); clear HY2; have HY2 := HY2x; clear HY2x; clear hb
       have z0 := HE.out.cell 0 (v := .int .i64 94) rfl
       have z1 := HE.out.cell 1 (v := .slice gu hu iu) rfl
       have z2 := HE.out.cell 2 (v := .slice gS hS iS) rfl
       have z3 := HE.out.cell 3 (v := .slice gn hn iN) rfl
       have z4 := HE.out.cell 4 (v := .slice gb hB ib) rfl
       have q0 := HD.out.cell 0 (v := .int .i64 94) rfl
       have q1 := HD.out.cell 1 (v := .slice (some ⟨b0, 0, none⟩) 1 1) rfl
       have q2 := HD.out.cell 2 (v := .slice (some ⟨b1, 0, none⟩) 1 1) rfl
       have q3 := HD.out.cell 3 (v := .slice none 0 0) rfl
       have q4 := HD.out.cell 4 (v := .slice none 0 0) rfl
       skip)
    | (go_at_call 13; refine (HSM.out _ _ _ _ _ _ _ _ _ HY2.out HI.out).mono ?_; rintro e w10 ⟨rfl, hb⟩; skip; have HW2x := Lib.hid (HW2.out.trans (hb.mono HW2.out.size)); clear HW2; have HW2 := HW2x; clear HW2x; clear hb))
  go_ret
  exact ⟨by simp, HW2.out⟩
set_option maxRecDepth 20000 in
set_option maxHeartbeats 8000000 in
theorem long1b (w : World) (kind n : Int) (hr : bits .and .i64 kind 3 = 1) (q : Nat) (hq : q < 16) (hn : bits .and .i64 n 15 = (q : Int)) (hbig : 32768 < 32760 + q) (a : Nat → Addr) (hE : Ei.ErrsAll w a) (hT : TabR w) (hM : ∃ m, w.cell? ⟨22, 0, none⟩ = some (.int .i64 m)) :
    Calls Tryd.prog 9 #[.int .i64 kind, .int .i64 n] w fun e w' => e = .returned (.bool true) ∧ Below w.heap.size w w' := by
  have HAW := Lib.hid (awake10 w a (ErrsM.of hE) hT hM)
  have HZ0 := Lib.hid (show ∀ w B, (w : World).ownsRow B 5 1 (.slice (some ⟨w.heap.size - 1, 0, none⟩) 0 0) 0 [] → True from fun _ _ _ => trivial)
  clear HZ0
  obtain ⟨S, hS⟩ : ∃ S, zs (32760 + q) = S := ⟨_, rfl⟩
  have hSs : S.size = 32760 + q := by rw [← hS, zs_size]
  have HS := Lib.hid hS
  have hS4 : S.size ≤ 40000 := by omega
  obtain ⟨fm, hfm⟩ : ∃ fm, lm1 S = fm := ⟨_, rfl⟩
  have hfk : fm.kind = 94 := by rw [← hfm]; rfl
  have hfit := (lm1_fit S hS4).1
  have hc : checkC fm = 4 := by rw [← hfm, lm1_check, hSs]; exact if_pos hbig
  obtain ⟨B, hB⟩ : ∃ B, mkS (bytesL fm) = B := ⟨_, rfl⟩
  have hBs : B.size ≤ 1000000 := by rw [← hB, mkS_size, ← hfm]; exact lm1_len S hS4
  have HIM := Lib.hid (show ∀ X b0 b1, Rg.Blk X b0 34 #[.int .u32 1] → Rg.Blk X b1 9 #[.string S] → IsMsg X fm (.slice (some ⟨b0, 0, none⟩) 1 1) (.slice (some ⟨b1, 0, none⟩) 1 1) (.slice none 0 0) (.slice none 0 0) from fun X b0 b1 h0 h1 => by
    rw [← hfm]
    exact ⟨(slOf h0 (by unfold maxLen; simp)), (slOf h1 (by unfold maxLen; simp)), SLN.nil X, (SL.nil X)⟩)
  have HCK := Lib.hid (show ∀ W, Below w.heap.size w W → ∀ xu xs xn xb, IsMsg W fm xu xs xn xb → Calls Tryd.prog 28 #[.agg #[.int .i64 94, xu, xs, xn, xb]] W fun e w' => e = .returned (Ei.evA a 4) ∧ Below W.heap.size W w' from fun W hW xu xs xn xb h => by
    have := Check_any W a ((ErrsM.of hE).below hW) (hT.below hW) fm xu xs xn xb h (hfm ▸ hfit)
    rw [hfk, hc] at this
    exact this)
  have HRC := Lib.hid (show ∀ W xu xs xn xb, IsMsg W fm xu xs xn xb → Calls Tryd.prog 29 #[.agg #[.int .i64 94, xu, xs, xn, xb]] W fun e w' => e = .returned (.int .i64 4) ∧ Below W.heap.size W w' from fun W xu xs xn xb h => by
    have := RefCheck_any W fm xu xs xn xb h (hfm ▸ hfit)
    rw [hfk, hc] at this
    exact this)
  have HCD := Lib.hid (show ∀ W : World, Below w.heap.size w W → Calls Tryd.prog 16 #[Ei.evA a 4] W fun e w' => e = .returned (.int .i64 4) ∧ W = w' from fun W hW => Ei.Code_any W a (hE.below hW) 4 (by decide))
  have HBY := Lib.hid (show ∀ W, Below w.heap.size w W → ∀ xu xs xn xb, IsMsg W fm xu xs xn xb → Calls Tryd.prog 30 #[.agg #[.int .i64 94, xu, xs, xn, xb]] W fun e w' => e = .returned (.string ⟨#[]⟩) ∧ Below W.heap.size W w' from fun W hW xu xs xn xb h => by
    have := MsgBytes_any W a ((ErrsM.of hE).below hW) (hT.below hW) fm xu xs xn xb h (hfm ▸ hfit)
    rw [hfk, bytes_no (by rw [hc]; decide)] at this
    exact this)
  have HPA := Lib.hid (show ∀ W, Below w.heap.size w W → Calls Tryd.prog 32 #[.string ⟨#[]⟩] W fun e w' => ∃ yu ys yn yb, e = .returned (.tuple #[.agg #[.int .i64 0, yu, ys, yn, yb], Ei.evA a 2]) ∧ IsMsg w' zero yu ys yn yb ∧ Below W.heap.size W w' from fun W hW => by
    refine (Parse_any W a ((ErrsM.of hE).below hW) (hT.below hW) (cell_later hM hW) ⟨#[]⟩ (by decide)).mono ?_
    rintro e w' ⟨vu, vs, vn, vb, h1, h2, _, h3⟩
    rw [parse_none.2] at h1 h2
    rw [parse_none.1] at h1
    exact ⟨vu, vs, vn, vb, h1, h2, h3⟩)
  obtain ⟨ev2, hev2⟩ : ∃ ev2, Ei.evA a 2 = ev2 := ⟨_, rfl⟩
  rw [hev2] at HPA
  clear hev2
  obtain ⟨ev, hev⟩ : ∃ ev, Ei.evA a 4 = ev := ⟨_, rfl⟩
  rw [hev] at HCK HCD
  have hz1 : decide ((32768 : Int) < (S.size : Int)) = true := by rw [hSs]; simp; omega
  have hz2 : decide (32768 < S.size) = true := by rw [hSs]; simp; omega
  have hz3 : 32768 < S.size := by rw [hSs]; exact hbig
  have HSS := Lib.hid hSs
  have hq0 : (0 : Int) ≤ q := by omega
  have hq1 : (q : Int) ≤ 15 := by omega
  have HZ := Lib.hid (And.intro hz1 (And.intro hz2 hz3))
  have HIB := Lib.hid (info_parts Bo.infoByte)
  clear hE hT hM hfit hc hB hBs hfm hfk hev hS hSs hS4 hbig hz1 hz2 hz3 hq
  go_enter Tryd.func9, Tryd.ntmps9
  go_upto_region 6 with (first
    | (go_at_call 18; refine HAW.out.mono ?_; rintro e w1 ⟨rfl, hb1⟩; skip
       have HW := Lib.hid hb1; clear hb1)
    | (refine Cv.store_blk rfl 36 _ _ rfl (w1.heap.size + 1) #[.int .i64 94, .slice none 0 0, .slice none 0 0, .slice none 0 0, .slice none 0 0] #[.int .i64 0, .slice none 0 0, .slice none 0 0, .slice none 0 0, .slice none 0 0] 36 rfl rfl (Rg.Blk.newAt (by simp) _ _) (by kernel_rfl) rfl (by simp [Value.oneCell']) ?_
       intro Y hY hgY
       have HWY := Lib.hid (((HW.out.alloc HW.out.size _).alloc (by have := HW.out.size; simp; omega) _).grown hgY (by have := HW.out.size; simp; omega) (fun k hk => by cases hk; have := HW.out.size; omega))
       have HY := Lib.hid hY; have HYL := Lib.hid (show w.heap.size ≤ (w1.heap.size + 1) by have := HW.out.size; omega)
       clear hY hgY)
    | (obtain ⟨ib, hi1, hi2, hi3, hi4⟩ := HIB.out; refine wpList_make_full _ rfl _ _ _ rfl Y.heap.size 5 ib (.int .u8 0) 1 Tryd.underlying35 hi1 hi2 hi3 .i64 .i64 _ _ (32760 + q) rfl rfl (by omega) (by omega) (by rw [hi4]; omega) (by unfold maxLen; omega) (Nat.le_refl _) ?_
       intro V hV hgV
       rw [made_bv] at hV
       have HV := Lib.hid (show Owns V Y.heap.size 5 (.slice (some ⟨Y.heap.size, 0, none⟩) (32760 + q) (32760 + q)) (bv (List.replicate (32760 + q) 0)) by unfold Owns; rw [bv_length, List.length_replicate]; exact hV)
       have hbV : Below Y.heap.size Y V := (Below.refl _ _).grown hgV (Nat.le_refl _) (fun k hk => by cases hk)
       have HWV := Lib.hid (HWY.out.trans (hbV.mono HWY.out.size))
       have HQ := Lib.hid (HY.out.below hbV HY.out.lt)
       clear hV hgV hbV hi1 hi2 hi3 hi4)
    | (refine Ow.str rfl 35 5 9 _ rfl Tryd.underlying35 Tryd.underlying5 Tryd.underlying9 HV.out rfl ?_; rw [show (⟨(List.replicate (32760 + q) (0 : UInt8)).toArray⟩ : ByteArray) = S from HS.out]))
  skip
  have hm0 : Mem w [] V [Sp.blk (w1.heap.size + 1) 36 #[.int .i64 94, .slice none 0 0, .slice none 0 0, .slice none 0 0, .slice none 0 0]] := ⟨Upd.of_below HWV.out, [[w1.heap.size + 1]], ⟨⟨rfl, HQ.out⟩, trivial⟩, by simp, fun k hk => by simp at hk; subst hk; exact .inr HYL.out⟩
  have hm1 := ((hm0.alloc #[.int .u32 1] 34).alloc #[.string S] 9)
  simp only [World.size_alloc, List.cons_append, List.nil_append] at hm1
  have HM := Lib.hid hm1
  clear hm0 hm1 HQ HWV HV HWY HY
  go_upto_region 12 with (first
    | (refine store_slice rfl 28 _ _ rfl rfl rfl Tryd.underlying28 (by kernel_rfl) (HM.out.blk 0 rfl) rfl ?_
       intro Z0 hZ hgZ
       have hmz := HM.out.store 0 rfl hZ hgZ
       simp only [List.set_cons_zero, List.setIfInBounds_toArray, List.set_cons_succ] at hmz
       have HM1 := Lib.hid hmz
       clear hZ hgZ hmz)
    | (refine store_slice rfl 23 _ _ rfl rfl rfl Tryd.underlying23 (by kernel_rfl) (HM1.out.blk 0 rfl) rfl ?_
       intro Z1 hZ hgZ
       have hmz := HM1.out.store 0 rfl hZ hgZ
       simp only [List.set_cons_zero, List.setIfInBounds_toArray, List.set_cons_succ] at hmz
       have HM2 := Lib.hid hmz
       clear hZ hgZ hmz))
  generalize w1.heap.size + 1 = P0 at *
  have HI := Lib.hid (HIM.out Z1 _ _ (HM2.out.blk 1 rfl) (HM2.out.blk 2 rfl))
  have HW2 := Lib.hid HM2.out.bel
  have HD := Lib.hid (HM2.out.blk 0 rfl)
  generalize V.heap.size + 1 = b1 at *
  generalize V.heap.size = b0 at *
  clear HM HM1 HM2
  obtain ⟨hz1, hz2, hz3⟩ := HZ.out
  go_upto_region 15 with (first
    | (refine wpList_load_row rfl 36 _ rfl _ rfl _ _ _ _ HD.out Tryd.underlying36 rfl (by kernel_rfl) ?_; skip)
    | (go_at_call 28; refine (HCK.out _ HW2.out _ _ _ _ HI.out).mono ?_; rintro e w5 ⟨rfl, hb⟩; skip; have HW2x := Lib.hid (HW2.out.trans (hb.mono HW2.out.size)); clear HW2; have HW2 := HW2x; clear HW2x; have HDx := Lib.hid (HD.out.below hb HD.out.lt); clear HD; have HD := HDx; clear HDx; have HIx := Lib.hid (HI.out.below hb); clear HI; have HI := HIx; clear HIx; clear hb)
    | (go_at_call 16; refine (HCD.out _ HW2.out).mono ?_; rintro e w6 ⟨rfl, rfl⟩; skip)
    | (go_at_call 30; refine (HBY.out _ HW2.out _ _ _ _ HI.out).mono ?_; rintro e w7 ⟨rfl, hb⟩; skip; have HW2x := Lib.hid (HW2.out.trans (hb.mono HW2.out.size)); clear HW2; have HW2 := HW2x; clear HW2x; have HDx := Lib.hid (HD.out.below hb HD.out.lt); clear HD; have HD := HDx; clear HDx; have HIx := Lib.hid (HI.out.below hb); clear HI; have HI := HIx; clear HIx; clear hb)
    | (go_at_call 32; refine (HPA.out _ HW2.out).mono ?_; rintro e w8 ⟨yu, ys, yn, yb, rfl, hy, hb⟩
       obtain ⟨gu, hu, iu, rfl, _⟩ := hy.u
       obtain ⟨gS, hS, iS, rfl, _⟩ := hy.s
       obtain ⟨yns, ⟨gn, hn, iN, rfl, _⟩, _⟩ := hy.n
       obtain ⟨gb, hB, ib, rfl, _⟩ := hy.b
       have HY2 := Lib.hid hy
       have HW2x := Lib.hid (HW2.out.trans (hb.mono HW2.out.size)); clear HW2; have HW2 := HW2x; clear HW2x; have HDx := Lib.hid (HD.out.below hb HD.out.lt); clear HD; have HD := HDx; clear HDx; have HIx := Lib.hid (HI.out.below hb); clear HI; have HI := HIx; clear HIx; clear hb hy)
    | (refine Rg.store_fresh rfl 32 _ _ rfl #[.int .i64 0, .slice gu hu iu, .slice gS hS iS, .slice gn hn iN, .slice gb hB ib] _ 32 rfl rfl (by kernel_rfl) rfl (by simp [Value.oneCell']) ?_
       intro Z hZ hbZ
       have HE := Lib.hid hZ; have HY2x := Lib.hid (HY2.out.below hbZ); clear HY2; have HY2 := HY2x; clear HY2x; have HW2x := Lib.hid (HW2.out.trans (hbZ.mono HW2.out.size)); clear HW2; have HW2 := HW2x; clear HW2x; have HDx := Lib.hid (HD.out.below hbZ HD.out.lt); clear HD; have HD := HDx; clear HDx; have HIx := Lib.hid (HI.out.below hbZ); clear HI; have HI := HIx; clear HIx; clear hZ hbZ))
  go_wp2_with (first
    | (refine wpList_load_row rfl 36 _ rfl _ rfl _ _ _ _ HD.out Tryd.underlying36 rfl (by kernel_rfl) ?_; skip)
    | (go_at_call 29; refine (HRC.out _ _ _ _ _ HI.out).mono ?_; rintro e w9 ⟨rfl, hb⟩; skip; have HW2x := Lib.hid (HW2.out.trans (hb.mono HW2.out.size)); clear HW2; have HW2 := HW2x; clear HW2x; have HDx := Lib.hid (HD.out.below hb HD.out.lt); clear HD; have HD := HDx; clear HDx; have HIx := Lib.hid (HI.out.below hb); clear HI; have HI := HIx; clear HIx; have HEx := Lib.hid (HE.out.below hb HE.out.lt); clear HE; have HE := HEx; clear HEx; have HY2x := Lib.hid (HY2.out.below hb); clear HY2; have HY2 := HY2x; clear HY2x; clear hb
       skip))
  go_ret
  exact ⟨by simp, HW2.out⟩
set_option maxRecDepth 20000 in
set_option maxHeartbeats 8000000 in
theorem long2a (w : World) (kind n : Int) (hr : bits .and .i64 kind 3 = 2) (q : Nat) (hq : q < 16) (hn : bits .and .i64 n 15 = (q : Int)) (hbig : ¬ 32768 < 32760 + q) (a : Nat → Addr) (hE : Ei.ErrsAll w a) (hT : TabR w) (hM : ∃ m, w.cell? ⟨22, 0, none⟩ = some (.int .i64 m)) :
    Calls Tryd.prog 9 #[.int .i64 kind, .int .i64 n] w fun e w' => e = .returned (.bool true) ∧ Below w.heap.size w w' := by
  have HAW := Lib.hid (awake10 w a (ErrsM.of hE) hT hM)
  have HZ0 := Lib.hid (show ∀ w B, (w : World).ownsRow B 5 1 (.slice (some ⟨w.heap.size - 1, 0, none⟩) 0 0) 0 [] → True from fun _ _ _ => trivial)
  clear HZ0
  obtain ⟨S, hS⟩ : ∃ S, zs (32760 + q) = S := ⟨_, rfl⟩
  have hSs : S.size = 32760 + q := by rw [← hS, zs_size]
  have HS := Lib.hid hS
  have hS4 : S.size ≤ 40000 := by omega
  obtain ⟨fm, hfm⟩ : ∃ fm, lm2 S = fm := ⟨_, rfl⟩
  have hfk : fm.kind = 81 := by rw [← hfm]; rfl
  have hfit := (lm2_fit S hS4).1
  have hc : checkC fm = 0 := by rw [← hfm, lm2_check, hSs]; exact if_neg hbig
  obtain ⟨B, hB⟩ : ∃ B, mkS (bytesL fm) = B := ⟨_, rfl⟩
  have hBs : B.size ≤ 1000000 := by rw [← hB, mkS_size, ← hfm]; exact lm2_len S hS4
  have HIM := Lib.hid (show ∀ X b0, Rg.Blk X b0 9 #[.string S] → IsMsg X fm (.slice none 0 0) (.slice (some ⟨b0, 0, none⟩) 1 1) (.slice none 0 0) (.slice none 0 0) from fun X b0 h0 => by
    rw [← hfm]
    exact ⟨(SL.nil X), (slOf h0 (by unfold maxLen; simp)), SLN.nil X, (SL.nil X)⟩)
  have HCK := Lib.hid (show ∀ W, Below w.heap.size w W → ∀ xu xs xn xb, IsMsg W fm xu xs xn xb → Calls Tryd.prog 28 #[.agg #[.int .i64 81, xu, xs, xn, xb]] W fun e w' => e = .returned (Ei.evA a 0) ∧ Below W.heap.size W w' from fun W hW xu xs xn xb h => by
    have := Check_any W a ((ErrsM.of hE).below hW) (hT.below hW) fm xu xs xn xb h (hfm ▸ hfit)
    rw [hfk, hc] at this
    exact this)
  have HRC := Lib.hid (show ∀ W xu xs xn xb, IsMsg W fm xu xs xn xb → Calls Tryd.prog 29 #[.agg #[.int .i64 81, xu, xs, xn, xb]] W fun e w' => e = .returned (.int .i64 0) ∧ Below W.heap.size W w' from fun W xu xs xn xb h => by
    have := RefCheck_any W fm xu xs xn xb h (hfm ▸ hfit)
    rw [hfk, hc] at this
    exact this)
  have HCD := Lib.hid (show ∀ W : World, Below w.heap.size w W → Calls Tryd.prog 16 #[Ei.evA a 0] W fun e w' => e = .returned (.int .i64 0) ∧ W = w' from fun W hW => Ei.Code_any W a (hE.below hW) 0 (by decide))
  have HBY := Lib.hid (show ∀ W, Below w.heap.size w W → ∀ xu xs xn xb, IsMsg W fm xu xs xn xb → Calls Tryd.prog 30 #[.agg #[.int .i64 81, xu, xs, xn, xb]] W fun e w' => e = .returned (.string B) ∧ Below W.heap.size W w' from fun W hW xu xs xn xb h => by
    have := MsgBytes_any W a ((ErrsM.of hE).below hW) (hT.below hW) fm xu xs xn xb h (hfm ▸ hfit)
    rw [hfk, hB] at this
    exact this)
  have hpb := parse_bytes fm B (hfm ▸ hfit).u hc (by rw [← hB]; exact mkS_list _)
  have HPA := Lib.hid (show ∀ W, Below w.heap.size w W → Calls Tryd.prog 32 #[.string B] W fun e w' => ∃ yu ys yn yb, e = .returned (.tuple #[.agg #[.int .i64 81, yu, ys, yn, yb], .nilIface]) ∧ IsMsg w' fm yu ys yn yb ∧ Below W.heap.size W w' from fun W hW => by
    refine (Parse_any W a ((ErrsM.of hE).below hW) (hT.below hW) (cell_later hM hW) B (by omega)).mono ?_
    rintro e w' ⟨vu, vs, vn, vb, h1, h2, _, h3⟩
    rw [hpb.2] at h1 h2
    rw [hpb.1, hfk] at h1
    exact ⟨vu, vs, vn, vb, h1, h2, h3⟩)
  have HSM := Lib.hid (show ∀ W yu ys yn yb xu xs xn xb, IsMsg W fm yu ys yn yb → IsMsg W fm xu xs xn xb → Calls Tryd.prog 13 #[.agg #[.int .i64 81, yu, ys, yn, yb], .agg #[.int .i64 81, xu, xs, xn, xb]] W fun e w' => e = .returned (.bool true) ∧ Below W.heap.size W w' from fun W vu vs vn vb xu xs xn xb h1 h2 => by
    have := Same_true W fm vu vs vn vb xu xs xn xb h1 h2
    rw [hfk] at this
    exact this)
  clear hpb
  obtain ⟨ev, hev⟩ : ∃ ev, Ei.evA a 0 = ev := ⟨_, rfl⟩
  rw [hev] at HCK HCD
  have hz1 : decide ((32768 : Int) < (S.size : Int)) = false := by rw [hSs]; simp; omega
  have hz2 : decide (32768 < S.size) = false := by rw [hSs]; simp; omega
  have hz3 : ¬ 32768 < S.size := by rw [hSs]; exact hbig
  have HSS := Lib.hid hSs
  have hq0 : (0 : Int) ≤ q := by omega
  have hq1 : (q : Int) ≤ 15 := by omega
  have HZ := Lib.hid (And.intro hz1 (And.intro hz2 hz3))
  have HIB := Lib.hid (info_parts Bo.infoByte)
  clear hE hT hM hfit hc hB hBs hfm hfk hev hS hSs hS4 hbig hz1 hz2 hz3 hq
  go_enter Tryd.func9, Tryd.ntmps9
  go_upto_region 6 with (first
    | (go_at_call 18; refine HAW.out.mono ?_; rintro e w1 ⟨rfl, hb1⟩; skip
       have HW := Lib.hid hb1; clear hb1)
    | (refine Cv.store_blk rfl 36 _ _ rfl (w1.heap.size + 1) #[.int .i64 81, .slice none 0 0, .slice none 0 0, .slice none 0 0, .slice none 0 0] #[.int .i64 0, .slice none 0 0, .slice none 0 0, .slice none 0 0, .slice none 0 0] 36 rfl rfl (Rg.Blk.newAt (by simp) _ _) (by kernel_rfl) rfl (by simp [Value.oneCell']) ?_
       intro Y hY hgY
       have HWY := Lib.hid (((HW.out.alloc HW.out.size _).alloc (by have := HW.out.size; simp; omega) _).grown hgY (by have := HW.out.size; simp; omega) (fun k hk => by cases hk; have := HW.out.size; omega))
       have HY := Lib.hid hY; have HYL := Lib.hid (show w.heap.size ≤ (w1.heap.size + 1) by have := HW.out.size; omega)
       clear hY hgY)
    | (obtain ⟨ib, hi1, hi2, hi3, hi4⟩ := HIB.out; refine wpList_make_full _ rfl _ _ _ rfl Y.heap.size 5 ib (.int .u8 0) 1 Tryd.underlying35 hi1 hi2 hi3 .i64 .i64 _ _ (32760 + q) rfl rfl (by omega) (by omega) (by rw [hi4]; omega) (by unfold maxLen; omega) (Nat.le_refl _) ?_
       intro V hV hgV
       rw [made_bv] at hV
       have HV := Lib.hid (show Owns V Y.heap.size 5 (.slice (some ⟨Y.heap.size, 0, none⟩) (32760 + q) (32760 + q)) (bv (List.replicate (32760 + q) 0)) by unfold Owns; rw [bv_length, List.length_replicate]; exact hV)
       have hbV : Below Y.heap.size Y V := (Below.refl _ _).grown hgV (Nat.le_refl _) (fun k hk => by cases hk)
       have HWV := Lib.hid (HWY.out.trans (hbV.mono HWY.out.size))
       have HQ := Lib.hid (HY.out.below hbV HY.out.lt)
       clear hV hgV hbV hi1 hi2 hi3 hi4)
    | (refine Ow.str rfl 35 5 9 _ rfl Tryd.underlying35 Tryd.underlying5 Tryd.underlying9 HV.out rfl ?_; rw [show (⟨(List.replicate (32760 + q) (0 : UInt8)).toArray⟩ : ByteArray) = S from HS.out]))
  skip
  have hm0 : Mem w [] V [Sp.blk (w1.heap.size + 1) 36 #[.int .i64 81, .slice none 0 0, .slice none 0 0, .slice none 0 0, .slice none 0 0]] := ⟨Upd.of_below HWV.out, [[w1.heap.size + 1]], ⟨⟨rfl, HQ.out⟩, trivial⟩, by simp, fun k hk => by simp at hk; subst hk; exact .inr HYL.out⟩
  have hm1 := (hm0.alloc #[.string S] 9)
  simp only [World.size_alloc, List.cons_append, List.nil_append] at hm1
  have HM := Lib.hid hm1
  clear hm0 hm1 HQ HWV HV HWY HY
  go_upto_region 12 with (first
    | (refine store_slice rfl 23 _ _ rfl rfl rfl Tryd.underlying23 (by kernel_rfl) (HM.out.blk 0 rfl) rfl ?_
       intro Z0 hZ hgZ
       have hmz := HM.out.store 0 rfl hZ hgZ
       simp only [List.set_cons_zero, List.setIfInBounds_toArray, List.set_cons_succ] at hmz
       have HM1 := Lib.hid hmz
       clear hZ hgZ hmz))
  generalize w1.heap.size + 1 = P0 at *
  have HI := Lib.hid (HIM.out Z0 _ (HM1.out.blk 1 rfl))
  have HW2 := Lib.hid HM1.out.bel
  have HD := Lib.hid (HM1.out.blk 0 rfl)
  generalize V.heap.size = b0 at *
  clear HM HM1
  obtain ⟨hz1, hz2, hz3⟩ := HZ.out
  go_upto_region 15 with (first
    | (refine wpList_load_row rfl 36 _ rfl _ rfl _ _ _ _ HD.out Tryd.underlying36 rfl (by kernel_rfl) ?_; skip)
    | (go_at_call 28; refine (HCK.out _ HW2.out _ _ _ _ HI.out).mono ?_; rintro e w5 ⟨rfl, hb⟩; skip; have HW2x := Lib.hid (HW2.out.trans (hb.mono HW2.out.size)); clear HW2; have HW2 := HW2x; clear HW2x; have HDx := Lib.hid (HD.out.below hb HD.out.lt); clear HD; have HD := HDx; clear HDx; have HIx := Lib.hid (HI.out.below hb); clear HI; have HI := HIx; clear HIx; clear hb)
    | (go_at_call 16; refine (HCD.out _ HW2.out).mono ?_; rintro e w6 ⟨rfl, rfl⟩; skip)
    | (go_at_call 30; refine (HBY.out _ HW2.out _ _ _ _ HI.out).mono ?_; rintro e w7 ⟨rfl, hb⟩; skip; have HW2x := Lib.hid (HW2.out.trans (hb.mono HW2.out.size)); clear HW2; have HW2 := HW2x; clear HW2x; have HDx := Lib.hid (HD.out.below hb HD.out.lt); clear HD; have HD := HDx; clear HDx; have HIx := Lib.hid (HI.out.below hb); clear HI; have HI := HIx; clear HIx; clear hb)
    | (go_at_call 32; refine (HPA.out _ HW2.out).mono ?_; rintro e w8 ⟨yu, ys, yn, yb, rfl, hy, hb⟩
       obtain ⟨gu, hu, iu, rfl, _⟩ := hy.u
       obtain ⟨gS, hS, iS, rfl, _⟩ := hy.s
       obtain ⟨yns, ⟨gn, hn, iN, rfl, _⟩, _⟩ := hy.n
       obtain ⟨gb, hB, ib, rfl, _⟩ := hy.b
       have HY2 := Lib.hid hy
       have HW2x := Lib.hid (HW2.out.trans (hb.mono HW2.out.size)); clear HW2; have HW2 := HW2x; clear HW2x; have HDx := Lib.hid (HD.out.below hb HD.out.lt); clear HD; have HD := HDx; clear HDx; have HIx := Lib.hid (HI.out.below hb); clear HI; have HI := HIx; clear HIx; clear hb hy)
    | (refine Rg.store_fresh rfl 32 _ _ rfl #[.int .i64 81, .slice gu hu iu, .slice gS hS iS, .slice gn hn iN, .slice gb hB ib] _ 32 rfl rfl (by kernel_rfl) rfl (by simp [Value.oneCell']) ?_
       intro Z hZ hbZ
       have HE := Lib.hid hZ; have HY2x := Lib.hid (HY2.out.below hbZ); clear HY2; have HY2 := HY2x; clear HY2x; have HW2x := Lib.hid (HW2.out.trans (hbZ.mono HW2.out.size)); clear HW2; have HW2 := HW2x; clear HW2x; have HDx := Lib.hid (HD.out.below hbZ HD.out.lt); clear HD; have HD := HDx; clear HDx; have HIx := Lib.hid (HI.out.below hbZ); clear HI; have HI := HIx; clear HIx; clear hZ hbZ))
  go_wp2_with (first
    | (refine wpList_load_row rfl 36 _ rfl _ rfl _ _ _ _ HD.out Tryd.underlying36 rfl (by kernel_rfl) ?_; skip)
    | (go_at_call 29; refine (HRC.out _ _ _ _ _ HI.out).mono ?_; rintro e w9 ⟨rfl, hb⟩; skip; have HW2x := Lib.hid (HW2.out.trans (hb.mono HW2.out.size)); clear HW2; have HW2 := HW2x; clear HW2x; have HDx := Lib.hid (HD.out.below hb HD.out.lt); clear HD; have HD := HDx; clear HDx; have HIx := Lib.hid (HI.out.below hb); clear HI; have HI := HIx; clear HIx; have HEx := Lib.hid (HE.out.below hb HE.out.lt); clear HE; have HE := HEx; clear HEx; have HY2x := Lib.hid (HY2.out.below hb); clear HY2; have HY2 := HY2x; clear HY2x; clear hb
       have z0 := HE.out.cell 0 (v := .int .i64 81) rfl
       have z1 := HE.out.cell 1 (v := .slice gu hu iu) rfl
       have z2 := HE.out.cell 2 (v := .slice gS hS iS) rfl
       have z3 := HE.out.cell 3 (v := .slice gn hn iN) rfl
       have z4 := HE.out.cell 4 (v := .slice gb hB ib) rfl
       have q0 := HD.out.cell 0 (v := .int .i64 81) rfl
       have q1 := HD.out.cell 1 (v := .slice none 0 0) rfl
       have q2 := HD.out.cell 2 (v := .slice (some ⟨b0, 0, none⟩) 1 1) rfl
       have q3 := HD.out.cell 3 (v := .slice none 0 0) rfl
       have q4 := HD.out.cell 4 (v := .slice none 0 0) rfl
       skip)
    | (go_at_call 13; refine (HSM.out _ _ _ _ _ _ _ _ _ HY2.out HI.out).mono ?_; rintro e w10 ⟨rfl, hb⟩; skip; have HW2x := Lib.hid (HW2.out.trans (hb.mono HW2.out.size)); clear HW2; have HW2 := HW2x; clear HW2x; clear hb))
  go_ret
  exact ⟨by simp, HW2.out⟩
set_option maxRecDepth 20000 in
set_option maxHeartbeats 8000000 in
theorem long2b (w : World) (kind n : Int) (hr : bits .and .i64 kind 3 = 2) (q : Nat) (hq : q < 16) (hn : bits .and .i64 n 15 = (q : Int)) (hbig : 32768 < 32760 + q) (a : Nat → Addr) (hE : Ei.ErrsAll w a) (hT : TabR w) (hM : ∃ m, w.cell? ⟨22, 0, none⟩ = some (.int .i64 m)) :
    Calls Tryd.prog 9 #[.int .i64 kind, .int .i64 n] w fun e w' => e = .returned (.bool true) ∧ Below w.heap.size w w' := by
  have HAW := Lib.hid (awake10 w a (ErrsM.of hE) hT hM)
  have HZ0 := Lib.hid (show ∀ w B, (w : World).ownsRow B 5 1 (.slice (some ⟨w.heap.size - 1, 0, none⟩) 0 0) 0 [] → True from fun _ _ _ => trivial)
  clear HZ0
  obtain ⟨S, hS⟩ : ∃ S, zs (32760 + q) = S := ⟨_, rfl⟩
  have hSs : S.size = 32760 + q := by rw [← hS, zs_size]
  have HS := Lib.hid hS
  have hS4 : S.size ≤ 40000 := by omega
  obtain ⟨fm, hfm⟩ : ∃ fm, lm2 S = fm := ⟨_, rfl⟩
  have hfk : fm.kind = 81 := by rw [← hfm]; rfl
  have hfit := (lm2_fit S hS4).1
  have hc : checkC fm = 4 := by rw [← hfm, lm2_check, hSs]; exact if_pos hbig
  obtain ⟨B, hB⟩ : ∃ B, mkS (bytesL fm) = B := ⟨_, rfl⟩
  have hBs : B.size ≤ 1000000 := by rw [← hB, mkS_size, ← hfm]; exact lm2_len S hS4
  have HIM := Lib.hid (show ∀ X b0, Rg.Blk X b0 9 #[.string S] → IsMsg X fm (.slice none 0 0) (.slice (some ⟨b0, 0, none⟩) 1 1) (.slice none 0 0) (.slice none 0 0) from fun X b0 h0 => by
    rw [← hfm]
    exact ⟨(SL.nil X), (slOf h0 (by unfold maxLen; simp)), SLN.nil X, (SL.nil X)⟩)
  have HCK := Lib.hid (show ∀ W, Below w.heap.size w W → ∀ xu xs xn xb, IsMsg W fm xu xs xn xb → Calls Tryd.prog 28 #[.agg #[.int .i64 81, xu, xs, xn, xb]] W fun e w' => e = .returned (Ei.evA a 4) ∧ Below W.heap.size W w' from fun W hW xu xs xn xb h => by
    have := Check_any W a ((ErrsM.of hE).below hW) (hT.below hW) fm xu xs xn xb h (hfm ▸ hfit)
    rw [hfk, hc] at this
    exact this)
  have HRC := Lib.hid (show ∀ W xu xs xn xb, IsMsg W fm xu xs xn xb → Calls Tryd.prog 29 #[.agg #[.int .i64 81, xu, xs, xn, xb]] W fun e w' => e = .returned (.int .i64 4) ∧ Below W.heap.size W w' from fun W xu xs xn xb h => by
    have := RefCheck_any W fm xu xs xn xb h (hfm ▸ hfit)
    rw [hfk, hc] at this
    exact this)
  have HCD := Lib.hid (show ∀ W : World, Below w.heap.size w W → Calls Tryd.prog 16 #[Ei.evA a 4] W fun e w' => e = .returned (.int .i64 4) ∧ W = w' from fun W hW => Ei.Code_any W a (hE.below hW) 4 (by decide))
  have HBY := Lib.hid (show ∀ W, Below w.heap.size w W → ∀ xu xs xn xb, IsMsg W fm xu xs xn xb → Calls Tryd.prog 30 #[.agg #[.int .i64 81, xu, xs, xn, xb]] W fun e w' => e = .returned (.string ⟨#[]⟩) ∧ Below W.heap.size W w' from fun W hW xu xs xn xb h => by
    have := MsgBytes_any W a ((ErrsM.of hE).below hW) (hT.below hW) fm xu xs xn xb h (hfm ▸ hfit)
    rw [hfk, bytes_no (by rw [hc]; decide)] at this
    exact this)
  have HPA := Lib.hid (show ∀ W, Below w.heap.size w W → Calls Tryd.prog 32 #[.string ⟨#[]⟩] W fun e w' => ∃ yu ys yn yb, e = .returned (.tuple #[.agg #[.int .i64 0, yu, ys, yn, yb], Ei.evA a 2]) ∧ IsMsg w' zero yu ys yn yb ∧ Below W.heap.size W w' from fun W hW => by
    refine (Parse_any W a ((ErrsM.of hE).below hW) (hT.below hW) (cell_later hM hW) ⟨#[]⟩ (by decide)).mono ?_
    rintro e w' ⟨vu, vs, vn, vb, h1, h2, _, h3⟩
    rw [parse_none.2] at h1 h2
    rw [parse_none.1] at h1
    exact ⟨vu, vs, vn, vb, h1, h2, h3⟩)
  obtain ⟨ev2, hev2⟩ : ∃ ev2, Ei.evA a 2 = ev2 := ⟨_, rfl⟩
  rw [hev2] at HPA
  clear hev2
  obtain ⟨ev, hev⟩ : ∃ ev, Ei.evA a 4 = ev := ⟨_, rfl⟩
  rw [hev] at HCK HCD
  have hz1 : decide ((32768 : Int) < (S.size : Int)) = true := by rw [hSs]; simp; omega
  have hz2 : decide (32768 < S.size) = true := by rw [hSs]; simp; omega
  have hz3 : 32768 < S.size := by rw [hSs]; exact hbig
  have HSS := Lib.hid hSs
  have hq0 : (0 : Int) ≤ q := by omega
  have hq1 : (q : Int) ≤ 15 := by omega
  have HZ := Lib.hid (And.intro hz1 (And.intro hz2 hz3))
  have HIB := Lib.hid (info_parts Bo.infoByte)
  clear hE hT hM hfit hc hB hBs hfm hfk hev hS hSs hS4 hbig hz1 hz2 hz3 hq
  go_enter Tryd.func9, Tryd.ntmps9
  go_upto_region 6 with (first
    | (go_at_call 18; refine HAW.out.mono ?_; rintro e w1 ⟨rfl, hb1⟩; skip
       have HW := Lib.hid hb1; clear hb1)
    | (refine Cv.store_blk rfl 36 _ _ rfl (w1.heap.size + 1) #[.int .i64 81, .slice none 0 0, .slice none 0 0, .slice none 0 0, .slice none 0 0] #[.int .i64 0, .slice none 0 0, .slice none 0 0, .slice none 0 0, .slice none 0 0] 36 rfl rfl (Rg.Blk.newAt (by simp) _ _) (by kernel_rfl) rfl (by simp [Value.oneCell']) ?_
       intro Y hY hgY
       have HWY := Lib.hid (((HW.out.alloc HW.out.size _).alloc (by have := HW.out.size; simp; omega) _).grown hgY (by have := HW.out.size; simp; omega) (fun k hk => by cases hk; have := HW.out.size; omega))
       have HY := Lib.hid hY; have HYL := Lib.hid (show w.heap.size ≤ (w1.heap.size + 1) by have := HW.out.size; omega)
       clear hY hgY)
    | (obtain ⟨ib, hi1, hi2, hi3, hi4⟩ := HIB.out; refine wpList_make_full _ rfl _ _ _ rfl Y.heap.size 5 ib (.int .u8 0) 1 Tryd.underlying35 hi1 hi2 hi3 .i64 .i64 _ _ (32760 + q) rfl rfl (by omega) (by omega) (by rw [hi4]; omega) (by unfold maxLen; omega) (Nat.le_refl _) ?_
       intro V hV hgV
       rw [made_bv] at hV
       have HV := Lib.hid (show Owns V Y.heap.size 5 (.slice (some ⟨Y.heap.size, 0, none⟩) (32760 + q) (32760 + q)) (bv (List.replicate (32760 + q) 0)) by unfold Owns; rw [bv_length, List.length_replicate]; exact hV)
       have hbV : Below Y.heap.size Y V := (Below.refl _ _).grown hgV (Nat.le_refl _) (fun k hk => by cases hk)
       have HWV := Lib.hid (HWY.out.trans (hbV.mono HWY.out.size))
       have HQ := Lib.hid (HY.out.below hbV HY.out.lt)
       clear hV hgV hbV hi1 hi2 hi3 hi4)
    | (refine Ow.str rfl 35 5 9 _ rfl Tryd.underlying35 Tryd.underlying5 Tryd.underlying9 HV.out rfl ?_; rw [show (⟨(List.replicate (32760 + q) (0 : UInt8)).toArray⟩ : ByteArray) = S from HS.out]))
  skip
  have hm0 : Mem w [] V [Sp.blk (w1.heap.size + 1) 36 #[.int .i64 81, .slice none 0 0, .slice none 0 0, .slice none 0 0, .slice none 0 0]] := ⟨Upd.of_below HWV.out, [[w1.heap.size + 1]], ⟨⟨rfl, HQ.out⟩, trivial⟩, by simp, fun k hk => by simp at hk; subst hk; exact .inr HYL.out⟩
  have hm1 := (hm0.alloc #[.string S] 9)
  simp only [World.size_alloc, List.cons_append, List.nil_append] at hm1
  have HM := Lib.hid hm1
  clear hm0 hm1 HQ HWV HV HWY HY
  go_upto_region 12 with (first
    | (refine store_slice rfl 23 _ _ rfl rfl rfl Tryd.underlying23 (by kernel_rfl) (HM.out.blk 0 rfl) rfl ?_
       intro Z0 hZ hgZ
       have hmz := HM.out.store 0 rfl hZ hgZ
       simp only [List.set_cons_zero, List.setIfInBounds_toArray, List.set_cons_succ] at hmz
       have HM1 := Lib.hid hmz
       clear hZ hgZ hmz))
  generalize w1.heap.size + 1 = P0 at *
  have HI := Lib.hid (HIM.out Z0 _ (HM1.out.blk 1 rfl))
  have HW2 := Lib.hid HM1.out.bel
  have HD := Lib.hid (HM1.out.blk 0 rfl)
  generalize V.heap.size = b0 at *
  clear HM HM1
  obtain ⟨hz1, hz2, hz3⟩ := HZ.out
  go_upto_region 15 with (first
    | (refine wpList_load_row rfl 36 _ rfl _ rfl _ _ _ _ HD.out Tryd.underlying36 rfl (by kernel_rfl) ?_; skip)
    | (go_at_call 28; refine (HCK.out _ HW2.out _ _ _ _ HI.out).mono ?_; rintro e w5 ⟨rfl, hb⟩; skip; have HW2x := Lib.hid (HW2.out.trans (hb.mono HW2.out.size)); clear HW2; have HW2 := HW2x; clear HW2x; have HDx := Lib.hid (HD.out.below hb HD.out.lt); clear HD; have HD := HDx; clear HDx; have HIx := Lib.hid (HI.out.below hb); clear HI; have HI := HIx; clear HIx; clear hb)
    | (go_at_call 16; refine (HCD.out _ HW2.out).mono ?_; rintro e w6 ⟨rfl, rfl⟩; skip)
    | (go_at_call 30; refine (HBY.out _ HW2.out _ _ _ _ HI.out).mono ?_; rintro e w7 ⟨rfl, hb⟩; skip; have HW2x := Lib.hid (HW2.out.trans (hb.mono HW2.out.size)); clear HW2; have HW2 := HW2x; clear HW2x; have HDx := Lib.hid (HD.out.below hb HD.out.lt); clear HD; have HD := HDx; clear HDx; have HIx := Lib.hid (HI.out.below hb); clear HI; have HI := HIx; clear HIx; clear hb)
    | (go_at_call 32; refine (HPA.out _ HW2.out).mono ?_; rintro e w8 ⟨yu, ys, yn, yb, rfl, hy, hb⟩
       obtain ⟨gu, hu, iu, rfl, _⟩ := hy.u
       obtain ⟨gS, hS, iS, rfl, _⟩ := hy.s
       obtain ⟨yns, ⟨gn, hn, iN, rfl, _⟩, _⟩ := hy.n
       obtain ⟨gb, hB, ib, rfl, _⟩ := hy.b
       have HY2 := Lib.hid hy
       have HW2x := Lib.hid (HW2.out.trans (hb.mono HW2.out.size)); clear HW2; have HW2 := HW2x; clear HW2x; have HDx := Lib.hid (HD.out.below hb HD.out.lt); clear HD; have HD := HDx; clear HDx; have HIx := Lib.hid (HI.out.below hb); clear HI; have HI := HIx; clear HIx; clear hb hy)
    | (refine Rg.store_fresh rfl 32 _ _ rfl #[.int .i64 0, .slice gu hu iu, .slice gS hS iS, .slice gn hn iN, .slice gb hB ib] _ 32 rfl rfl (by kernel_rfl) rfl (by simp [Value.oneCell']) ?_
       intro Z hZ hbZ
       have HE := Lib.hid hZ; have HY2x := Lib.hid (HY2.out.below hbZ); clear HY2; have HY2 := HY2x; clear HY2x; have HW2x := Lib.hid (HW2.out.trans (hbZ.mono HW2.out.size)); clear HW2; have HW2 := HW2x; clear HW2x; have HDx := Lib.hid (HD.out.below hbZ HD.out.lt); clear HD; have HD := HDx; clear HDx; have HIx := Lib.hid (HI.out.below hbZ); clear HI; have HI := HIx; clear HIx; clear hZ hbZ))
  go_wp2_with (first
    | (refine wpList_load_row rfl 36 _ rfl _ rfl _ _ _ _ HD.out Tryd.underlying36 rfl (by kernel_rfl) ?_; skip)
    | (go_at_call 29; refine (HRC.out _ _ _ _ _ HI.out).mono ?_; rintro e w9 ⟨rfl, hb⟩; skip; have HW2x := Lib.hid (HW2.out.trans (hb.mono HW2.out.size)); clear HW2; have HW2 := HW2x; clear HW2x; have HDx := Lib.hid (HD.out.below hb HD.out.lt); clear HD; have HD := HDx; clear HDx; have HIx := Lib.hid (HI.out.below hb); clear HI; have HI := HIx; clear HIx; have HEx := Lib.hid (HE.out.below hb HE.out.lt); clear HE; have HE := HEx; clear HEx; have HY2x := Lib.hid (HY2.out.below hb); clear HY2; have HY2 := HY2x; clear HY2x; clear hb
       skip))
  go_ret
  exact ⟨by simp, HW2.out⟩
set_option maxRecDepth 20000 in
set_option maxHeartbeats 8000000 in
theorem long3a (w : World) (kind n : Int) (hr : bits .and .i64 kind 3 = 3) (q : Nat) (hq : q < 16) (hn : bits .and .i64 n 15 = (q : Int)) (hbig : ¬ 32768 < 32760 + q) (a : Nat → Addr) (hE : Ei.ErrsAll w a) (hT : TabR w) (hM : ∃ m, w.cell? ⟨22, 0, none⟩ = some (.int .i64 m)) :
    Calls Tryd.prog 9 #[.int .i64 kind, .int .i64 n] w fun e w' => e = .returned (.bool true) ∧ Below w.heap.size w w' := by
  have HAW := Lib.hid (awake10 w a (ErrsM.of hE) hT hM)
  have HZ0 := Lib.hid (show ∀ w B, (w : World).ownsRow B 5 1 (.slice (some ⟨w.heap.size - 1, 0, none⟩) 0 0) 0 [] → True from fun _ _ _ => trivial)
  clear HZ0
  obtain ⟨S, hS⟩ : ∃ S, zs (32760 + q) = S := ⟨_, rfl⟩
  have hSs : S.size = 32760 + q := by rw [← hS, zs_size]
  have HS := Lib.hid hS
  have hS4 : S.size ≤ 40000 := by omega
  obtain ⟨fm, hfm⟩ : ∃ fm, lm3 S = fm := ⟨_, rfl⟩
  have hfk : fm.kind = 98 := by rw [← hfm]; rfl
  have hfit := (lm3_fit S hS4).1
  have hc : checkC fm = 0 := by rw [← hfm, lm3_check, hSs]; exact if_neg hbig
  obtain ⟨B, hB⟩ : ∃ B, mkS (bytesL fm) = B := ⟨_, rfl⟩
  have hBs : B.size ≤ 1000000 := by rw [← hB, mkS_size, ← hfm]; exact lm3_len S hS4
  have HIM := Lib.hid (show ∀ X b0 b1 b2, Rg.Blk X b0 34 #[.int .u32 1] → Rg.Blk X b1 9 #[.string ⟨#[120]⟩, .string S] → Rg.Blk X b2 4 #[.bool true] → IsMsg X fm (.slice (some ⟨b0, 0, none⟩) 1 1) (.slice (some ⟨b1, 0, none⟩) 2 2) (.slice none 0 0) (.slice (some ⟨b2, 0, none⟩) 1 1) from fun X b0 b1 b2 h0 h1 h2 => by
    rw [← hfm]
    exact ⟨(slOf h0 (by unfold maxLen; simp)), (slOf h1 (by unfold maxLen; simp)), SLN.nil X, (slOf h2 (by unfold maxLen; simp))⟩)
  have HCK := Lib.hid (show ∀ W, Below w.heap.size w W → ∀ xu xs xn xb, IsMsg W fm xu xs xn xb → Calls Tryd.prog 28 #[.agg #[.int .i64 98, xu, xs, xn, xb]] W fun e w' => e = .returned (Ei.evA a 0) ∧ Below W.heap.size W w' from fun W hW xu xs xn xb h => by
    have := Check_any W a ((ErrsM.of hE).below hW) (hT.below hW) fm xu xs xn xb h (hfm ▸ hfit)
    rw [hfk, hc] at this
    exact this)
  have HRC := Lib.hid (show ∀ W xu xs xn xb, IsMsg W fm xu xs xn xb → Calls Tryd.prog 29 #[.agg #[.int .i64 98, xu, xs, xn, xb]] W fun e w' => e = .returned (.int .i64 0) ∧ Below W.heap.size W w' from fun W xu xs xn xb h => by
    have := RefCheck_any W fm xu xs xn xb h (hfm ▸ hfit)
    rw [hfk, hc] at this
    exact this)
  have HCD := Lib.hid (show ∀ W : World, Below w.heap.size w W → Calls Tryd.prog 16 #[Ei.evA a 0] W fun e w' => e = .returned (.int .i64 0) ∧ W = w' from fun W hW => Ei.Code_any W a (hE.below hW) 0 (by decide))
  have HBY := Lib.hid (show ∀ W, Below w.heap.size w W → ∀ xu xs xn xb, IsMsg W fm xu xs xn xb → Calls Tryd.prog 30 #[.agg #[.int .i64 98, xu, xs, xn, xb]] W fun e w' => e = .returned (.string B) ∧ Below W.heap.size W w' from fun W hW xu xs xn xb h => by
    have := MsgBytes_any W a ((ErrsM.of hE).below hW) (hT.below hW) fm xu xs xn xb h (hfm ▸ hfit)
    rw [hfk, hB] at this
    exact this)
  have hpb := parse_bytes fm B (hfm ▸ hfit).u hc (by rw [← hB]; exact mkS_list _)
  have HPA := Lib.hid (show ∀ W, Below w.heap.size w W → Calls Tryd.prog 32 #[.string B] W fun e w' => ∃ yu ys yn yb, e = .returned (.tuple #[.agg #[.int .i64 98, yu, ys, yn, yb], .nilIface]) ∧ IsMsg w' fm yu ys yn yb ∧ Below W.heap.size W w' from fun W hW => by
    refine (Parse_any W a ((ErrsM.of hE).below hW) (hT.below hW) (cell_later hM hW) B (by omega)).mono ?_
    rintro e w' ⟨vu, vs, vn, vb, h1, h2, _, h3⟩
    rw [hpb.2] at h1 h2
    rw [hpb.1, hfk] at h1
    exact ⟨vu, vs, vn, vb, h1, h2, h3⟩)
  have HSM := Lib.hid (show ∀ W yu ys yn yb xu xs xn xb, IsMsg W fm yu ys yn yb → IsMsg W fm xu xs xn xb → Calls Tryd.prog 13 #[.agg #[.int .i64 98, yu, ys, yn, yb], .agg #[.int .i64 98, xu, xs, xn, xb]] W fun e w' => e = .returned (.bool true) ∧ Below W.heap.size W w' from fun W vu vs vn vb xu xs xn xb h1 h2 => by
    have := Same_true W fm vu vs vn vb xu xs xn xb h1 h2
    rw [hfk] at this
    exact this)
  clear hpb
  obtain ⟨ev, hev⟩ : ∃ ev, Ei.evA a 0 = ev := ⟨_, rfl⟩
  rw [hev] at HCK HCD
  have hz1 : decide ((32768 : Int) < (S.size : Int)) = false := by rw [hSs]; simp; omega
  have hz2 : decide (32768 < S.size) = false := by rw [hSs]; simp; omega
  have hz3 : ¬ 32768 < S.size := by rw [hSs]; exact hbig
  have HSS := Lib.hid hSs
  have hq0 : (0 : Int) ≤ q := by omega
  have hq1 : (q : Int) ≤ 15 := by omega
  have HZ := Lib.hid (And.intro hz1 (And.intro hz2 hz3))
  have HIB := Lib.hid (info_parts Bo.infoByte)
  clear hE hT hM hfit hc hB hBs hfm hfk hev hS hSs hS4 hbig hz1 hz2 hz3 hq
  go_enter Tryd.func9, Tryd.ntmps9
  go_upto_region 6 with (first
    | (go_at_call 18; refine HAW.out.mono ?_; rintro e w1 ⟨rfl, hb1⟩; skip
       have HW := Lib.hid hb1; clear hb1)
    | (refine Cv.store_blk rfl 36 _ _ rfl (w1.heap.size + 1) #[.int .i64 98, .slice none 0 0, .slice none 0 0, .slice none 0 0, .slice none 0 0] #[.int .i64 0, .slice none 0 0, .slice none 0 0, .slice none 0 0, .slice none 0 0] 36 rfl rfl (Rg.Blk.newAt (by simp) _ _) (by kernel_rfl) rfl (by simp [Value.oneCell']) ?_
       intro Y hY hgY
       have HWY := Lib.hid (((HW.out.alloc HW.out.size _).alloc (by have := HW.out.size; simp; omega) _).grown hgY (by have := HW.out.size; simp; omega) (fun k hk => by cases hk; have := HW.out.size; omega))
       have HY := Lib.hid hY; have HYL := Lib.hid (show w.heap.size ≤ (w1.heap.size + 1) by have := HW.out.size; omega)
       clear hY hgY)
    | (obtain ⟨ib, hi1, hi2, hi3, hi4⟩ := HIB.out; refine wpList_make_full _ rfl _ _ _ rfl Y.heap.size 5 ib (.int .u8 0) 1 Tryd.underlying35 hi1 hi2 hi3 .i64 .i64 _ _ (32760 + q) rfl rfl (by omega) (by omega) (by rw [hi4]; omega) (by unfold maxLen; omega) (Nat.le_refl _) ?_
       intro V hV hgV
       rw [made_bv] at hV
       have HV := Lib.hid (show Owns V Y.heap.size 5 (.slice (some ⟨Y.heap.size, 0, none⟩) (32760 + q) (32760 + q)) (bv (List.replicate (32760 + q) 0)) by unfold Owns; rw [bv_length, List.length_replicate]; exact hV)
       have hbV : Below Y.heap.size Y V := (Below.refl _ _).grown hgV (Nat.le_refl _) (fun k hk => by cases hk)
       have HWV := Lib.hid (HWY.out.trans (hbV.mono HWY.out.size))
       have HQ := Lib.hid (HY.out.below hbV HY.out.lt)
       clear hV hgV hbV hi1 hi2 hi3 hi4)
    | (refine Ow.str rfl 35 5 9 _ rfl Tryd.underlying35 Tryd.underlying5 Tryd.underlying9 HV.out rfl ?_; rw [show (⟨(List.replicate (32760 + q) (0 : UInt8)).toArray⟩ : ByteArray) = S from HS.out]))
  skip
  have hm0 : Mem w [] V [Sp.blk (w1.heap.size + 1) 36 #[.int .i64 98, .slice none 0 0, .slice none 0 0, .slice none 0 0, .slice none 0 0]] := ⟨Upd.of_below HWV.out, [[w1.heap.size + 1]], ⟨⟨rfl, HQ.out⟩, trivial⟩, by simp, fun k hk => by simp at hk; subst hk; exact .inr HYL.out⟩
  have hm1 := (((hm0.alloc #[.int .u32 1] 34).alloc #[.string ⟨#[120]⟩, .string S] 9).alloc #[.bool true] 4)
  simp only [World.size_alloc, List.cons_append, List.nil_append] at hm1
  have HM := Lib.hid hm1
  clear hm0 hm1 HQ HWV HV HWY HY
  go_upto_region 12 with (first
    | (refine store_slice rfl 28 _ _ rfl rfl rfl Tryd.underlying28 (by kernel_rfl) (HM.out.blk 0 rfl) rfl ?_
       intro Z0 hZ hgZ
       have hmz := HM.out.store 0 rfl hZ hgZ
       simp only [List.set_cons_zero, List.setIfInBounds_toArray, List.set_cons_succ] at hmz
       have HM1 := Lib.hid hmz
       clear hZ hgZ hmz)
    | (refine store_slice rfl 23 _ _ rfl rfl rfl Tryd.underlying23 (by kernel_rfl) (HM1.out.blk 0 rfl) rfl ?_
       intro Z1 hZ hgZ
       have hmz := HM1.out.store 0 rfl hZ hgZ
       simp only [List.set_cons_zero, List.setIfInBounds_toArray, List.set_cons_succ] at hmz
       have HM2 := Lib.hid hmz
       clear hZ hgZ hmz)
    | (refine store_slice rfl 30 _ _ rfl rfl rfl Tryd.underlying30 (by kernel_rfl) (HM2.out.blk 0 rfl) rfl ?_
       intro Z2 hZ hgZ
       have hmz := HM2.out.store 0 rfl hZ hgZ
       simp only [List.set_cons_zero, List.setIfInBounds_toArray, List.set_cons_succ] at hmz
       have HM3 := Lib.hid hmz
       clear hZ hgZ hmz))
  generalize w1.heap.size + 1 = P0 at *
  have HI := Lib.hid (HIM.out Z2 _ _ _ (HM3.out.blk 1 rfl) (HM3.out.blk 2 rfl) (HM3.out.blk 3 rfl))
  have HW2 := Lib.hid HM3.out.bel
  have HD := Lib.hid (HM3.out.blk 0 rfl)
  generalize V.heap.size + 1 + 1 = b2 at *
  generalize V.heap.size + 1 = b1 at *
  generalize V.heap.size = b0 at *
  clear HM HM1 HM2 HM3
  obtain ⟨hz1, hz2, hz3⟩ := HZ.out
  go_upto_region 15 with (first
    | (refine wpList_load_row rfl 36 _ rfl _ rfl _ _ _ _ HD.out Tryd.underlying36 rfl (by kernel_rfl) ?_; skip)
    | (go_at_call 28; refine (HCK.out _ HW2.out _ _ _ _ HI.out).mono ?_; rintro e w5 ⟨rfl, hb⟩; skip; have HW2x := Lib.hid (HW2.out.trans (hb.mono HW2.out.size)); clear HW2; have HW2 := HW2x; clear HW2x; have HDx := Lib.hid (HD.out.below hb HD.out.lt); clear HD; have HD := HDx; clear HDx; have HIx := Lib.hid (HI.out.below hb); clear HI; have HI := HIx; clear HIx; clear hb)
    | (go_at_call 16; refine (HCD.out _ HW2.out).mono ?_; rintro e w6 ⟨rfl, rfl⟩; skip)
    | (go_at_call 30; refine (HBY.out _ HW2.out _ _ _ _ HI.out).mono ?_; rintro e w7 ⟨rfl, hb⟩; skip; have HW2x := Lib.hid (HW2.out.trans (hb.mono HW2.out.size)); clear HW2; have HW2 := HW2x; clear HW2x; have HDx := Lib.hid (HD.out.below hb HD.out.lt); clear HD; have HD := HDx; clear HDx; have HIx := Lib.hid (HI.out.below hb); clear HI; have HI := HIx; clear HIx; clear hb)
    | (go_at_call 32; refine (HPA.out _ HW2.out).mono ?_; rintro e w8 ⟨yu, ys, yn, yb, rfl, hy, hb⟩
       obtain ⟨gu, hu, iu, rfl, _⟩ := hy.u
       obtain ⟨gS, hS, iS, rfl, _⟩ := hy.s
       obtain ⟨yns, ⟨gn, hn, iN, rfl, _⟩, _⟩ := hy.n
       obtain ⟨gb, hB, ib, rfl, _⟩ := hy.b
       have HY2 := Lib.hid hy
       have HW2x := Lib.hid (HW2.out.trans (hb.mono HW2.out.size)); clear HW2; have HW2 := HW2x; clear HW2x; have HDx := Lib.hid (HD.out.below hb HD.out.lt); clear HD; have HD := HDx; clear HDx; have HIx := Lib.hid (HI.out.below hb); clear HI; have HI := HIx; clear HIx; clear hb hy)
    | (refine Rg.store_fresh rfl 32 _ _ rfl #[.int .i64 98, .slice gu hu iu, .slice gS hS iS, .slice gn hn iN, .slice gb hB ib] _ 32 rfl rfl (by kernel_rfl) rfl (by simp [Value.oneCell']) ?_
       intro Z hZ hbZ
       have HE := Lib.hid hZ; have HY2x := Lib.hid (HY2.out.below hbZ); clear HY2; have HY2 := HY2x; clear HY2x; have HW2x := Lib.hid (HW2.out.trans (hbZ.mono HW2.out.size)); clear HW2; have HW2 := HW2x; clear HW2x; have HDx := Lib.hid (HD.out.below hbZ HD.out.lt); clear HD; have HD := HDx; clear HDx; have HIx := Lib.hid (HI.out.below hbZ); clear HI; have HI := HIx; clear HIx; clear hZ hbZ))
  go_wp2_with (first
    | (refine wpList_load_row rfl 36 _ rfl _ rfl _ _ _ _ HD.out Tryd.underlying36 rfl (by kernel_rfl) ?_; skip)
    | (go_at_call 29; refine (HRC.out _ _ _ _ _ HI.out).mono ?_; rintro e w9 ⟨rfl, hb⟩; skip; have HW2x := Lib.hid (HW2.out.trans (hb.mono HW2.out.size)); clear HW2; have HW2 := HW2x; clear HW2x; have HDx := Lib.hid (HD.out.below hb HD.out.lt); clear HD; have HD := HDx; clear HDx; have HIx := Lib.hid (HI.out.below hb); clear HI; have HI := HIx; clear HIx; have HEx := Lib.hid (HE.out.below hb HE.out.lt); clear HE; have HE := HEx; clear HEx; have HY2x := Lib.hid (HY2.out.below hb); clear HY2; have HY2 := HY2x; clear HY2x; clear hb
       have z0 := HE.out.cell 0 (v := .int .i64 98) rfl
       have z1 := HE.out.cell 1 (v := .slice gu hu iu) rfl
       have z2 := HE.out.cell 2 (v := .slice gS hS iS) rfl
       have z3 := HE.out.cell 3 (v := .slice gn hn iN) rfl
       have z4 := HE.out.cell 4 (v := .slice gb hB ib) rfl
       have q0 := HD.out.cell 0 (v := .int .i64 98) rfl
       have q1 := HD.out.cell 1 (v := .slice (some ⟨b0, 0, none⟩) 1 1) rfl
       have q2 := HD.out.cell 2 (v := .slice (some ⟨b1, 0, none⟩) 2 2) rfl
       have q3 := HD.out.cell 3 (v := .slice none 0 0) rfl
       have q4 := HD.out.cell 4 (v := .slice (some ⟨b2, 0, none⟩) 1 1) rfl
       skip)
    | (go_at_call 13; refine (HSM.out _ _ _ _ _ _ _ _ _ HY2.out HI.out).mono ?_; rintro e w10 ⟨rfl, hb⟩; skip; have HW2x := Lib.hid (HW2.out.trans (hb.mono HW2.out.size)); clear HW2; have HW2 := HW2x; clear HW2x; clear hb))
  go_ret
  exact ⟨by simp, HW2.out⟩
set_option maxRecDepth 20000 in
set_option maxHeartbeats 8000000 in
theorem long3b (w : World) (kind n : Int) (hr : bits .and .i64 kind 3 = 3) (q : Nat) (hq : q < 16) (hn : bits .and .i64 n 15 = (q : Int)) (hbig : 32768 < 32760 + q) (a : Nat → Addr) (hE : Ei.ErrsAll w a) (hT : TabR w) (hM : ∃ m, w.cell? ⟨22, 0, none⟩ = some (.int .i64 m)) :
    Calls Tryd.prog 9 #[.int .i64 kind, .int .i64 n] w fun e w' => e = .returned (.bool true) ∧ Below w.heap.size w w' := by
  have HAW := Lib.hid (awake10 w a (ErrsM.of hE) hT hM)
  have HZ0 := Lib.hid (show ∀ w B, (w : World).ownsRow B 5 1 (.slice (some ⟨w.heap.size - 1, 0, none⟩) 0 0) 0 [] → True from fun _ _ _ => trivial)
  clear HZ0
  obtain ⟨S, hS⟩ : ∃ S, zs (32760 + q) = S := ⟨_, rfl⟩
  have hSs : S.size = 32760 + q := by rw [← hS, zs_size]
  have HS := Lib.hid hS
  have hS4 : S.size ≤ 40000 := by omega
  obtain ⟨fm, hfm⟩ : ∃ fm, lm3 S = fm := ⟨_, rfl⟩
  have hfk : fm.kind = 98 := by rw [← hfm]; rfl
  have hfit := (lm3_fit S hS4).1
  have hc : checkC fm = 4 := by rw [← hfm, lm3_check, hSs]; exact if_pos hbig
  obtain ⟨B, hB⟩ : ∃ B, mkS (bytesL fm) = B := ⟨_, rfl⟩
  have hBs : B.size ≤ 1000000 := by rw [← hB, mkS_size, ← hfm]; exact lm3_len S hS4
  have HIM := Lib.hid (show ∀ X b0 b1 b2, Rg.Blk X b0 34 #[.int .u32 1] → Rg.Blk X b1 9 #[.string ⟨#[120]⟩, .string S] → Rg.Blk X b2 4 #[.bool true] → IsMsg X fm (.slice (some ⟨b0, 0, none⟩) 1 1) (.slice (some ⟨b1, 0, none⟩) 2 2) (.slice none 0 0) (.slice (some ⟨b2, 0, none⟩) 1 1) from fun X b0 b1 b2 h0 h1 h2 => by
    rw [← hfm]
    exact ⟨(slOf h0 (by unfold maxLen; simp)), (slOf h1 (by unfold maxLen; simp)), SLN.nil X, (slOf h2 (by unfold maxLen; simp))⟩)
  have HCK := Lib.hid (show ∀ W, Below w.heap.size w W → ∀ xu xs xn xb, IsMsg W fm xu xs xn xb → Calls Tryd.prog 28 #[.agg #[.int .i64 98, xu, xs, xn, xb]] W fun e w' => e = .returned (Ei.evA a 4) ∧ Below W.heap.size W w' from fun W hW xu xs xn xb h => by
    have := Check_any W a ((ErrsM.of hE).below hW) (hT.below hW) fm xu xs xn xb h (hfm ▸ hfit)
    rw [hfk, hc] at this
    exact this)
  have HRC := Lib.hid (show ∀ W xu xs xn xb, IsMsg W fm xu xs xn xb → Calls Tryd.prog 29 #[.agg #[.int .i64 98, xu, xs, xn, xb]] W fun e w' => e = .returned (.int .i64 4) ∧ Below W.heap.size W w' from fun W xu xs xn xb h => by
    have := RefCheck_any W fm xu xs xn xb h (hfm ▸ hfit)
    rw [hfk, hc] at this
    exact this)
  have HCD := Lib.hid (show ∀ W : World, Below w.heap.size w W → Calls Tryd.prog 16 #[Ei.evA a 4] W fun e w' => e = .returned (.int .i64 4) ∧ W = w' from fun W hW => Ei.Code_any W a (hE.below hW) 4 (by decide))
  have HBY := Lib.hid (show ∀ W, Below w.heap.size w W → ∀ xu xs xn xb, IsMsg W fm xu xs xn xb → Calls Tryd.prog 30 #[.agg #[.int .i64 98, xu, xs, xn, xb]] W fun e w' => e = .returned (.string ⟨#[]⟩) ∧ Below W.heap.size W w' from fun W hW xu xs xn xb h => by
    have := MsgBytes_any W a ((ErrsM.of hE).below hW) (hT.below hW) fm xu xs xn xb h (hfm ▸ hfit)
    rw [hfk, bytes_no (by rw [hc]; decide)] at this
    exact this)
  have HPA := Lib.hid (show ∀ W, Below w.heap.size w W → Calls Tryd.prog 32 #[.string ⟨#[]⟩] W fun e w' => ∃ yu ys yn yb, e = .returned (.tuple #[.agg #[.int .i64 0, yu, ys, yn, yb], Ei.evA a 2]) ∧ IsMsg w' zero yu ys yn yb ∧ Below W.heap.size W w' from fun W hW => by
    refine (Parse_any W a ((ErrsM.of hE).below hW) (hT.below hW) (cell_later hM hW) ⟨#[]⟩ (by decide)).mono ?_
    rintro e w' ⟨vu, vs, vn, vb, h1, h2, _, h3⟩
    rw [parse_none.2] at h1 h2
    rw [parse_none.1] at h1
    exact ⟨vu, vs, vn, vb, h1, h2, h3⟩)
  obtain ⟨ev2, hev2⟩ : ∃ ev2, Ei.evA a 2 = ev2 := ⟨_, rfl⟩
  rw [hev2] at HPA
  clear hev2
  obtain ⟨ev, hev⟩ : ∃ ev, Ei.evA a 4 = ev := ⟨_, rfl⟩
  rw [hev] at HCK HCD
  have hz1 : decide ((32768 : Int) < (S.size : Int)) = true := by rw [hSs]; simp; omega
  have hz2 : decide (32768 < S.size) = true := by rw [hSs]; simp; omega
  have hz3 : 32768 < S.size := by rw [hSs]; exact hbig
  have HSS := Lib.hid hSs
  have hq0 : (0 : Int) ≤ q := by omega
  have hq1 : (q : Int) ≤ 15 := by omega
  have HZ := Lib.hid (And.intro hz1 (And.intro hz2 hz3))
  have HIB := Lib.hid (info_parts Bo.infoByte)
  clear hE hT hM hfit hc hB hBs hfm hfk hev hS hSs hS4 hbig hz1 hz2 hz3 hq
  go_enter Tryd.func9, Tryd.ntmps9
  go_upto_region 6 with (first
    | (go_at_call 18; refine HAW.out.mono ?_; rintro e w1 ⟨rfl, hb1⟩; skip
       have HW := Lib.hid hb1; clear hb1)
    | (refine Cv.store_blk rfl 36 _ _ rfl (w1.heap.size + 1) #[.int .i64 98, .slice none 0 0, .slice none 0 0, .slice none 0 0, .slice none 0 0] #[.int .i64 0, .slice none 0 0, .slice none 0 0, .slice none 0 0, .slice none 0 0] 36 rfl rfl (Rg.Blk.newAt (by simp) _ _) (by kernel_rfl) rfl (by simp [Value.oneCell']) ?_
       intro Y hY hgY
       have HWY := Lib.hid (((HW.out.alloc HW.out.size _).alloc (by have := HW.out.size; simp; omega) _).grown hgY (by have := HW.out.size; simp; omega) (fun k hk => by cases hk; have := HW.out.size; omega))
       have HY := Lib.hid hY; have HYL := Lib.hid (show w.heap.size ≤ (w1.heap.size + 1) by have := HW.out.size; omega)
       clear hY hgY)
    | (obtain ⟨ib, hi1, hi2, hi3, hi4⟩ := HIB.out; refine wpList_make_full _ rfl _ _ _ rfl Y.heap.size 5 ib (.int .u8 0) 1 Tryd.underlying35 hi1 hi2 hi3 .i64 .i64 _ _ (32760 + q) rfl rfl (by omega) (by omega) (by rw [hi4]; omega) (by unfold maxLen; omega) (Nat.le_refl _) ?_
       intro V hV hgV
       rw [made_bv] at hV
       have HV := Lib.hid (show Owns V Y.heap.size 5 (.slice (some ⟨Y.heap.size, 0, none⟩) (32760 + q) (32760 + q)) (bv (List.replicate (32760 + q) 0)) by unfold Owns; rw [bv_length, List.length_replicate]; exact hV)
       have hbV : Below Y.heap.size Y V := (Below.refl _ _).grown hgV (Nat.le_refl _) (fun k hk => by cases hk)
       have HWV := Lib.hid (HWY.out.trans (hbV.mono HWY.out.size))
       have HQ := Lib.hid (HY.out.below hbV HY.out.lt)
       clear hV hgV hbV hi1 hi2 hi3 hi4)
    | (refine Ow.str rfl 35 5 9 _ rfl Tryd.underlying35 Tryd.underlying5 Tryd.underlying9 HV.out rfl ?_; rw [show (⟨(List.replicate (32760 + q) (0 : UInt8)).toArray⟩ : ByteArray) = S from HS.out]))
  skip
  have hm0 : Mem w [] V [Sp.blk (w1.heap.size + 1) 36 #[.int .i64 98, .slice none 0 0, .slice none 0 0, .slice none 0 0, .slice none 0 0]] := ⟨Upd.of_below HWV.out, [[w1.heap.size + 1]], ⟨⟨rfl, HQ.out⟩, trivial⟩, by simp, fun k hk => by simp at hk; subst hk; exact .inr HYL.out⟩
  have hm1 := (((hm0.alloc #[.int .u32 1] 34).alloc #[.string ⟨#[120]⟩, .string S] 9).alloc #[.bool true] 4)
  simp only [World.size_alloc, List.cons_append, List.nil_append] at hm1
  have HM := Lib.hid hm1
  clear hm0 hm1 HQ HWV HV HWY HY
  go_upto_region 12 with (first
    | (refine store_slice rfl 28 _ _ rfl rfl rfl Tryd.underlying28 (by kernel_rfl) (HM.out.blk 0 rfl) rfl ?_
       intro Z0 hZ hgZ
       have hmz := HM.out.store 0 rfl hZ hgZ
       simp only [List.set_cons_zero, List.setIfInBounds_toArray, List.set_cons_succ] at hmz
       have HM1 := Lib.hid hmz
       clear hZ hgZ hmz)
    | (refine store_slice rfl 23 _ _ rfl rfl rfl Tryd.underlying23 (by kernel_rfl) (HM1.out.blk 0 rfl) rfl ?_
       intro Z1 hZ hgZ
       have hmz := HM1.out.store 0 rfl hZ hgZ
       simp only [List.set_cons_zero, List.setIfInBounds_toArray, List.set_cons_succ] at hmz
       have HM2 := Lib.hid hmz
       clear hZ hgZ hmz)
    | (refine store_slice rfl 30 _ _ rfl rfl rfl Tryd.underlying30 (by kernel_rfl) (HM2.out.blk 0 rfl) rfl ?_
       intro Z2 hZ hgZ
       have hmz := HM2.out.store 0 rfl hZ hgZ
       simp only [List.set_cons_zero, List.setIfInBounds_toArray, List.set_cons_succ] at hmz
       have HM3 := Lib.hid hmz
       clear hZ hgZ hmz))
  generalize w1.heap.size + 1 = P0 at *
  have HI := Lib.hid (HIM.out Z2 _ _ _ (HM3.out.blk 1 rfl) (HM3.out.blk 2 rfl) (HM3.out.blk 3 rfl))
  have HW2 := Lib.hid HM3.out.bel
  have HD := Lib.hid (HM3.out.blk 0 rfl)
  generalize V.heap.size + 1 + 1 = b2 at *
  generalize V.heap.size + 1 = b1 at *
  generalize V.heap.size = b0 at *
  clear HM HM1 HM2 HM3
  obtain ⟨hz1, hz2, hz3⟩ := HZ.out
  go_upto_region 15 with (first
    | (refine wpList_load_row rfl 36 _ rfl _ rfl _ _ _ _ HD.out Tryd.underlying36 rfl (by kernel_rfl) ?_; skip)
    | (go_at_call 28; refine (HCK.out _ HW2.out _ _ _ _ HI.out).mono ?_; rintro e w5 ⟨rfl, hb⟩; skip; have HW2x := Lib.hid (HW2.out.trans (hb.mono HW2.out.size)); clear HW2; have HW2 := HW2x; clear HW2x; have HDx := Lib.hid (HD.out.below hb HD.out.lt); clear HD; have HD := HDx; clear HDx; have HIx := Lib.hid (HI.out.below hb); clear HI; have HI := HIx; clear HIx; clear hb)
    | (go_at_call 16; refine (HCD.out _ HW2.out).mono ?_; rintro e w6 ⟨rfl, rfl⟩; skip)
    | (go_at_call 30; refine (HBY.out _ HW2.out _ _ _ _ HI.out).mono ?_; rintro e w7 ⟨rfl, hb⟩; skip; have HW2x := Lib.hid (HW2.out.trans (hb.mono HW2.out.size)); clear HW2; have HW2 := HW2x; clear HW2x; have HDx := Lib.hid (HD.out.below hb HD.out.lt); clear HD; have HD := HDx; clear HDx; have HIx := Lib.hid (HI.out.below hb); clear HI; have HI := HIx; clear HIx; clear hb)
    | (go_at_call 32; refine (HPA.out _ HW2.out).mono ?_; rintro e w8 ⟨yu, ys, yn, yb, rfl, hy, hb⟩
       obtain ⟨gu, hu, iu, rfl, _⟩ := hy.u
       obtain ⟨gS, hS, iS, rfl, _⟩ := hy.s
       obtain ⟨yns, ⟨gn, hn, iN, rfl, _⟩, _⟩ := hy.n
       obtain ⟨gb, hB, ib, rfl, _⟩ := hy.b
       have HY2 := Lib.hid hy
       have HW2x := Lib.hid (HW2.out.trans (hb.mono HW2.out.size)); clear HW2; have HW2 := HW2x; clear HW2x; have HDx := Lib.hid (HD.out.below hb HD.out.lt); clear HD; have HD := HDx; clear HDx; have HIx := Lib.hid (HI.out.below hb); clear HI; have HI := HIx; clear HIx; clear hb hy)
    | (refine Rg.store_fresh rfl 32 _ _ rfl #[.int .i64 0, .slice gu hu iu, .slice gS hS iS, .slice gn hn iN, .slice gb hB ib] _ 32 rfl rfl (by kernel_rfl) rfl (by simp [Value.oneCell']) ?_
       intro Z hZ hbZ
       have HE := Lib.hid hZ; have HY2x := Lib.hid (HY2.out.below hbZ); clear HY2; have HY2 := HY2x; clear HY2x; have HW2x := Lib.hid (HW2.out.trans (hbZ.mono HW2.out.size)); clear HW2; have HW2 := HW2x; clear HW2x; have HDx := Lib.hid (HD.out.below hbZ HD.out.lt); clear HD; have HD := HDx; clear HDx; have HIx := Lib.hid (HI.out.below hbZ); clear HI; have HI := HIx; clear HIx; clear hZ hbZ))
  go_wp2_with (first
    | (refine wpList_load_row rfl 36 _ rfl _ rfl _ _ _ _ HD.out Tryd.underlying36 rfl (by kernel_rfl) ?_; skip)
    | (go_at_call 29; refine (HRC.out _ _ _ _ _ HI.out).mono ?_; rintro e w9 ⟨rfl, hb⟩; skip; have HW2x := Lib.hid (HW2.out.trans (hb.mono HW2.out.size)); clear HW2; have HW2 := HW2x; clear HW2x; have HDx := Lib.hid (HD.out.below hb HD.out.lt); clear HD; have HD := HDx; clear HDx; have HIx := Lib.hid (HI.out.below hb); clear HI; have HI := HIx; clear HIx; have HEx := Lib.hid (HE.out.below hb HE.out.lt); clear HE; have HE := HEx; clear HEx; have HY2x := Lib.hid (HY2.out.below hb); clear HY2; have HY2 := HY2x; clear HY2x; clear hb
       skip))
  go_ret
  exact ⟨by simp, HW2.out⟩
theorem law_MessageLong (w : World) (kind : Int) (hk : (Lit.int .i64 kind).wf = true) (n : Int) (hn : (Lit.int .i64 n).wf = true) (a : Nat → Addr) (hE : Ei.ErrsAll w a) (hT : TabR w) (hM : ∃ m, w.cell? ⟨22, 0, none⟩ = some (.int .i64 m)) :
    Calls Tryd.prog 9 #[.int .i64 kind, .int .i64 n] w fun e w' => e = .returned (.bool true) ∧ Below w.heap.size w w' := by
  obtain ⟨r, hr4, hr⟩ := and3 kind
  obtain ⟨q, hq, hn⟩ := and15 n
  match r, hr4, hr with
  | 0, _, hr =>
    by_cases hbig : 32768 < 32760 + q
    · exact long0b w kind n hr q hq hn hbig a hE hT hM
    · exact long0a w kind n hr q hq hn hbig a hE hT hM
  | 1, _, hr =>
    by_cases hbig : 32768 < 32760 + q
    · exact long1b w kind n hr q hq hn hbig a hE hT hM
    · exact long1a w kind n hr q hq hn hbig a hE hT hM
  | 2, _, hr =>
    by_cases hbig : 32768 < 32760 + q
    · exact long2b w kind n hr q hq hn hbig a hE hT hM
    · exact long2a w kind n hr q hq hn hbig a hE hT hM
  | 3, _, hr =>
    by_cases hbig : 32768 < 32760 + q
    · exact long3b w kind n hr q hq hn hbig a hE hT hM
    · exact long3a w kind n hr q hq hn hbig a hE hT hM
  | r + 4, h, _ => exact absurd h (by omega)
end Go.Proofs.YtjfikbnfabdkoaaDoor.Mg
