/- The reference's Parse. -/
import Derived.Test.YtjfikbnfabdkoaaDoorMsgRefP1
import Derived.RegionTactic
set_option linter.unusedVariables false
set_option linter.unusedSimpArgs false
namespace Go.Proofs.YtjfikbnfabdkoaaDoor.Mg
open Go.RowKit Go.Proofs.YtjfikbnfabdkoaaDoor.Wi Go.Proofs.YtjfikbnfabdkoaaDoor.Ow Go.Proofs.YtjfikbnfabdkoaaDoor.Be
theorem wp_nameP {P : Program} {c : Code} {Q : Exit → Act → World → Prop} {a : Act} {W : World} (h : ∀ X, X = W → c.wp P Q a X) : c.wp P Q a W := h W rfl
def RpPost (s : ByteArray) (w : World) (e : Ending) (w' : World) : Prop := ∃ vu vs vn vb, e = .returned (.tuple #[.agg (mC (parseM s).kind vu vs vn vb), .int .i64 (parseC s : Nat)]) ∧ IsMsg w' (parseM s) vu vs vn vb ∧ Fit (parseM s) ∧ Below w.heap.size w w'
theorem isMsgNil2 (w : World) : IsMsg w zero (.slice none 0 0) (.slice none 0 0) (.slice none 0 0) (.slice none 0 0) := ⟨SL.nil w, SL.nil w, SLN.nil w, SL.nil w⟩
theorem fitNil2 : Fit zero := ⟨fun x h => by simp [zero] at h, fun x h => by simp [zero] at h, fun x h => by simp [zero] at h⟩
theorem RpPost.bad {s : ByteArray} {w w' : World} {c : Nat} {z : Int} (hz : z = c) (hp : parseC s = c) (hc : c ≠ 0) (hb : Below w.heap.size w w') : RpPost s w (.returned (.tuple #[.agg #[.int .i64 0, .slice none 0 0, .slice none 0 0, .slice none 0 0, .slice none 0 0], .int .i64 z])) w' := by
  have hm : parseM s = zero := by unfold parseM; rw [if_neg (by rw [hp]; exact hc)]
  refine ⟨.slice none 0 0, .slice none 0 0, .slice none 0 0, .slice none 0 0, ?_, ?_, ?_, hb⟩
  · rw [hm, hp, hz]; rfl
  · rw [hm]; exact isMsgNil2 w'
  · rw [hm]; exact fitNil2
set_option maxRecDepth 20000 in
set_option maxHeartbeats 8000000 in
theorem RefParse_empty (w : World) (s : ByteArray) (hs : s.size ≤ 1000000) (hne : rawC s 0 1 ≠ 0) :
    Calls Tryd.prog 34 #[.string s] w (RpPost s w) := by
  obtain ⟨n1, hn1⟩ : ∃ n1, numV (rawR s 0 1).data.toList = n1 := ⟨_, rfl⟩
  obtain ⟨s1, hs1⟩ : ∃ s1, rawS s 0 1 = s1 := ⟨_, rfl⟩
  obtain ⟨c1, hc1⟩ : ∃ c1, rawC s 0 1 = c1 := ⟨_, rfl⟩
  have hn256 : n1 < 256 := by rw [← hn1]; exact num1_lt s 0
  have HS1 := Lib.hid (show s1.size ≤ 1000000 by rw [← hs1]; exact Nat.le_trans (rawS_size _ _ _) hs)
  have HKD := Lib.hid (show kindOf s = (n1 : Int) by unfold kindOf; rw [hn1])
  have HNU := Lib.hid (show ∀ W, Calls Tryd.prog 72 #[.agg #[.string s, .int .i64 0], .int .i64 1] W fun e w' => e = .returned (.tuple #[.agg #[.string s1, .int .i64 (c1 : Int)], .int .u64 (n1 : Int)]) ∧ Below W.heap.size W w' from fun W => by
    have := RefNumber_any W s 0 1 (by decide) (by omega)
    rw [hn1, hs1, hc1] at this
    exact this)
  have hc0 : c1 ≠ 0 := by rw [← hc1]; exact hne
  have HP := Lib.hid (show parseC s = c1 by unfold parseC; rw [if_pos hne, hc1])
  have HC0 := Lib.hid hc0
  have ht : ((c1 : Int) != 0) = true := by rw [bne_iff_ne]; omega
  clear hs hn1 hs1 hc1 hne hc0
  go_enter Tryd.func34, Tryd.ntmps34
  go_upto_region 2 with (go_at_call 72; refine (HNU.out _).mono ?_; rintro e w1 ⟨rfl, hb1⟩; have hr1 : Rg.Blk w1 w.heap.size 36 #[.int .i64 0, .slice none 0 0, .slice none 0 0, .slice none 0 0, .slice none 0 0] := Rg.Blk.below (Rg.Blk.new w _ _) hb1 (by simp); have hw1 : Below w.heap.size w w1 := Below.trans ((Below.refl _ _).alloc (Nat.le_refl _) _) (hb1.mono (by simp)); have HR1 := Lib.hid hr1; have HW1 := Lib.hid hw1; clear hb1 hr1 hw1)
  refine wp_nameP (fun X hX => ?_)
  have hXI : Rg.Blk X w1.heap.size 120 #[.string s1, .int .i64 (c1 : Int)] := by rw [hX]; exact Rg.Blk.new w1 _ _
  have hXR : Rg.Blk X w.heap.size 36 #[.int .i64 0, .slice none 0 0, .slice none 0 0, .slice none 0 0, .slice none 0 0] := by rw [hX]; exact HR1.out.alloc _
  have hXW : Below w.heap.size w X := by rw [hX]; exact HW1.out.alloc HW1.out.size _
  have HI1 := Lib.hid (show w.heap.size < w1.heap.size from HR1.out.lt)
  clear hX
  have i0 := hXI.cell 0 (v := .string s1) rfl
  have i1 := hXI.cell 1 (v := .int .i64 (c1 : Int)) rfl
  have HXI := Lib.hid hXI
  have HXR := Lib.hid hXR
  have HXW := Lib.hid hXW
  clear hXI hXR hXW
  have z0 := HXR.out.cell 0 (v := .int .i64 0) rfl
  have z1 := HXR.out.cell 1 (v := .slice none 0 0) rfl
  have z2 := HXR.out.cell 2 (v := .slice none 0 0) rfl
  have z3 := HXR.out.cell 3 (v := .slice none 0 0) rfl
  have z4 := HXR.out.cell 4 (v := .slice none 0 0) rfl
  have f0 := HXR.out.frozen 0
  have f1 := HXR.out.frozen 1
  have f2 := HXR.out.frozen 2
  have f3 := HXR.out.frozen 3
  have f4 := HXR.out.frozen 4
  have hni : ¬ w1.heap.size = w.heap.size := by have := HI1.out; omega
  have hni2 : ¬ w.heap.size = w1.heap.size := by have := HI1.out; omega
  go_wp2_with fail
  go_region
  all_goals
    go_wp2_with fail
    refine bodyPost_ret (v := .tuple #[.agg #[.int .i64 0, .slice none 0 0, .slice none 0 0, .slice none 0 0, .slice none 0 0], .int .i64 (c1 : Int)]) (by simp [results, Tryd.results34, go_sem, z0, z1, z2, z3, z4]) rfl ?_
    refine RpPost.bad rfl HP.out HC0.out (Below.trans HXW.out (Below.mono (B := w.heap.size) (show Below w.heap.size X _ from ?_) (Nat.le_refl _)))
    repeat (first | exact Below.refl _ _ | apply Below.drew | (refine Below.setCell ?_ ?_ _; rotate_left; focus (first | (simp; done) | (simp; omega) | omega)) | (refine Below.alloc ?_ ?_ _; rotate_left; focus (first | (simp; done) | (simp; omega) | omega)))
set_option maxRecDepth 20000 in
set_option maxHeartbeats 8000000 in
theorem RefParse_kind (w : World) (s : ByteArray) (hs : s.size ≤ 1000000) (hne : rawC s 0 1 = 0) (hk : isK (kindOf s) = false) :
    Calls Tryd.prog 34 #[.string s] w (RpPost s w) := by
  obtain ⟨n1, hn1⟩ : ∃ n1, numV (rawR s 0 1).data.toList = n1 := ⟨_, rfl⟩
  obtain ⟨s1, hs1⟩ : ∃ s1, rawS s 0 1 = s1 := ⟨_, rfl⟩
  obtain ⟨c1, hc1⟩ : ∃ c1, rawC s 0 1 = c1 := ⟨_, rfl⟩
  have hn256 : n1 < 256 := by rw [← hn1]; exact num1_lt s 0
  have HS1 := Lib.hid (show s1.size ≤ 1000000 by rw [← hs1]; exact Nat.le_trans (rawS_size _ _ _) hs)
  have HKD := Lib.hid (show kindOf s = (n1 : Int) by unfold kindOf; rw [hn1])
  have HNU := Lib.hid (show ∀ W, Calls Tryd.prog 72 #[.agg #[.string s, .int .i64 0], .int .i64 1] W fun e w' => e = .returned (.tuple #[.agg #[.string s1, .int .i64 (c1 : Int)], .int .u64 (n1 : Int)]) ∧ Below W.heap.size W w' from fun W => by
    have := RefNumber_any W s 0 1 (by decide) (by omega)
    rw [hn1, hs1, hc1] at this
    exact this)
  have HP := Lib.hid (show parseC s = 20 by unfold parseC; rw [if_neg (fun h => h hne), if_pos hk])
  have hc0 : c1 = 0 := by rw [← hc1]; exact hne
  subst hc0
  rw [HKD.out] at hk
  have HFI := Lib.hid (show ∀ W, Calls Tryd.prog 20 #[.int .i64 (n1 : Int)] W fun e w' => e = .returned (.tuple #[.string (mkS (ltr n1)), .bool false]) ∧ W = w' from fun W => by
    have := RefFields_any W n1
    rw [hk] at this; exact this)
  generalize mkS (ltr n1) = ls at *
  have HNU := Lib.hid (show ∀ W, Calls Tryd.prog 72 #[.agg #[.string s, .int .i64 0], .int .i64 1] W fun e w' => e = .returned (.tuple #[.agg #[.string s1, .int .i64 0], .int .u64 (n1 : Int)]) ∧ Below W.heap.size W w' from HNU.out)
  clear hs hn1 hs1 hc1 hne hk
  go_enter Tryd.func34, Tryd.ntmps34
  go_upto_region 2 with (go_at_call 72; refine (HNU.out _).mono ?_; rintro e w1 ⟨rfl, hb1⟩; have hr1 : Rg.Blk w1 w.heap.size 36 #[.int .i64 0, .slice none 0 0, .slice none 0 0, .slice none 0 0, .slice none 0 0] := Rg.Blk.below (Rg.Blk.new w _ _) hb1 (by simp); have hw1 : Below w.heap.size w w1 := Below.trans ((Below.refl _ _).alloc (Nat.le_refl _) _) (hb1.mono (by simp)); have HR1 := Lib.hid hr1; have HW1 := Lib.hid hw1; clear hb1 hr1 hw1)
  refine wp_nameP (fun X hX => ?_)
  have hXI : Rg.Blk X w1.heap.size 120 #[.string s1, .int .i64 0] := by rw [hX]; exact Rg.Blk.new w1 _ _
  have hXR : Rg.Blk X w.heap.size 36 #[.int .i64 0, .slice none 0 0, .slice none 0 0, .slice none 0 0, .slice none 0 0] := by rw [hX]; exact HR1.out.alloc _
  have hXW : Below w.heap.size w X := by rw [hX]; exact HW1.out.alloc HW1.out.size _
  have HI1 := Lib.hid (show w.heap.size < w1.heap.size from HR1.out.lt)
  clear hX
  have i0 := hXI.cell 0 (v := .string s1) rfl
  have i1 := hXI.cell 1 (v := .int .i64 0) rfl
  have HXI := Lib.hid hXI
  have HXR := Lib.hid hXR
  have HXW := Lib.hid hXW
  clear hXI hXR hXW
  have z0 := HXR.out.cell 0 (v := .int .i64 0) rfl
  have z1 := HXR.out.cell 1 (v := .slice none 0 0) rfl
  have z2 := HXR.out.cell 2 (v := .slice none 0 0) rfl
  have z3 := HXR.out.cell 3 (v := .slice none 0 0) rfl
  have z4 := HXR.out.cell 4 (v := .slice none 0 0) rfl
  have f0 := HXR.out.frozen 0
  have f1 := HXR.out.frozen 1
  have f2 := HXR.out.frozen 2
  have f3 := HXR.out.frozen 3
  have f4 := HXR.out.frozen 4
  have hz0 : w.heap.size < X.heap.size := HXR.out.lt
  have hzn : ¬ w.heap.size = X.heap.size := by omega
  go_wp2_with (first
    | (go_at_call 20; refine (HFI.out _).mono ?_; rintro e w4 ⟨rfl, rfl⟩; skip))
  refine bodyPost_ret (v := .tuple #[.agg #[.int .i64 0, .slice none 0 0, .slice none 0 0, .slice none 0 0, .slice none 0 0], .int .i64 20]) (by simp [results, Tryd.results34, go_sem, z0, z1, z2, z3, z4, hz0, hzn]) rfl ?_
  refine RpPost.bad (c := 20) rfl HP.out (by decide) (Below.trans HXW.out (Below.mono (B := w.heap.size) (show Below w.heap.size X _ from ?_) (Nat.le_refl _)))
  repeat (first | exact Below.refl _ _ | apply Below.drew | (refine Below.setCell ?_ ?_ _; rotate_left; focus (first | (simp; done) | (simp; omega) | omega)) | (refine Below.alloc ?_ ?_ _; rotate_left; focus (first | (simp; done) | (simp; omega) | omega)))
set_option maxRecDepth 20000 in
set_option maxHeartbeats 8000000 in
theorem RefParse_on (w : World) (s : ByteArray) (hs : s.size ≤ 1000000) (hne : rawC s 0 1 = 0) (hk : isK (kindOf s) = true) :
    Calls Tryd.prog 34 #[.string s] w (RpPost s w) := by
  obtain ⟨n1, hn1⟩ : ∃ n1, numV (rawR s 0 1).data.toList = n1 := ⟨_, rfl⟩
  obtain ⟨s1, hs1⟩ : ∃ s1, rawS s 0 1 = s1 := ⟨_, rfl⟩
  obtain ⟨c1, hc1⟩ : ∃ c1, rawC s 0 1 = c1 := ⟨_, rfl⟩
  have hn256 : n1 < 256 := by rw [← hn1]; exact num1_lt s 0
  have HS1 := Lib.hid (show s1.size ≤ 1000000 by rw [← hs1]; exact Nat.le_trans (rawS_size _ _ _) hs)
  have HKD := Lib.hid (show kindOf s = (n1 : Int) by unfold kindOf; rw [hn1])
  have HNU := Lib.hid (show ∀ W, Calls Tryd.prog 72 #[.agg #[.string s, .int .i64 0], .int .i64 1] W fun e w' => e = .returned (.tuple #[.agg #[.string s1, .int .i64 (c1 : Int)], .int .u64 (n1 : Int)]) ∧ Below W.heap.size W w' from fun W => by
    have := RefNumber_any W s 0 1 (by decide) (by omega)
    rw [hn1, hs1, hc1] at this
    exact this)
  have hc0 : c1 = 0 := by rw [← hc1]; exact hne
  subst hc0
  obtain ⟨D, hD⟩ : ∃ D, decOf s = D := ⟨_, rfl⟩
  have HP := Lib.hid (show parseC s = if endC D.1 D.2.1 ≠ 0 then endC D.1 D.2.1 else checkC D.2.2 by unfold parseC; rw [if_neg (fun h => h hne), if_neg (by rw [hk]; decide), hD])
  have HPM := Lib.hid (show parseC s = 0 → parseM s = D.2.2 from fun h => by unfold parseM; rw [if_pos h, hD])
  rw [HKD.out] at hk
  obtain ⟨l, hl⟩ : ∃ l, ltr n1 = l := ⟨_, rfl⟩
  obtain ⟨ls, hls⟩ : ∃ ls, mkS l = ls := ⟨_, rfl⟩
  have HD := Lib.hid (show dec l s1 0 ⟨n1, [], [], [], []⟩ = D by rw [← hD]; unfold decOf; rw [HKD.out, hl, hs1])
  have HLL := Lib.hid (show l.length ≤ 100 by rw [← hl]; exact ltr_len n1)
  have HLZ := Lib.hid (show ls.size = l.length by rw [← hls]; exact mkS_size l)
  have HLG := Lib.hid (show ls.data.toList = l by rw [← hls]; exact mkS_list l)
  have HGD := Lib.hid (show goodL l = true by rw [← hl]; exact ltr_good n1)
  have HAF := Lib.hid (show aftN l = true by rw [← hl]; exact ltr_aftN n1)
  have HFI := Lib.hid (show ∀ W, Calls Tryd.prog 20 #[.int .i64 (n1 : Int)] W fun e w' => e = .returned (.tuple #[.string ls, .bool true]) ∧ W = w' from fun W => by
    have := RefFields_any W n1
    rw [hk, hl, hls] at this; exact this)
  obtain ⟨q, hq⟩ : ∃ q, l.length = q := ⟨_, rfl⟩
  have hq1 : q ≤ 100 := by rw [← hq]; exact HLL.out
  have HLQ := Lib.hid (HLZ.out.trans hq)
  have HQ := Lib.hid hq
  have HNU := Lib.hid (show ∀ W, Calls Tryd.prog 72 #[.agg #[.string s, .int .i64 0], .int .i64 1] W fun e w' => e = .returned (.tuple #[.agg #[.string s1, .int .i64 0], .int .u64 (n1 : Int)]) ∧ Below W.heap.size W w' from HNU.out)
  clear hq hs hn1 hs1 hc1 hne hk hD hl hls
  go_enter Tryd.func34, Tryd.ntmps34
  go_upto_region 2 with (go_at_call 72; refine (HNU.out _).mono ?_; rintro e w1 ⟨rfl, hb1⟩; have hr1 : Rg.Blk w1 w.heap.size 36 #[.int .i64 0, .slice none 0 0, .slice none 0 0, .slice none 0 0, .slice none 0 0] := Rg.Blk.below (Rg.Blk.new w _ _) hb1 (by simp); have hw1 : Below w.heap.size w w1 := Below.trans ((Below.refl _ _).alloc (Nat.le_refl _) _) (hb1.mono (by simp)); have HR1 := Lib.hid hr1; have HW1 := Lib.hid hw1; clear hb1 hr1 hw1)
  refine wp_nameP (fun X hX => ?_)
  have hXI : Rg.Blk X w1.heap.size 120 #[.string s1, .int .i64 0] := by rw [hX]; exact Rg.Blk.new w1 _ _
  have hXR : Rg.Blk X w.heap.size 36 #[.int .i64 0, .slice none 0 0, .slice none 0 0, .slice none 0 0, .slice none 0 0] := by rw [hX]; exact HR1.out.alloc _
  have hXW : Below w.heap.size w X := by rw [hX]; exact HW1.out.alloc HW1.out.size _
  have HI1 := Lib.hid (show w.heap.size < w1.heap.size from HR1.out.lt)
  clear hX
  have i0 := hXI.cell 0 (v := .string s1) rfl
  have i1 := hXI.cell 1 (v := .int .i64 0) rfl
  have HXI := Lib.hid hXI
  have HXR := Lib.hid hXR
  have HXW := Lib.hid hXW
  clear hXI hXR hXW
  have hz1 : w1.heap.size < X.heap.size := HXI.out.lt
  have hz1n : ¬ w1.heap.size = X.heap.size := by omega
  go_wp2_with (first
    | (go_at_call 20; refine (HFI.out _).mono ?_; rintro e w4 ⟨rfl, rfl⟩; skip))
  refine wp_nameP (fun Y hY => ?_)
  have HSX := Lib.hid hz1
  have HYP := Lib.hid (show Rg.Blk Y X.heap.size 36 #[.int .i64 (n1 : Int), .slice none 0 0, .slice none 0 0, .slice none 0 0, .slice none 0 0] by rw [hY]; exact Rg.Blk.new X _ _)
  have HYI := Lib.hid (show Rg.Blk Y w1.heap.size 120 #[.string s1, .int .i64 ((0 : Nat) : Int)] by rw [hY]; exact HXI.out.alloc _)
  have HYR := Lib.hid (show Rg.Blk Y w.heap.size 36 #[.int .i64 0, .slice none 0 0, .slice none 0 0, .slice none 0 0, .slice none 0 0] by rw [hY]; exact HXR.out.alloc _)
  have HYW := Lib.hid (show Below w.heap.size w Y by rw [hY]; exact HXW.out.alloc HXW.out.size _)
  clear hY i0 i1 hz1 hz1n
  generalize hPP : X.heap.size = P at *
  generalize hII : w1.heap.size = I at *
  clear hPP hII
  go_loopw [9] (fun i wr => ∃ k : Nat, k ≤ q ∧ i = .int .i64 k ∧ RpRel w I P w.heap.size n1 l D k wr) (fun i _ => 200 - (intOf i).toNat)
  case atStart =>
    exact ⟨0, Nat.zero_le _, rfl, s1, 0, [], [], [], [], _, _, _, _, [], ⟨HD.out, Nat.le_refl _, Nat.le_refl _, Nat.le_refl _, Nat.le_refl _, fun x h => by simp at h, fun x h => by simp at h, fun x h => by simp at h, HGD.out, HAF.out, .inl rfl, HS1.out⟩, ⟨HYI.out, HYP.out, HYR.out, Owns.nil _ _ _, Owns.nil _ _ _, Owns.nil _ _ _, Owns.nil _ _ _, rfl, fun j l h => by simp at h, HYW.out, Nat.le_of_lt HI1.out, Nat.le_refl _, Nat.lt_trans HI1.out HSX.out⟩⟩
  case round =>
    obtain ⟨k, hk, rfl, t, e0, us, ss, nn, bs, vu, vs, vn, vb, vals, hpu, hme⟩ := hrel
    have HPU := Lib.hid hpu
    have HME := Lib.hid hme
    have i0 := hme.inn.cell 0 (v := .string t) rfl
    have i1 := hme.inn.cell 1 (v := .int .i64 (e0 : Int)) rfl
    clear hpu hme
    by_cases hkq : k < q
    · have hlz2 := HLQ.out
      have hks : k < ls.size := by omega
      have hik : (k : Int) < ls.size := by omega
      have hd0 : decide (k < ls.size) = true := by simp; exact hks
      have hx : l[k]? = some ls[k] := by rw [← HLG.out]; exact get_list ls k hks
      clear hlz2
      generalize hxx : ls[k] = x at *
      have HX1 := Lib.hid hx
      have hlet := good_letter l k x HPU.out.good hx
      clear hx
      rcases hlet with rfl | rfl | rfl | rfl | rfl | rfl
      · have e117 : (((117 : UInt8).toNat : Int) == 117) = true := rfl
        obtain ⟨t1, ht1⟩ : ∃ t1, rawS t e0 4 = t1 := ⟨_, rfl⟩
        obtain ⟨e1, he1⟩ : ∃ e1, rawC t e0 4 = e1 := ⟨_, rfl⟩
        obtain ⟨y, hy⟩ : ∃ y, numV (rawR t e0 4).data.toList = y := ⟨_, rfl⟩
        have hyb : y < 4294967296 := by rw [← hy]; exact num4_lt t e0
        have HPN := Lib.hid (HPU.out.num HX1.out)
        rw [hy, ht1, he1] at HPN
        have HCL := Lib.hid (show ∀ W, Calls Tryd.prog 72 #[.agg #[.string t, .int .i64 (e0 : Int)], .int .i64 4] W fun e w' => e = .returned (.tuple #[.agg #[.string t1, .int .i64 (e1 : Int)], .int .u64 (y : Int)]) ∧ Below W.heap.size W w' from fun W => by
          have := RefNumber_any W t e0 4 (by decide) (by have := HPU.out.ts; omega)
          rw [hy, ht1, he1] at this
          exact this)
        clear hy ht1 he1
        have hwr : IntKind.u32.wrap (y : Int) = y := by simp [IntKind.wrap, IntKind.bits, IntKind.signed]; omega
        clear hyb
        have tok := True.intro
        go_wp2_with (first
          | (go_at_call 72; refine (HCL.out _).mono ?_; rintro e w4 ⟨rfl, hb4⟩; have HM4 := Lib.hid (HME.out.below hb4); clear hb4)
          | (refine Cv.store_blk rfl 120 _ _ rfl I #[.string t1, .int .i64 (e1 : Int)] _ 120 rfl rfl HM4.out.inn (by kernel_rfl) rfl (by simp [Value.oneCell']) ?_; intro V hV hgV; have hm5 := HM4.out.call hV hgV; have p1 := hm5.p.cell 1 (v := vu) rfl; have HM5 := Lib.hid hm5; clear hV hgV hm5)
          | (at_builtin; refine app1 rfl _ _ _ rfl Tryd.underlying28 infoU32 rfl (by decide) HM5.out.u rfl rfl (by simp [Value.oneCell']) (by have := HPU.out.lu; rw [List.length_map]; omega) HM5.out.lt ?_; intro v' w6 ho hg _; have hm6 := HM5.out.appU y ho hg; obtain ⟨A', c', hv6, _, _⟩ := ho.form; simp only [List.length_append, List.length_map, List.length_cons, List.length_nil, Nat.zero_add] at hv6; subst hv6; have HM6 := Lib.hid hm6; clear ho hg hm6)
          | (refine store_slice rfl 28 _ _ rfl rfl rfl Tryd.underlying28 (by kernel_rfl) HM6.out.p rfl ?_; intro Z hZ hgZ; have HN := Lib.hid (show RpRel w I P w.heap.size n1 l D (k + 1) Z from ⟨_, _, _, _, _, _, _, _, _, _, _, HPN.out, HM6.out.store hZ hgZ⟩); clear hZ hgZ))
        go_roundw
        case rel =>
          first
            | exact ⟨k + 1, by omega, by go_num, HN.out⟩
            | ((repeat apply Exists.intro); refine ⟨?_, rfl⟩; exact ⟨k + 1, by omega, by go_num, HN.out⟩)
        case measure => simp [intOf]; omega
      · have e117 : (((98 : UInt8).toNat : Int) == 117) = false := rfl
        have e110 : (((98 : UInt8).toNat : Int) == 110) = false := rfl
        have e98 : (((98 : UInt8).toNat : Int) == 98) = true := rfl
        obtain ⟨t1, ht1⟩ : ∃ t1, rawS t e0 1 = t1 := ⟨_, rfl⟩
        obtain ⟨e1, he1⟩ : ∃ e1, rawC t e0 1 = e1 := ⟨_, rfl⟩
        obtain ⟨y, hy⟩ : ∃ y, numV (rawR t e0 1).data.toList = y := ⟨_, rfl⟩
        have hyb : y < 256 := by rw [← hy]; exact num1_lt t e0
        have HPN := Lib.hid (HPU.out.bool HX1.out)
        rw [hy, ht1, he1] at HPN
        have HCL := Lib.hid (show ∀ W, Calls Tryd.prog 72 #[.agg #[.string t, .int .i64 (e0 : Int)], .int .i64 1] W fun e w' => e = .returned (.tuple #[.agg #[.string t1, .int .i64 (e1 : Int)], .int .u64 (y : Int)]) ∧ Below W.heap.size W w' from fun W => by
          have := RefNumber_any W t e0 1 (by decide) (by have := HPU.out.ts; omega)
          rw [hy, ht1, he1] at this
          exact this)
        clear hy ht1 he1
        clear hyb
        by_cases hy0 : y = 0
        · have HYB := Lib.hid (show (y != 0) = false by simp [hy0])
          rw [HYB.out] at HPN
          have hyc : ((y : Int) != 0) = false := by simp; omega
          clear hy0
          have tok := True.intro
          go_wp2_with (first
            | (go_at_call 72; refine (HCL.out _).mono ?_; rintro e w4 ⟨rfl, hb4⟩; have HM4 := Lib.hid (HME.out.below hb4); clear hb4)
            | (refine Cv.store_blk rfl 120 _ _ rfl I #[.string t1, .int .i64 (e1 : Int)] _ 120 rfl rfl HM4.out.inn (by kernel_rfl) rfl (by simp [Value.oneCell']) ?_; intro V hV hgV; have hm5 := HM4.out.call hV hgV; have p1 := hm5.p.cell 4 (v := vb) rfl; have HM5 := Lib.hid hm5; clear hV hgV hm5)
            | (at_builtin; refine app1 rfl _ _ _ rfl Tryd.underlying30 infoBool rfl (by decide) HM5.out.b rfl rfl (by simp [Value.oneCell']) (by have := HPU.out.lb; rw [List.length_map]; omega) HM5.out.lt ?_; intro v' w6 ho hg _; have hm6 := HM5.out.appB false ho hg; obtain ⟨A', c', hv6, _, _⟩ := ho.form; simp only [List.length_append, List.length_map, List.length_cons, List.length_nil, Nat.zero_add] at hv6; subst hv6; have HM6 := Lib.hid hm6; clear ho hg hm6)
            | (refine store_slice rfl 30 _ _ rfl rfl rfl Tryd.underlying30 (by kernel_rfl) HM6.out.p rfl ?_; intro Z hZ hgZ; have HN := Lib.hid (show RpRel w I P w.heap.size n1 l D (k + 1) Z from ⟨_, _, _, _, _, _, _, _, _, _, _, HPN.out, HM6.out.store hZ hgZ⟩); clear hZ hgZ))
          go_roundw
          case rel =>
            first
              | exact ⟨k + 1, by omega, by go_num, HN.out⟩
              | ((repeat apply Exists.intro); refine ⟨?_, rfl⟩; exact ⟨k + 1, by omega, by go_num, HN.out⟩)
          case measure => simp [intOf]; omega
        · have HYB := Lib.hid (show (y != 0) = true by simp [hy0])
          rw [HYB.out] at HPN
          have hyc : ((y : Int) != 0) = true := by rw [bne_iff_ne]; omega
          clear hy0
          have tok := True.intro
          go_wp2_with (first
            | (go_at_call 72; refine (HCL.out _).mono ?_; rintro e w4 ⟨rfl, hb4⟩; have HM4 := Lib.hid (HME.out.below hb4); clear hb4)
            | (refine Cv.store_blk rfl 120 _ _ rfl I #[.string t1, .int .i64 (e1 : Int)] _ 120 rfl rfl HM4.out.inn (by kernel_rfl) rfl (by simp [Value.oneCell']) ?_; intro V hV hgV; have hm5 := HM4.out.call hV hgV; have p1 := hm5.p.cell 4 (v := vb) rfl; have HM5 := Lib.hid hm5; clear hV hgV hm5)
            | (at_builtin; refine app1 rfl _ _ _ rfl Tryd.underlying30 infoBool rfl (by decide) HM5.out.b rfl rfl (by simp [Value.oneCell']) (by have := HPU.out.lb; rw [List.length_map]; omega) HM5.out.lt ?_; intro v' w6 ho hg _; have hm6 := HM5.out.appB true ho hg; obtain ⟨A', c', hv6, _, _⟩ := ho.form; simp only [List.length_append, List.length_map, List.length_cons, List.length_nil, Nat.zero_add] at hv6; subst hv6; have HM6 := Lib.hid hm6; clear ho hg hm6)
            | (refine store_slice rfl 30 _ _ rfl rfl rfl Tryd.underlying30 (by kernel_rfl) HM6.out.p rfl ?_; intro Z hZ hgZ; have HN := Lib.hid (show RpRel w I P w.heap.size n1 l D (k + 1) Z from ⟨_, _, _, _, _, _, _, _, _, _, _, HPN.out, HM6.out.store hZ hgZ⟩); clear hZ hgZ))
          go_roundw
          case rel =>
            first
              | exact ⟨k + 1, by omega, by go_num, HN.out⟩
              | ((repeat apply Exists.intro); refine ⟨?_, rfl⟩; exact ⟨k + 1, by omega, by go_num, HN.out⟩)
          case measure => simp [intOf]; omega
      · have e117 : (((115 : UInt8).toNat : Int) == 117) = false := rfl
        have e110 : (((115 : UInt8).toNat : Int) == 110) = false := rfl
        have e98 : (((115 : UInt8).toNat : Int) == 98) = false := rfl
        have e115 : (((115 : UInt8).toNat : Int) == 115) = true := rfl
        obtain ⟨t1, ht1⟩ : ∃ t1, txtS t e0 32768 = t1 := ⟨_, rfl⟩
        obtain ⟨e1, he1⟩ : ∃ e1, txtC t e0 32768 = e1 := ⟨_, rfl⟩
        obtain ⟨y, hy⟩ : ∃ y, txtR t e0 32768 = y := ⟨_, rfl⟩
        have HPN := Lib.hid (HPU.out.text HX1.out)
        rw [hy, ht1, he1] at HPN
        have HCL := Lib.hid (show ∀ W, Calls Tryd.prog 74 #[.agg #[.string t, .int .i64 (e0 : Int)], .int .i64 32768] W fun e w' => e = .returned (.tuple #[.agg #[.string t1, .int .i64 (e1 : Int)], .string y]) ∧ Below W.heap.size W w' from fun W => by
          have := RefText_read W t e0 32768 (by have := HPU.out.ts; omega)
          rw [hy, ht1, he1] at this
          exact this)
        clear hy ht1 he1
        have tok := True.intro
        go_wp2_with (first
          | (go_at_call 74; refine (HCL.out _).mono ?_; rintro e w4 ⟨rfl, hb4⟩; have HM4 := Lib.hid (HME.out.below hb4); clear hb4)
          | (refine Cv.store_blk rfl 120 _ _ rfl I #[.string t1, .int .i64 (e1 : Int)] _ 120 rfl rfl HM4.out.inn (by kernel_rfl) rfl (by simp [Value.oneCell']) ?_; intro V hV hgV; have hm5 := HM4.out.call hV hgV; have p1 := hm5.p.cell 2 (v := vs) rfl; have HM5 := Lib.hid hm5; clear hV hgV hm5)
          | (at_builtin; refine app1 rfl _ _ _ rfl Tryd.underlying23 infoStr rfl (by decide) HM5.out.s rfl rfl (by simp [Value.oneCell']) (by have := HPU.out.ls; rw [List.length_map]; omega) HM5.out.lt ?_; intro v' w6 ho hg _; have hm6 := HM5.out.appS (HPU.out.noN HX1.out (by decide)) y ho hg; obtain ⟨A', c', hv6, _, _⟩ := ho.form; simp only [List.length_append, List.length_map, List.length_cons, List.length_nil, Nat.zero_add] at hv6; subst hv6; have HM6 := Lib.hid hm6; clear ho hg hm6)
          | (refine store_slice rfl 23 _ _ rfl rfl rfl Tryd.underlying23 (by kernel_rfl) HM6.out.p rfl ?_; intro Z hZ hgZ; have HN := Lib.hid (show RpRel w I P w.heap.size n1 l D (k + 1) Z from ⟨_, _, _, _, _, _, _, _, _, _, _, HPN.out, HM6.out.store hZ hgZ⟩); clear hZ hgZ))
        go_roundw
        case rel =>
          first
            | exact ⟨k + 1, by omega, by go_num, HN.out⟩
            | ((repeat apply Exists.intro); refine ⟨?_, rfl⟩; exact ⟨k + 1, by omega, by go_num, HN.out⟩)
        case measure => simp [intOf]; omega
      · have e117 : (((110 : UInt8).toNat : Int) == 117) = false := rfl
        have e110 : (((110 : UInt8).toNat : Int) == 110) = true := rfl
        obtain ⟨t1, ht1⟩ : ∃ t1, namS t e0 = t1 := ⟨_, rfl⟩
        obtain ⟨e1, he1⟩ : ∃ e1, namC t e0 = e1 := ⟨_, rfl⟩
        obtain ⟨y, hy⟩ : ∃ y, namR t e0 = y := ⟨_, rfl⟩
        have HPN := Lib.hid (HPU.out.names HX1.out)
        rw [hy, ht1, he1] at HPN
        have HCL := Lib.hid (show ∀ W, Calls Tryd.prog 73 #[.agg #[.string t, .int .i64 (e0 : Int)]] W fun e w' => ∃ A cp, e = .returned (.tuple #[.agg #[.string t1, .int .i64 (e1 : Int)], .slice A y.length cp]) ∧ (y.length ≤ cp ∧ cp ≤ maxLen) ∧ RdS w' W.heap.size A (y.map Value.string) ∧ Below W.heap.size W w' from fun W => by
          have := RefNames_read W t e0 HPU.out.ts
          rw [hy, ht1, he1] at this
          exact this)
        clear hy ht1 he1
        have HMB := Lib.hid (HME.out.below ((Below.refl _ _).alloc (Nat.le_refl _) (.cells #[] 9)))
        clear i0 i1
        have i0 := HMB.out.inn.cell 0 (v := .string t) rfl
        have i1 := HMB.out.inn.cell 1 (v := .int .i64 (e0 : Int)) rfl
        have tok := True.intro
        go_wp2_with (first
          | (go_at_call 73; refine (HCL.out _).mono ?_; rintro e w4 ⟨NA, ncp, rfl, hncp, hNA, hb4⟩; have HNA := Lib.hid (rdsMono hNA (Nat.zero_le _)); have HNC := Lib.hid hncp; clear hNA hncp; have HM4 := Lib.hid (HMB.out.below hb4); clear hb4)
          | (refine Cv.store_blk rfl 120 _ _ rfl I #[.string t1, .int .i64 (e1 : Int)] _ 120 rfl rfl HM4.out.inn (by kernel_rfl) rfl (by simp [Value.oneCell']) ?_; intro V hV hgV; have HNV := Lib.hid (rdsKept HNA.out (KeptT.grownAt hgV HM4.out.inn) (by decide)); have hm5 := HM4.out.call hV hgV; have p1 := hm5.p.cell 3 (v := vn) rfl; have HM5 := Lib.hid hm5; clear hV hgV hm5)
          | (at_builtin; refine app1 rfl _ _ _ rfl Tryd.underlying29 infoStrs rfl (by decide) HM5.out.n rfl rfl (by simp [Value.oneCell']) (by have := HPU.out.ln; have := HM5.out.vl; omega) HM5.out.lt ?_; intro v' w6 ho hg _; have hm6 := HM5.out.appN y NA ncp HNC.out HNV.out ho hg; obtain ⟨A', c', hv6, _, _⟩ := ho.form; simp only [List.length_append, List.length_map, List.length_cons, List.length_nil, Nat.zero_add] at hv6; subst hv6; have HM6 := Lib.hid hm6; clear ho hg hm6)
          | (refine store_slice rfl 29 _ _ rfl rfl rfl Tryd.underlying29 (by kernel_rfl) HM6.out.p rfl ?_; intro Z hZ hgZ; have HN := Lib.hid (show RpRel w I P w.heap.size n1 l D (k + 1) Z from ⟨_, _, _, _, _, _, _, _, _, _, _, HPN.out, HM6.out.store hZ hgZ⟩); clear hZ hgZ))
        go_roundw
        case rel =>
          first
            | exact ⟨k + 1, by omega, by go_num, HN.out⟩
            | ((repeat apply Exists.intro); refine ⟨?_, rfl⟩; exact ⟨k + 1, by omega, by go_num, HN.out⟩)
        case measure => simp [intOf]; omega
      · have e117 : (((99 : UInt8).toNat : Int) == 117) = false := rfl
        have e110 : (((99 : UInt8).toNat : Int) == 110) = false := rfl
        have e98 : (((99 : UInt8).toNat : Int) == 98) = false := rfl
        have e115 : (((99 : UInt8).toNat : Int) == 115) = false := rfl
        have e99 : (((99 : UInt8).toNat : Int) == 99) = true := rfl
        obtain ⟨t1, ht1⟩ : ∃ t1, rawS t e0 16 = t1 := ⟨_, rfl⟩
        obtain ⟨e1, he1⟩ : ∃ e1, rawC t e0 16 = e1 := ⟨_, rfl⟩
        obtain ⟨y, hy⟩ : ∃ y, rawR t e0 16 = y := ⟨_, rfl⟩
        have HPN := Lib.hid (HPU.out.raw HX1.out 16 (.inl ⟨rfl, rfl⟩))
        rw [hy, ht1, he1] at HPN
        have HCL := Lib.hid (show ∀ W, Calls Tryd.prog 75 #[.agg #[.string t, .int .i64 (e0 : Int)], .int .i64 16] W fun e w' => e = .returned (.tuple #[.agg #[.string t1, .int .i64 (e1 : Int)], .string y]) ∧ Below W.heap.size W w' from fun W => by
          have := RefRaw_any W t e0 16 (by decide) (by have := HPU.out.ts; omega)
          rw [show (16 : Int).toNat = 16 from rfl] at this
          rw [hy, ht1, he1] at this
          exact this)
        clear hy ht1 he1
        have tok := True.intro
        go_wp2_with (first
          | (go_at_call 75; refine (HCL.out _).mono ?_; rintro e w4 ⟨rfl, hb4⟩; have HM4 := Lib.hid (HME.out.below hb4); clear hb4)
          | (refine Cv.store_blk rfl 120 _ _ rfl I #[.string t1, .int .i64 (e1 : Int)] _ 120 rfl rfl HM4.out.inn (by kernel_rfl) rfl (by simp [Value.oneCell']) ?_; intro V hV hgV; have hm5 := HM4.out.call hV hgV; have p1 := hm5.p.cell 2 (v := vs) rfl; have HM5 := Lib.hid hm5; clear hV hgV hm5)
          | (at_builtin; refine app1 rfl _ _ _ rfl Tryd.underlying23 infoStr rfl (by decide) HM5.out.s rfl rfl (by simp [Value.oneCell']) (by have := HPU.out.ls; rw [List.length_map]; omega) HM5.out.lt ?_; intro v' w6 ho hg _; have hm6 := HM5.out.appS (HPU.out.noN HX1.out (by decide)) y ho hg; obtain ⟨A', c', hv6, _, _⟩ := ho.form; simp only [List.length_append, List.length_map, List.length_cons, List.length_nil, Nat.zero_add] at hv6; subst hv6; have HM6 := Lib.hid hm6; clear ho hg hm6)
          | (refine store_slice rfl 23 _ _ rfl rfl rfl Tryd.underlying23 (by kernel_rfl) HM6.out.p rfl ?_; intro Z hZ hgZ; have HN := Lib.hid (show RpRel w I P w.heap.size n1 l D (k + 1) Z from ⟨_, _, _, _, _, _, _, _, _, _, _, HPN.out, HM6.out.store hZ hgZ⟩); clear hZ hgZ))
        go_roundw
        case rel =>
          first
            | exact ⟨k + 1, by omega, by go_num, HN.out⟩
            | ((repeat apply Exists.intro); refine ⟨?_, rfl⟩; exact ⟨k + 1, by omega, by go_num, HN.out⟩)
        case measure => simp [intOf]; omega
      · have e117 : (((114 : UInt8).toNat : Int) == 117) = false := rfl
        have e110 : (((114 : UInt8).toNat : Int) == 110) = false := rfl
        have e98 : (((114 : UInt8).toNat : Int) == 98) = false := rfl
        have e115 : (((114 : UInt8).toNat : Int) == 115) = false := rfl
        have e99 : (((114 : UInt8).toNat : Int) == 99) = false := rfl
        obtain ⟨t1, ht1⟩ : ∃ t1, rawS t e0 t.size = t1 := ⟨_, rfl⟩
        obtain ⟨e1, he1⟩ : ∃ e1, rawC t e0 t.size = e1 := ⟨_, rfl⟩
        obtain ⟨y, hy⟩ : ∃ y, rawR t e0 t.size = y := ⟨_, rfl⟩
        have HPN := Lib.hid (HPU.out.raw HX1.out t.size (.inr ⟨rfl, rfl⟩))
        rw [hy, ht1, he1] at HPN
        have HCL := Lib.hid (show ∀ W, Calls Tryd.prog 75 #[.agg #[.string t, .int .i64 (e0 : Int)], .int .i64 (t.size : Int)] W fun e w' => e = .returned (.tuple #[.agg #[.string t1, .int .i64 (e1 : Int)], .string y]) ∧ Below W.heap.size W w' from fun W => by
          have := RefRaw_any W t e0 (t.size : Int) (by have := HPU.out.ts; omega) (by have := HPU.out.ts; omega)
          rw [Int.toNat_natCast] at this
          rw [hy, ht1, he1] at this
          exact this)
        clear hy ht1 he1
        have tok := True.intro
        go_wp2_with (first
          | (go_at_call 75; refine (HCL.out _).mono ?_; rintro e w4 ⟨rfl, hb4⟩; have HM4 := Lib.hid (HME.out.below hb4); clear hb4)
          | (refine Cv.store_blk rfl 120 _ _ rfl I #[.string t1, .int .i64 (e1 : Int)] _ 120 rfl rfl HM4.out.inn (by kernel_rfl) rfl (by simp [Value.oneCell']) ?_; intro V hV hgV; have hm5 := HM4.out.call hV hgV; have p1 := hm5.p.cell 2 (v := vs) rfl; have HM5 := Lib.hid hm5; clear hV hgV hm5)
          | (at_builtin; refine app1 rfl _ _ _ rfl Tryd.underlying23 infoStr rfl (by decide) HM5.out.s rfl rfl (by simp [Value.oneCell']) (by have := HPU.out.ls; rw [List.length_map]; omega) HM5.out.lt ?_; intro v' w6 ho hg _; have hm6 := HM5.out.appS (HPU.out.noN HX1.out (by decide)) y ho hg; obtain ⟨A', c', hv6, _, _⟩ := ho.form; simp only [List.length_append, List.length_map, List.length_cons, List.length_nil, Nat.zero_add] at hv6; subst hv6; have HM6 := Lib.hid hm6; clear ho hg hm6)
          | (refine store_slice rfl 23 _ _ rfl rfl rfl Tryd.underlying23 (by kernel_rfl) HM6.out.p rfl ?_; intro Z hZ hgZ; have HN := Lib.hid (show RpRel w I P w.heap.size n1 l D (k + 1) Z from ⟨_, _, _, _, _, _, _, _, _, _, _, HPN.out, HM6.out.store hZ hgZ⟩); clear hZ hgZ))
        go_roundw
        case rel =>
          first
            | exact ⟨k + 1, by omega, by go_num, HN.out⟩
            | ((repeat apply Exists.intro); refine ⟨?_, rfl⟩; exact ⟨k + 1, by omega, by go_num, HN.out⟩)
        case measure => simp [intOf]; omega
    · obtain rfl : k = q := by omega
      have HLQ2 := Lib.hid HLQ.out
      have hd0 : decide (k < ls.size) = false := by have := HLQ2.out; simp; omega
      have hnk : ¬ k < ls.size := by have := HLQ2.out; omega
      have HDD := Lib.hid (show D = (t, e0, ⟨n1, us, ss, nn, bs⟩) by have := HPU.out.c; rw [List.drop_of_length_le (by rw [HQ.out]; exact Nat.le_refl _)] at this; exact this.symm)
      have HP3 := Lib.hid (show parseC s = if endC t e0 ≠ 0 then endC t e0 else checkC ⟨n1, us, ss, nn, bs⟩ by rw [HP.out, HDD.out])
      have hzz := HME.out.r
      have z0 := hzz.cell 0 (v := .int .i64 0) rfl
      have z1 := hzz.cell 1 (v := .slice none 0 0) rfl
      have z2 := hzz.cell 2 (v := .slice none 0 0) rfl
      have z3 := hzz.cell 3 (v := .slice none 0 0) rfl
      have z4 := hzz.cell 4 (v := .slice none 0 0) rfl
      have f0 := hzz.frozen 0
      have f1 := hzz.frozen 1
      have f2 := hzz.frozen 2
      have f3 := hzz.frozen 3
      have f4 := hzz.frozen 4
      clear hzz
      have hni : ¬ I = w.heap.size := by have := HI1.out; omega
      have hni2 : ¬ w.heap.size = I := by have := HI1.out; omega
      by_cases he : e0 = 0
      · subst he
        by_cases hts : t.size = 0
        · have hl2 := toList_empty hts
          have hl3 : t.toList.isEmpty = true := by rw [hl2]; rfl
          have HP4 := Lib.hid (show parseC s = checkC ⟨n1, us, ss, nn, bs⟩ by have h9 : endC t 0 = 0 := if_neg (fun h => h.2 hts); rw [HP3.out, h9, if_neg (fun h => h rfl)])
          clear hts
          obtain ⟨hmsg, hfit⟩ := HME.out.msg HPU.out
          have HFIT := Lib.hid hfit
          obtain ⟨au, nu, cu, rfl, _⟩ := hmsg.u
          obtain ⟨aS, nS, cS, rfl, _⟩ := hmsg.s
          obtain ⟨vns, ⟨an, nn', cn, rfl, _⟩, _⟩ := hmsg.n
          obtain ⟨ab, nb, cb, rfl, _⟩ := hmsg.b
          have HCK := Lib.hid (RefCheck_any wr ⟨n1, us, ss, nn, bs⟩ _ _ _ _ hmsg hfit)
          clear hmsg hfit
          obtain ⟨c4, hc4⟩ : ∃ c4, checkC ⟨n1, us, ss, nn, bs⟩ = c4 := ⟨_, rfl⟩
          rw [hc4] at HCK HP4
          clear hc4
          have tok := True.intro
          by_cases hz4 : c4 = 0
          · subst hz4
            go_wp2_with (first
              | (have _t := tok; refine wpList_load_row rfl 36 _ rfl P rfl _ _ _ _ HME.out.p Tryd.underlying36 rfl (by kernel_rfl) ?_; clear _t tok)
              | (go_at_call 29; refine HCK.out.mono ?_; rintro e w8 ⟨rfl, hb8⟩; skip; have HM8 := Lib.hid (HME.out.below hb8); have tok2 := True.intro; clear hb8)
              | (have _t := tok2; refine wpList_load_row rfl 36 _ rfl P rfl _ _ _ _ HM8.out.p Tryd.underlying36 rfl (by kernel_rfl) ?_; clear _t tok2)
              | (refine Cv.store_blk rfl 36 _ _ rfl w.heap.size (mC n1 (.slice au nu cu) (.slice aS nS cS) (.slice an nn' cn) (.slice ab nb cb)) #[.int .i64 0, .slice none 0 0, .slice none 0 0, .slice none 0 0, .slice none 0 0] 36 rfl rfl HM8.out.r (by kernel_rfl) rfl (by simp [mC, Value.oneCell']) ?_
                 intro Z hZ hgZ
                 have y0 := hZ.cell 0 (v := .int .i64 (n1 : Int)) rfl; have y1 := hZ.cell 1 (v := .slice au nu cu) rfl; have y2 := hZ.cell 2 (v := .slice aS nS cS) rfl; have y3 := hZ.cell 3 (v := .slice an nn' cn) rfl; have y4 := hZ.cell 4 (v := .slice ab nb cb) rfl
                 have HGZ := Lib.hid hgZ
                 clear hZ hgZ))
            refine bodyPost_ret (v := .tuple #[.agg #[.int .i64 (n1 : Int), .slice au nu cu, .slice aS nS cS, .slice an nn' cn, .slice ab nb cb], .int .i64 0]) (by simp [results, Tryd.results34, go_sem, y0, y1, y2, y3, y4]) rfl ?_
            have hpm := HPM.out HP4.out
            rw [HDD.out] at hpm
            simp only at hpm
            refine ⟨.slice au nu cu, .slice aS nS cS, .slice an nn' cn, .slice ab nb cb, ?_, ?_, ?_, ?_⟩
            · rw [hpm, HP4.out]; rfl
            · rw [hpm]; exact HM8.out.msgZ HPU.out HGZ.out
            · rw [hpm]; exact HFIT.out
            · exact HM8.out.bl.grown HGZ.out HM8.out.bl.size (fun k hk => by cases hk; exact Nat.le_refl _)
          · have HC4 := Lib.hid hz4
            have ht4 : ((c4 : Int) != 0) = true := by rw [bne_iff_ne]; omega
            clear hz4
            go_wp2_with (first
              | (have _t := tok; refine wpList_load_row rfl 36 _ rfl P rfl _ _ _ _ HME.out.p Tryd.underlying36 rfl (by kernel_rfl) ?_; clear _t tok)
              | (go_at_call 29; refine HCK.out.mono ?_; rintro e w8 ⟨rfl, hb8⟩; skip; have HM8 := Lib.hid (HME.out.below hb8); clear hb8)
              | (refine Cv.store_blk rfl 36 _ _ rfl w.heap.size #[.int .i64 0, .slice none 0 0, .slice none 0 0, .slice none 0 0, .slice none 0 0] #[.int .i64 0, .slice none 0 0, .slice none 0 0, .slice none 0 0, .slice none 0 0] 36 rfl rfl HM8.out.r (by kernel_rfl) rfl (by simp [Value.oneCell']) ?_
                 intro Z hZ hgZ
                 have y0 := hZ.cell 0 (v := .int .i64 0) rfl; have y1 := hZ.cell 1 (v := .slice none 0 0) rfl; have y2 := hZ.cell 2 (v := .slice none 0 0) rfl; have y3 := hZ.cell 3 (v := .slice none 0 0) rfl; have y4 := hZ.cell 4 (v := .slice none 0 0) rfl
                 have HGZ := Lib.hid hgZ
                 clear hZ hgZ))
            refine bodyPost_ret (v := .tuple #[.agg #[.int .i64 0, .slice none 0 0, .slice none 0 0, .slice none 0 0, .slice none 0 0], .int .i64 (c4 : Int)]) (by simp [results, Tryd.results34, go_sem, y0, y1, y2, y3, y4]) rfl ?_
            exact RpPost.bad rfl HP4.out HC4.out (HM8.out.bl.grown HGZ.out HM8.out.bl.size (fun k hk => by cases hk; exact Nat.le_refl _))
        · have hl3 := toList_ne hts
          have HP4 := Lib.hid (show parseC s = 3 by have h9 : endC t 0 = 3 := if_pos ⟨rfl, hts⟩; rw [HP3.out, h9]; rfl)
          clear hts
          go_wp2_with (first
            | (refine Cv.store_blk rfl 36 _ _ rfl w.heap.size #[.int .i64 0, .slice none 0 0, .slice none 0 0, .slice none 0 0, .slice none 0 0] #[.int .i64 0, .slice none 0 0, .slice none 0 0, .slice none 0 0, .slice none 0 0] 36 rfl rfl HME.out.r (by kernel_rfl) rfl (by simp [Value.oneCell']) ?_
               intro Z hZ hgZ
               have y0 := hZ.cell 0 (v := .int .i64 0) rfl; have y1 := hZ.cell 1 (v := .slice none 0 0) rfl; have y2 := hZ.cell 2 (v := .slice none 0 0) rfl; have y3 := hZ.cell 3 (v := .slice none 0 0) rfl; have y4 := hZ.cell 4 (v := .slice none 0 0) rfl
               have HGZ := Lib.hid hgZ
               clear hZ hgZ))
          refine bodyPost_ret (v := .tuple #[.agg #[.int .i64 0, .slice none 0 0, .slice none 0 0, .slice none 0 0, .slice none 0 0], .int .i64 3]) (by simp [results, Tryd.results34, go_sem, y0, y1, y2, y3, y4]) rfl ?_
          exact RpPost.bad (c := 3) rfl HP4.out (by decide) (HME.out.bl.grown HGZ.out HME.out.bl.size (fun k hk => by cases hk; exact Nat.le_refl _))
      · have HP4 := Lib.hid (show parseC s = e0 by rw [HP3.out]; have h9 : endC t e0 = e0 := if_neg (fun h => he h.1); rw [h9, if_pos he])
        have HC0 := Lib.hid he
        have ht4 : ((e0 : Int) != 0) = true := by rw [bne_iff_ne]; omega
        clear he
        go_wp2_with fail
        go_region
        all_goals
          go_wp2_with fail
          refine bodyPost_ret (v := .tuple #[.agg #[.int .i64 0, .slice none 0 0, .slice none 0 0, .slice none 0 0, .slice none 0 0], .int .i64 (e0 : Int)]) (by simp [results, Tryd.results34, go_sem, z0, z1, z2, z3, z4]) rfl ?_
          refine RpPost.bad rfl HP4.out HC0.out (Below.trans HME.out.bl (Below.mono (B := w.heap.size) (show Below w.heap.size wr _ from ?_) (Nat.le_refl _)))
          repeat (first | exact Below.refl _ _ | apply Below.drew | (refine Below.setCell ?_ ?_ _; rotate_left; focus (first | (simp; done) | (simp; omega) | omega)) | (refine Below.alloc ?_ ?_ _; rotate_left; focus (first | (simp; done) | (simp; omega) | omega)))
theorem RefParse_any (w : World) (s : ByteArray) (hs : s.size ≤ 1000000) :
    Calls Tryd.prog 34 #[.string s] w (RpPost s w) := by
  by_cases h1 : rawC s 0 1 = 0
  · cases h2 : isK (kindOf s)
    · exact RefParse_kind w s hs h1 h2
    · exact RefParse_on w s hs h1 h2
  · exact RefParse_empty w s hs h1
end Go.Proofs.YtjfikbnfabdkoaaDoor.Mg
