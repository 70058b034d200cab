/- message.Parse. -/
import Derived.Test.YtjfikbnfabdkoaaGreatDoorMsgPar1
import Derived.RegionTactic
set_option linter.unusedVariables false
set_option linter.unusedSimpArgs false
namespace Go.Proofs.YtjfikbnfabdkoaaGreatDoor.Mg
open Go.RowKit Go.Proofs.YtjfikbnfabdkoaaGreatDoor.Wi Go.Proofs.YtjfikbnfabdkoaaGreatDoor.Ow Go.Proofs.YtjfikbnfabdkoaaGreatDoor.Be
theorem SL.ofOwns {w : World} {B : Nat} {E : TypeId} {v : Value} {xs : List Value} (h : Owns w B E v xs) : SL w v xs := by
  have h0 := h
  rcases h0.2 with ⟨hv, hn⟩ | ⟨g, cap, cur, hv, _, _, hc, hm, _⟩
  · have : xs = [] := List.eq_nil_of_length_eq_zero hn
    subst this
    rw [hv]; exact SL.nil w
  · exact SL.owns h hv hm
theorem isMsgNil (w : World) : IsMsg w zero (.slice none 0 0) (.slice none 0 0) (.slice none 0 0) (.slice none 0 0) := ⟨SL.nil w, SL.nil w, SLN.nil w, SL.nil w⟩
theorem fitNil : Fit zero := ⟨fun x h => by simp [zero] at h, fun x h => by simp [zero] at h, fun x h => by simp [zero] at h⟩
def ParPost (a : Nat → Addr) (s : ByteArray) (w : World) (e : Ending) (w' : World) : Prop := ∃ vu vs vn vb, e = .returned (.tuple #[.agg (mC (parseM s).kind vu vs vn vb), Ei.evA a (parseC s)]) ∧ IsMsg w' (parseM s) vu vs vn vb ∧ Fit (parseM s) ∧ Below w.heap.size w w'
theorem ParPost.bad {a : Nat → Addr} {s : ByteArray} {w w' : World} {c : Nat} (hp : parseC s = c) (hc : c ≠ 0) (hb : Below w.heap.size w w') : ParPost a s w (.returned (.tuple #[.agg #[.int .i64 0, .slice none 0 0, .slice none 0 0, .slice none 0 0, .slice none 0 0], .iface 162 (.pointer (some (a c)))])) w' := by
  have hm : parseM s = zero := by unfold parseM; rw [if_neg (by rw [hp]; exact hc)]
  refine ⟨.slice none 0 0, .slice none 0 0, .slice none 0 0, .slice none 0 0, ?_, ?_, ?_, hb⟩
  · rw [hm, hp]; unfold Ei.evA; rw [if_neg hc]; rfl
  · rw [hm]; exact isMsgNil w'
  · rw [hm]; exact fitNil
theorem ParMem.msg {w wr : World} {I P R : Nat} {E : Nat → Value} {kind : Int} {l : List UInt8} {D : ByteArray × Nat × Msg} {k : Nat} {t t2 : ByteArray} {e e2 : Nat} {us : List Nat} {ss : List ByteArray} {nn : List (List ByteArray)} {bs : List Bool} {cs : Array Value} {vu vs vn vb : Value} {vals : List Value} (h : ParMem w I P R E t2 e2 us ss nn bs cs vu vs vn vb vals wr) (hp : ParPure l D kind k t e us ss nn bs) : IsMsg wr ⟨kind, us, ss, nn, bs⟩ vu vs vn vb ∧ Fit ⟨kind, us, ss, nn, bs⟩ :=
  ⟨⟨SL.ofOwns h.u, SL.ofOwns h.s, ⟨vals, SL.ofOwns h.n, h.vl, fun j x hx => by
    obtain ⟨A, h1, h2⟩ := h.v j x hx
    have hf := hp.fn x (List.mem_of_getElem? hx)
    exact ⟨_, h1, A, _, _, rfl, by simp, h2.rd, Nat.le_refl _, by have := hf.1; simp only [maxLen]; omega⟩⟩, SL.ofOwns h.b⟩, ⟨hp.fu, hp.fs, hp.fn⟩⟩
theorem ParMem.msgZ {w wr Z : World} {I P R : Nat} {E : Nat → Value} {kind : Int} {l : List UInt8} {D : ByteArray × Nat × Msg} {k : Nat} {t t2 : ByteArray} {e e2 : Nat} {us : List Nat} {ss : List ByteArray} {nn : List (List ByteArray)} {bs : List Bool} {cs : Array Value} {vu vs vn vb : Value} {vals : List Value} (h : ParMem w I P R E t2 e2 us ss nn bs cs vu vs vn vb vals wr) (hp : ParPure l D kind k t e us ss nn bs) (hg : wr.grownBy Z (some R)) : IsMsg Z ⟨kind, us, ss, nn, bs⟩ vu vs vn vb := by
  have hk := KeptT.grownAt hg h.r
  exact ⟨SL.ofOwns (hk.owns h.u (by decide)), SL.ofOwns (hk.owns h.s (by decide)), ⟨vals, SL.ofOwns (hk.owns h.n (by decide)), h.vl, fun j x hx => by
    obtain ⟨A, h1, h2⟩ := h.v j x hx
    have hf := hp.fn x (List.mem_of_getElem? hx)
    exact ⟨_, h1, A, _, _, rfl, by simp, (rdsKept h2 hk (by decide)).rd, Nat.le_refl _, by have := hf.1; simp only [maxLen]; omega⟩⟩, SL.ofOwns (hk.owns h.b (by decide))⟩
set_option maxRecDepth 20000 in
set_option maxHeartbeats 8000000 in
theorem Parse_empty (w : World) (a : Nat → Addr) (hE : ErrsM w a) (hT : TabR w) (hM : ∃ m, w.cell? ⟨22, 0, none⟩ = some (.int .i64 m)) (s : ByteArray) (hs : s.size ≤ 1000000) (hne : rawC s 0 1 ≠ 0) :
    Calls Tryz.prog 14 #[.string s] w (ParPost a s w) := by
  have HE := Lib.hid hE
  have HT := Lib.hid hT
  have HM := Lib.hid hM
  have HSS := Lib.hid hs
  have HEV := Lib.hid (errsA hE)
  obtain ⟨mm, hmm⟩ := hM
  have HGM := Lib.hid (show 22 < w.heap.size from World.block_lt_of_cell? _ _ hmm)
  have HGL := Lib.hid (show Gl (w.heap.size + 1) from Errs.gl HEV.out (by omega))
  have HOF := Lib.hid (show Calls Tryz.prog 25 #[.string s] (w.alloc (.cells #[.int .i64 0, .slice none 0 0, .slice none 0 0, .slice none 0 0, .slice none 0 0] 47)) fun e w' => e = .returned (.pointer (some ⟨w.heap.size + 1, 0, none⟩)) ∧ IsIn w' (w.heap.size + 1) s .nilIface ∧ Below w.heap.size w w' ∧ Rg.Blk w' w.heap.size 47 #[.int .i64 0, .slice none 0 0, .slice none 0 0, .slice none 0 0, .slice none 0 0] ∧ w.heap.size + 1 < w'.heap.size by
    refine (Of_any (w.alloc (.cells #[.int .i64 0, .slice none 0 0, .slice none 0 0, .slice none 0 0, .slice none 0 0] 47)) s).mono ?_
    rintro e w' ⟨rfl, h1, h2⟩
    have hz : (w.alloc (.cells #[.int .i64 0, .slice none 0 0, .slice none 0 0, .slice none 0 0, .slice none 0 0] 47)).heap.size = w.heap.size + 1 := by simp
    rw [hz] at h1 h2
    exact ⟨by rw [hz], h1, ((Below.refl _ _).alloc (Nat.le_refl _) _).trans (h2.mono (by omega)), (Rg.Blk.new w _ _).below h2 (by omega), h1.lt⟩)
  obtain ⟨n1, hn1⟩ : ∃ n1, numV (rawR s 0 1).data.toList = n1 := ⟨_, rfl⟩
  obtain ⟨s1, hs1⟩ : ∃ s1, rawS s 0 1 = s1 := ⟨_, rfl⟩
  obtain ⟨c1, hc1⟩ : ∃ c1, rawC s 0 1 = c1 := ⟨_, rfl⟩
  have hn256 : n1 < 256 := by rw [← hn1]; exact num1_lt s 0
  have HS1 := Lib.hid (show s1.size ≤ 1000000 by rw [← hs1]; exact Nat.le_trans (rawS_size _ _ _) hs)
  have HKD := Lib.hid (show kindOf s = (n1 : Int) by unfold kindOf; rw [hn1])
  have HBY := Lib.hid (show ∀ W, Below w.heap.size w W → IsIn W (w.heap.size + 1) s .nilIface → Calls Tryz.prog 26 #[.pointer (some ⟨w.heap.size + 1, 0, none⟩)] W (Gave (eA a) (w.heap.size + 1) W (.int .u8 (n1 : Int)) s1 c1) from fun W hW hI => by
    have := InByte_any W (eA a) (w.heap.size + 1) s 0 (by omega) (HEV.out.below hW) HGL.out hI
    rw [hn1, hs1, hc1] at this; exact this)
  have hc0 : c1 ≠ 0 := by rw [← hc1]; exact hne
  have HP := Lib.hid (show parseC s = c1 by unfold parseC; rw [if_pos hne, hc1])
  have HV1 := Lib.hid (show evV (eA a) c1 = .iface 162 (.pointer (some (a c1))) by unfold evV; rw [if_neg hc0]; rfl)
  have HC0 := Lib.hid hc0
  clear hE hT hmm hs hn1 hs1 hc1 hne hc0
  go_enter Tryz.func14, Tryz.ntmps14
  go_wp2_with (first
    | (go_at_call 25; refine HOF.out.mono ?_; rintro e w1 ⟨rfl, h1, hb1, hr1, hz1⟩; skip
       have H1 := Lib.hid h1; have HB1 := Lib.hid hb1; have HR1 := Lib.hid hr1; have HZ1 := Lib.hid hz1; clear h1 hb1 hr1 hz1)
    | (go_at_call 26; refine (HBY.out _ HB1.out H1.out).mono ?_; rintro e w2 ⟨rfl, h2, hg2⟩; skip
       have H2 := Lib.hid h2; have HR2 := Lib.hid (blk_grown HR1.out hg2 (by omega)); have HB2 := Lib.hid (HB1.out.grown hg2 HB1.out.size (fun k hk => by cases hk; omega)); have HZ2 := Lib.hid (Nat.lt_of_lt_of_le HZ1.out hg2.size); clear h2 hg2)
    | (refine Rg.store_fresh rfl 47 _ _ rfl #[.int .i64 (n1 : Int), .slice none 0 0, .slice none 0 0, .slice none 0 0, .slice none 0 0] _ 47 rfl rfl (by kernel_rfl) rfl (by simp [Value.oneCell']) ?_
       intro X hX hbX
       have HX := Lib.hid hX; have HBX := Lib.hid (HB2.out.trans (hbX.mono HB2.out.size)); have HIX := Lib.hid (H2.out.below hbX H2.out.lt); have HRX := Lib.hid (HR2.out.below hbX HR2.out.lt)
       have x0 := hX.cell 0 (v := .int .i64 (n1 : Int)) rfl
       clear hX hbX)
    | (go_at_call 27; refine (InErr_any _ (w.heap.size + 1) s1 _ HIX.out).mono ?_; rintro e w3 ⟨rfl, rfl⟩; rw [HV1.out]; skip)
    | (refine Cv.store_blk rfl 47 _ _ rfl w.heap.size #[.int .i64 0, .slice none 0 0, .slice none 0 0, .slice none 0 0, .slice none 0 0] #[.int .i64 0, .slice none 0 0, .slice none 0 0, .slice none 0 0, .slice none 0 0] 47 rfl rfl HRX.out (by kernel_rfl) rfl (by simp [Value.oneCell']) ?_
       intro Z hZ hgZ
       have z0 := hZ.cell 0 (v := .int .i64 0) rfl; have z1 := hZ.cell 1 (v := .slice none 0 0) rfl; have z2 := hZ.cell 2 (v := .slice none 0 0) rfl; have z3 := hZ.cell 3 (v := .slice none 0 0) rfl; have z4 := hZ.cell 4 (v := .slice none 0 0) rfl
       have HGZ := Lib.hid hgZ
       clear hZ hgZ))
  refine bodyPost_ret (v := .tuple #[.agg #[.int .i64 0, .slice none 0 0, .slice none 0 0, .slice none 0 0, .slice none 0 0], .iface 162 (.pointer (some (a c1)))]) (by simp [results, Tryz.results14, go_sem, z0, z1, z2, z3, z4]) rfl ?_
  exact ParPost.bad HP.out HC0.out (HBX.out.grown HGZ.out HBX.out.size (fun k hk => by cases hk; exact Nat.le_refl _))
set_option maxRecDepth 20000 in
set_option maxHeartbeats 8000000 in
theorem Parse_kind (w : World) (a : Nat → Addr) (hE : ErrsM w a) (hT : TabR w) (hM : ∃ m, w.cell? ⟨22, 0, none⟩ = some (.int .i64 m)) (s : ByteArray) (hs : s.size ≤ 1000000) (hne : rawC s 0 1 = 0) (hk : isK (kindOf s) = false) :
    Calls Tryz.prog 14 #[.string s] w (ParPost a s w) := by
  have HE := Lib.hid hE
  have HT := Lib.hid hT
  have HM := Lib.hid hM
  have HSS := Lib.hid hs
  have HEV := Lib.hid (errsA hE)
  obtain ⟨mm, hmm⟩ := hM
  have HGM := Lib.hid (show 22 < w.heap.size from World.block_lt_of_cell? _ _ hmm)
  have HGL := Lib.hid (show Gl (w.heap.size + 1) from Errs.gl HEV.out (by omega))
  have HOF := Lib.hid (show Calls Tryz.prog 25 #[.string s] (w.alloc (.cells #[.int .i64 0, .slice none 0 0, .slice none 0 0, .slice none 0 0, .slice none 0 0] 47)) fun e w' => e = .returned (.pointer (some ⟨w.heap.size + 1, 0, none⟩)) ∧ IsIn w' (w.heap.size + 1) s .nilIface ∧ Below w.heap.size w w' ∧ Rg.Blk w' w.heap.size 47 #[.int .i64 0, .slice none 0 0, .slice none 0 0, .slice none 0 0, .slice none 0 0] ∧ w.heap.size + 1 < w'.heap.size by
    refine (Of_any (w.alloc (.cells #[.int .i64 0, .slice none 0 0, .slice none 0 0, .slice none 0 0, .slice none 0 0] 47)) s).mono ?_
    rintro e w' ⟨rfl, h1, h2⟩
    have hz : (w.alloc (.cells #[.int .i64 0, .slice none 0 0, .slice none 0 0, .slice none 0 0, .slice none 0 0] 47)).heap.size = w.heap.size + 1 := by simp
    rw [hz] at h1 h2
    exact ⟨by rw [hz], h1, ((Below.refl _ _).alloc (Nat.le_refl _) _).trans (h2.mono (by omega)), (Rg.Blk.new w _ _).below h2 (by omega), h1.lt⟩)
  obtain ⟨n1, hn1⟩ : ∃ n1, numV (rawR s 0 1).data.toList = n1 := ⟨_, rfl⟩
  obtain ⟨s1, hs1⟩ : ∃ s1, rawS s 0 1 = s1 := ⟨_, rfl⟩
  obtain ⟨c1, hc1⟩ : ∃ c1, rawC s 0 1 = c1 := ⟨_, rfl⟩
  have hn256 : n1 < 256 := by rw [← hn1]; exact num1_lt s 0
  have HS1 := Lib.hid (show s1.size ≤ 1000000 by rw [← hs1]; exact Nat.le_trans (rawS_size _ _ _) hs)
  have HKD := Lib.hid (show kindOf s = (n1 : Int) by unfold kindOf; rw [hn1])
  have HBY := Lib.hid (show ∀ W, Below w.heap.size w W → IsIn W (w.heap.size + 1) s .nilIface → Calls Tryz.prog 26 #[.pointer (some ⟨w.heap.size + 1, 0, none⟩)] W (Gave (eA a) (w.heap.size + 1) W (.int .u8 (n1 : Int)) s1 c1) from fun W hW hI => by
    have := InByte_any W (eA a) (w.heap.size + 1) s 0 (by omega) (HEV.out.below hW) HGL.out hI
    rw [hn1, hs1, hc1] at this; exact this)
  have HP := Lib.hid (show parseC s = 20 by unfold parseC; rw [if_neg (fun h => h hne), if_pos hk])
  have hc0 : c1 = 0 := by rw [← hc1]; exact hne
  subst hc0
  have HV1 := Lib.hid (evV_zero (eA a))
  rw [HKD.out] at hk
  have HFI := Lib.hid (show ∀ W, Below w.heap.size w W → Calls Tryz.prog 28 #[.int .i64 (n1 : Int)] W fun e w' => e = .returned (.tuple #[.string (mkS (ltr n1)), .bool false]) ∧ Below W.heap.size W w' from fun W hW => by
    have := Fields_any W n1 (hT.below hW)
    rw [hk] at this; exact this)
  generalize mkS (ltr n1) = ls at *
  clear hE hT hmm hs hn1 hs1 hc1 hne hk
  go_enter Tryz.func14, Tryz.ntmps14
  go_wp2_with (first
    | (go_at_call 25; refine HOF.out.mono ?_; rintro e w1 ⟨rfl, h1, hb1, hr1, hz1⟩; skip
       have H1 := Lib.hid h1; have HB1 := Lib.hid hb1; have HR1 := Lib.hid hr1; have HZ1 := Lib.hid hz1; clear h1 hb1 hr1 hz1)
    | (go_at_call 26; refine (HBY.out _ HB1.out H1.out).mono ?_; rintro e w2 ⟨rfl, h2, hg2⟩; skip
       have H2 := Lib.hid h2; have HR2 := Lib.hid (blk_grown HR1.out hg2 (by omega)); have HB2 := Lib.hid (HB1.out.grown hg2 HB1.out.size (fun k hk => by cases hk; omega)); have HZ2 := Lib.hid (Nat.lt_of_lt_of_le HZ1.out hg2.size); clear h2 hg2)
    | (refine Rg.store_fresh rfl 47 _ _ rfl #[.int .i64 (n1 : Int), .slice none 0 0, .slice none 0 0, .slice none 0 0, .slice none 0 0] _ 47 rfl rfl (by kernel_rfl) rfl (by simp [Value.oneCell']) ?_
       intro X hX hbX
       have HX := Lib.hid hX; have HBX := Lib.hid (HB2.out.trans (hbX.mono HB2.out.size)); have HIX := Lib.hid (H2.out.below hbX H2.out.lt); have HRX := Lib.hid (HR2.out.below hbX HR2.out.lt)
       have x0 := hX.cell 0 (v := .int .i64 (n1 : Int)) rfl
       clear hX hbX)
    | (go_at_call 27; refine (InErr_any _ (w.heap.size + 1) s1 _ HIX.out).mono ?_; rintro e w3 ⟨rfl, rfl⟩; rw [HV1.out]; skip)
    | (go_at_call 28; refine (HFI.out _ HBX.out).mono ?_; rintro e w4 ⟨rfl, hb4⟩; skip
       have hb5 := HBX.out.trans (hb4.mono HBX.out.size)
       have hZ := HRX.out.below hb4 HRX.out.lt
       have z0 := hZ.cell 0 (v := .int .i64 0) rfl; have z1 := hZ.cell 1 (v := .slice none 0 0) rfl; have z2 := hZ.cell 2 (v := .slice none 0 0) rfl; have z3 := hZ.cell 3 (v := .slice none 0 0) rfl; have z4 := hZ.cell 4 (v := .slice none 0 0) rfl
       have f0 := hZ.frozen 0; have f1 := hZ.frozen 1; have f2 := hZ.frozen 2; have f3 := hZ.frozen 3; have f4 := hZ.frozen 4
       have ec : w4.cell? ⟨19, 0, none⟩ = some (.iface 162 (.pointer (some (a 20)))) := (HE.out.below hb5).cell 19 (by decide)
       have HZ4 := Lib.hid hZ; have HB5 := Lib.hid hb5; clear hZ hb4 hb5))
  have hgl : 19 < w.heap.size := World.block_lt_of_cell? w _ (HE.out.cell 19 (by decide))
  have hg1 : ¬ 19 = w.heap.size := by omega
  have hg2 : ¬ w.heap.size = 19 := by omega
  clear hgl
  go_region
  all_goals
    go_wp2_with fail
    refine bodyPost_ret (v := .tuple #[.agg #[.int .i64 0, .slice none 0 0, .slice none 0 0, .slice none 0 0, .slice none 0 0], .iface 162 (.pointer (some (a 20)))]) (by simp [results, Tryz.results14, go_sem, z0, z1, z2, z3, z4]) rfl ?_
    refine ParPost.bad HP.out (by decide) (Below.trans HB5.out (Below.mono (B := w.heap.size) (show Below w.heap.size w4 _ from ?_) (Nat.le_refl _)))
    repeat (first | exact Below.refl _ _ | apply Below.drew | (refine Below.setCell ?_ ?_ _; rotate_left; focus (first | (simp; done) | (simp; omega) | omega)) | (refine Below.alloc ?_ ?_ _; rotate_left; focus (first | (simp; done) | (simp; omega) | omega)))
set_option maxRecDepth 20000 in
set_option maxHeartbeats 8000000 in
theorem Parse_on (w : World) (a : Nat → Addr) (hE : ErrsM w a) (hT : TabR w) (hM : ∃ m, w.cell? ⟨22, 0, none⟩ = some (.int .i64 m)) (s : ByteArray) (hs : s.size ≤ 1000000) (hne : rawC s 0 1 = 0) (hk : isK (kindOf s) = true) :
    Calls Tryz.prog 14 #[.string s] w (ParPost a s w) := by
  have HE := Lib.hid hE
  have HT := Lib.hid hT
  have HM := Lib.hid hM
  have HSS := Lib.hid hs
  have HEV := Lib.hid (errsA hE)
  obtain ⟨mm, hmm⟩ := hM
  have HGM := Lib.hid (show 22 < w.heap.size from World.block_lt_of_cell? _ _ hmm)
  have HGL := Lib.hid (show Gl (w.heap.size + 1) from Errs.gl HEV.out (by omega))
  have HOF := Lib.hid (show Calls Tryz.prog 25 #[.string s] (w.alloc (.cells #[.int .i64 0, .slice none 0 0, .slice none 0 0, .slice none 0 0, .slice none 0 0] 47)) fun e w' => e = .returned (.pointer (some ⟨w.heap.size + 1, 0, none⟩)) ∧ IsIn w' (w.heap.size + 1) s .nilIface ∧ Below w.heap.size w w' ∧ Rg.Blk w' w.heap.size 47 #[.int .i64 0, .slice none 0 0, .slice none 0 0, .slice none 0 0, .slice none 0 0] ∧ w.heap.size + 1 < w'.heap.size by
    refine (Of_any (w.alloc (.cells #[.int .i64 0, .slice none 0 0, .slice none 0 0, .slice none 0 0, .slice none 0 0] 47)) s).mono ?_
    rintro e w' ⟨rfl, h1, h2⟩
    have hz : (w.alloc (.cells #[.int .i64 0, .slice none 0 0, .slice none 0 0, .slice none 0 0, .slice none 0 0] 47)).heap.size = w.heap.size + 1 := by simp
    rw [hz] at h1 h2
    exact ⟨by rw [hz], h1, ((Below.refl _ _).alloc (Nat.le_refl _) _).trans (h2.mono (by omega)), (Rg.Blk.new w _ _).below h2 (by omega), h1.lt⟩)
  obtain ⟨n1, hn1⟩ : ∃ n1, numV (rawR s 0 1).data.toList = n1 := ⟨_, rfl⟩
  obtain ⟨s1, hs1⟩ : ∃ s1, rawS s 0 1 = s1 := ⟨_, rfl⟩
  obtain ⟨c1, hc1⟩ : ∃ c1, rawC s 0 1 = c1 := ⟨_, rfl⟩
  have hn256 : n1 < 256 := by rw [← hn1]; exact num1_lt s 0
  have HS1 := Lib.hid (show s1.size ≤ 1000000 by rw [← hs1]; exact Nat.le_trans (rawS_size _ _ _) hs)
  have HKD := Lib.hid (show kindOf s = (n1 : Int) by unfold kindOf; rw [hn1])
  have HBY := Lib.hid (show ∀ W, Below w.heap.size w W → IsIn W (w.heap.size + 1) s .nilIface → Calls Tryz.prog 26 #[.pointer (some ⟨w.heap.size + 1, 0, none⟩)] W (Gave (eA a) (w.heap.size + 1) W (.int .u8 (n1 : Int)) s1 c1) from fun W hW hI => by
    have := InByte_any W (eA a) (w.heap.size + 1) s 0 (by omega) (HEV.out.below hW) HGL.out hI
    rw [hn1, hs1, hc1] at this; exact this)
  have hc0 : c1 = 0 := by rw [← hc1]; exact hne
  subst hc0
  have HV1 := Lib.hid (evV_zero (eA a))
  obtain ⟨D, hD⟩ : ∃ D, decOf s = D := ⟨_, rfl⟩
  have HP := Lib.hid (show parseC s = if endC D.1 D.2.1 ≠ 0 then endC D.1 D.2.1 else checkC D.2.2 by unfold parseC; rw [if_neg (fun h => h hne), if_neg (by rw [hk]; decide), hD])
  have HPM := Lib.hid (show parseC s = 0 → parseM s = D.2.2 from fun h => by unfold parseM; rw [if_pos h, hD])
  rw [HKD.out] at hk
  obtain ⟨l, hl⟩ : ∃ l, ltr n1 = l := ⟨_, rfl⟩
  obtain ⟨ls, hls⟩ : ∃ ls, mkS l = ls := ⟨_, rfl⟩
  have HD := Lib.hid (show dec l s1 0 ⟨n1, [], [], [], []⟩ = D by rw [← hD]; unfold decOf; rw [HKD.out, hl, hs1])
  have HLL := Lib.hid (show l.length ≤ 100 by rw [← hl]; exact ltr_len n1)
  have HLZ := Lib.hid (show ls.size = l.length by rw [← hls]; exact mkS_size l)
  have HLG := Lib.hid (show ls.data.toList = l by rw [← hls]; exact mkS_list l)
  have HGD := Lib.hid (show goodL l = true by rw [← hl]; exact ltr_good n1)
  have HAF := Lib.hid (show aftN l = true by rw [← hl]; exact ltr_aftN n1)
  have HFI := Lib.hid (show ∀ W, Below w.heap.size w W → Calls Tryz.prog 28 #[.int .i64 (n1 : Int)] W fun e w' => e = .returned (.tuple #[.string ls, .bool true]) ∧ Below W.heap.size W w' from fun W hW => by
    have := Fields_any W n1 (hT.below hW)
    rw [hk, hl, hls] at this; exact this)
  obtain ⟨q, hq⟩ : ∃ q, l.length = q := ⟨_, rfl⟩
  have hq1 : q ≤ 100 := by rw [← hq]; exact HLL.out
  have HLQ := Lib.hid (HLZ.out.trans hq)
  have HQ := Lib.hid hq
  clear hq hE hT hmm hs hn1 hs1 hc1 hne hk hD hl hls
  go_enter Tryz.func14, Tryz.ntmps14
  go_wp2_with (first
    | (go_at_call 25; refine HOF.out.mono ?_; rintro e w1 ⟨rfl, h1, hb1, hr1, hz1⟩; skip
       have H1 := Lib.hid h1; have HB1 := Lib.hid hb1; have HR1 := Lib.hid hr1; have HZ1 := Lib.hid hz1; clear h1 hb1 hr1 hz1)
    | (go_at_call 26; refine (HBY.out _ HB1.out H1.out).mono ?_; rintro e w2 ⟨rfl, h2, hg2⟩; skip
       have H2 := Lib.hid h2; have HR2 := Lib.hid (blk_grown HR1.out hg2 (by omega)); have HB2 := Lib.hid (HB1.out.grown hg2 HB1.out.size (fun k hk => by cases hk; omega)); have HZ2 := Lib.hid (Nat.lt_of_lt_of_le HZ1.out hg2.size); clear h2 hg2)
    | (refine Rg.store_fresh rfl 47 _ _ rfl #[.int .i64 (n1 : Int), .slice none 0 0, .slice none 0 0, .slice none 0 0, .slice none 0 0] _ 47 rfl rfl (by kernel_rfl) rfl (by simp [Value.oneCell']) ?_
       intro X hX hbX
       have HX := Lib.hid hX; have HBX := Lib.hid (HB2.out.trans (hbX.mono HB2.out.size)); have HIX := Lib.hid (H2.out.below hbX H2.out.lt); have HRX := Lib.hid (HR2.out.below hbX HR2.out.lt)
       have x0 := hX.cell 0 (v := .int .i64 (n1 : Int)) rfl
       clear hX hbX)
    | (go_at_call 27; refine (InErr_any _ (w.heap.size + 1) s1 _ HIX.out).mono ?_; rintro e w3 ⟨rfl, rfl⟩; rw [HV1.out]; skip)
    | (go_at_call 28; refine (HFI.out _ HBX.out).mono ?_; rintro e w4 ⟨rfl, hb4⟩; skip
       have HB5 := Lib.hid (HBX.out.trans (hb4.mono HBX.out.size))
       have HZ4 := Lib.hid (HRX.out.below hb4 HRX.out.lt)
       have HX4 := Lib.hid (HX.out.below hb4 HX.out.lt)
       have HI4 := Lib.hid (HIX.out.below hb4 HIX.out.lt)
       clear hb4 x0))
  have HSZ4 := Lib.hid (show w2.heap.size + 1 ≤ w4.heap.size from HX4.out.lt)
  generalize hPP : w2.heap.size = P at *
  have HPP := Lib.hid (show w.heap.size + 1 < P from HZ2.out)
  clear hPP
  go_loopw [36] (fun i wr => ∃ k : Nat, k ≤ q ∧ i = .int .i64 k ∧ ParRel w (w.heap.size + 1) P w.heap.size (eA a) n1 l D k wr) (fun i _ => 200 - (intOf i).toNat)
  case atStart =>
    exact ⟨0, Nat.zero_le _, rfl, s1, 0, [], [], [], [], _, _, _, _, [], ⟨HD.out, Nat.le_refl _, Nat.le_refl _, Nat.le_refl _, Nat.le_refl _, fun x h => by simp at h, fun x h => by simp at h, fun x h => by simp at h, HGD.out, HAF.out, .inl rfl, HS1.out⟩, ⟨HI4.out, HX4.out, HZ4.out, Owns.nil _ _ _, Owns.nil _ _ _, Owns.nil _ _ _, Owns.nil _ _ _, rfl, fun j l h => by simp at h, HB5.out, by omega, Nat.le_refl _, by have := HPP.out; omega⟩⟩
  case round =>
    obtain ⟨k, hk, rfl, t, e0, us, ss, nn, bs, vu, vs, vn, vb, vals, hpu, hme⟩ := hrel
    have HPU := Lib.hid hpu
    have HME := Lib.hid hme
    clear hpu hme
    by_cases hkq : k < q
    · have hlz2 := HLQ.out
      have hks : k < ls.size := by omega
      have hik : (k : Int) < ls.size := by omega
      have hd0 : decide (k < ls.size) = true := by simp; exact hks
      have hx : l[k]? = some ls[k] := by rw [← HLG.out]; exact get_list ls k hks
      clear hlz2
      generalize hxx : ls[k] = x at *
      have HX1 := Lib.hid hx
      have hlet := good_letter l k x HPU.out.good hx
      clear hx
      rcases hlet with rfl | rfl | rfl | rfl | rfl | rfl
      · have e117 : (((117 : UInt8).toNat : Int) == 117) = true := rfl
        go_wp2_with fail
        refine RT.start (fun W => W.cell? ⟨P, 1, none⟩ = some vu) 7 1 (by kernel_rfl) (by decide) rfl (by kernel_rfl) (by kernel_rfl) ?hS117 ?_
        case hS117 => exact (HME.out.below (Below.drew (Below.refl _ _))).p.cell 1 rfl
        refine' RT.takeV (i := 0) (v := _) rfl (by kernel_rfl) (by kernel_rfl) (by kernel_rfl) (by decide) (fun _ _ _ h => h) (by rfl) ?h117x0 ?_
        case h117x0 => (intro W hSW; go_simp; try with_reducible rfl)
        (try simp only [Act.put, List.setIfInBounds_toArray, List.set_cons_zero, List.set_cons_succ])
        refine' RT.takeV (i := 1) (v := _) rfl (by kernel_rfl) (by kernel_rfl) (by kernel_rfl) (by decide) (fun _ _ _ h => h) (by rfl) ?h117x1 ?_
        case h117x1 => (intro W hSW; have g : W.cell? ⟨P, 1, none⟩ = some vu := hSW; go_simp; try with_reducible rfl)
        (try simp only [Act.put, List.setIfInBounds_toArray, List.set_cons_zero, List.set_cons_succ])
        refine' RT.takeV (i := 2) (v := _) rfl (by kernel_rfl) (by kernel_rfl) (by kernel_rfl) (by decide) (fun _ _ _ h => h) (by rfl) ?h117x2 ?_
        case h117x2 => (intro W hSW; go_simp; try with_reducible rfl)
        (try simp only [Act.put, List.setIfInBounds_toArray, List.set_cons_zero, List.set_cons_succ])
        refine RT.stepK (i := 3) rfl (by kernel_rfl) (by decide) (by rfl) (fun wa hla hsa K hK => ?_)
        have hmA := (HME.out.below (Below.drew (Below.refl _ _))).below hla
        have hca := InU32_any wa (eA a) (w.heap.size + 1) t e0 (by have := HPU.out.ts; omega) (HEV.out.below hmA.bl) HGL.out hmA.inn
        go_simp
        refine hca.mono ?_
        rintro e w4 ⟨rfl, hi4, hg4⟩
        have hm4 := hmA.call hi4 hg4
        refine hK.out _ _ (hm4.p.cell 1 rfl) ?_
        have HM4 := Lib.hid hm4
        clear hK hca hi4 hg4 hmA hm4
        (try simp only [Act.put, List.setIfInBounds_toArray, List.set_cons_zero, List.set_cons_succ])
        refine RT.stepK (i := 4) rfl (by kernel_rfl) (by decide) (by rfl) (fun wb hlb hsb K hK => ?_)
        have hmB := HM4.out.below hlb
        have hmB2 := hmB.below ((Below.refl _ _).alloc (Nat.le_refl _) (.cells #[(.int .u32 (numV (rawR t e0 4).data.toList : Nat))] 42))
        go_simp
        refine hK.out _ _ (hmB2.p.cell 1 rfl) ?_
        have HMB := Lib.hid hmB2
        clear hK hmB hmB2
        (try simp only [Act.put, List.setIfInBounds_toArray, List.set_cons_zero, List.set_cons_succ])
        refine RT.stepK (i := 5) rfl (by kernel_rfl) (by decide) (by rfl) (fun wc hlc hsc K hK => ?_)
        have hmC := HMB.out.below hlc
        refine RT.app1_op _ _ _ rfl Tryz.underlying43 infoU32 rfl (by decide) hmC.u rfl (ys := [(.int .u32 (numV (rawR t e0 4).data.toList : Nat))]) rfl rfl ((Rd.one _ _ _).below hlc) (by simp [Value.oneCell']) (by have := HPU.out.lu; rw [List.length_map]; simp only [List.length_cons, List.length_nil]; omega) hmC.lt ?_
        intro v' w6 ho hg _
        have hm6 := hmC.appU (numV (rawR t e0 4).data.toList) ho hg
        obtain ⟨A', c', rfl, _, _⟩ := ho.form
        refine hK.out _ _ (hm6.p.cell 1 rfl) ?_
        have HM6 := Lib.hid hm6
        clear hK hmC hm6 ho hg
        (try simp only [Act.put, List.setIfInBounds_toArray, List.set_cons_zero, List.set_cons_succ])
        refine' RT.takeV (i := 6) (v := _) rfl (by kernel_rfl) (by kernel_rfl) (by kernel_rfl) (by decide) (fun _ _ _ h => h) (by rfl) ?h117x6 ?_
        case h117x6 => (intro W hSW; go_simp; try with_reducible rfl)
        (try simp only [Act.put, List.setIfInBounds_toArray, List.set_cons_zero, List.set_cons_succ])
        refine RT.tail (by kernel_rfl) rfl rfl ?_
        intro wd hld hsd
        have HMD := Lib.hid (HM6.out.below hld)
        refine store_slice rfl 43 _ _ rfl rfl rfl Tryz.underlying43 (by kernel_rfl) HMD.out.p rfl ?_
        intro V hV hgV
        have HN := Lib.hid (show ParRel w (w.heap.size + 1) P w.heap.size (eA a) n1 l D (k + 1) V from ⟨_, _, _, _, _, _, _, _, _, _, _, HPU.out.num HX1.out, HMD.out.store hV hgV⟩)
        clear hV hgV
        go_wp2_with fail
        go_roundw
        case rel =>
          first
            | exact ⟨k + 1, by omega, by go_num, HN.out⟩
            | ((repeat apply Exists.intro); refine ⟨?_, rfl⟩; exact ⟨k + 1, by omega, by go_num, HN.out⟩)
        case measure => simp [intOf]; omega
      · have e117 : (((98 : UInt8).toNat : Int) == 117) = false := rfl
        have e98 : (((98 : UInt8).toNat : Int) == 98) = true := rfl
        go_wp2_with fail
        refine RT.start (fun W => W.cell? ⟨P, 4, none⟩ = some vb) 7 1 (by kernel_rfl) (by decide) rfl (by kernel_rfl) (by kernel_rfl) ?hS98 ?_
        case hS98 => exact (HME.out.below (Below.drew (Below.refl _ _))).p.cell 4 rfl
        refine' RT.takeV (i := 0) (v := _) rfl (by kernel_rfl) (by kernel_rfl) (by kernel_rfl) (by decide) (fun _ _ _ h => h) (by rfl) ?h98x0 ?_
        case h98x0 => (intro W hSW; go_simp; try with_reducible rfl)
        (try simp only [Act.put, List.setIfInBounds_toArray, List.set_cons_zero, List.set_cons_succ])
        refine' RT.takeV (i := 1) (v := _) rfl (by kernel_rfl) (by kernel_rfl) (by kernel_rfl) (by decide) (fun _ _ _ h => h) (by rfl) ?h98x1 ?_
        case h98x1 => (intro W hSW; have g : W.cell? ⟨P, 4, none⟩ = some vb := hSW; go_simp; try with_reducible rfl)
        (try simp only [Act.put, List.setIfInBounds_toArray, List.set_cons_zero, List.set_cons_succ])
        refine' RT.takeV (i := 2) (v := _) rfl (by kernel_rfl) (by kernel_rfl) (by kernel_rfl) (by decide) (fun _ _ _ h => h) (by rfl) ?h98x2 ?_
        case h98x2 => (intro W hSW; go_simp; try with_reducible rfl)
        (try simp only [Act.put, List.setIfInBounds_toArray, List.set_cons_zero, List.set_cons_succ])
        refine RT.stepK (i := 3) rfl (by kernel_rfl) (by decide) (by rfl) (fun wa hla hsa K hK => ?_)
        have hmA := (HME.out.below (Below.drew (Below.refl _ _))).below hla
        have hca := InBool_any wa (eA a) (w.heap.size + 1) t e0 (by have := HPU.out.ts; omega) (HEV.out.below hmA.bl) HGL.out hmA.inn
        go_simp
        refine hca.mono ?_
        rintro e w4 ⟨rfl, hi4, hg4⟩
        have hm4 := hmA.call hi4 hg4
        refine hK.out _ _ (hm4.p.cell 4 rfl) ?_
        have HM4 := Lib.hid hm4
        clear hK hca hi4 hg4 hmA hm4
        (try simp only [Act.put, List.setIfInBounds_toArray, List.set_cons_zero, List.set_cons_succ])
        refine RT.stepK (i := 4) rfl (by kernel_rfl) (by decide) (by rfl) (fun wb hlb hsb K hK => ?_)
        have hmB := HM4.out.below hlb
        have hmB2 := hmB.below ((Below.refl _ _).alloc (Nat.le_refl _) (.cells #[(.bool (numV (rawR t e0 1).data.toList != 0))] 4))
        go_simp
        refine hK.out _ _ (hmB2.p.cell 4 rfl) ?_
        have HMB := Lib.hid hmB2
        clear hK hmB hmB2
        (try simp only [Act.put, List.setIfInBounds_toArray, List.set_cons_zero, List.set_cons_succ])
        refine RT.stepK (i := 5) rfl (by kernel_rfl) (by decide) (by rfl) (fun wc hlc hsc K hK => ?_)
        have hmC := HMB.out.below hlc
        refine RT.app1_op _ _ _ rfl Tryz.underlying45 infoBool rfl (by decide) hmC.b rfl (ys := [(.bool (numV (rawR t e0 1).data.toList != 0))]) rfl rfl ((Rd.one _ _ _).below hlc) (by simp [Value.oneCell']) (by have := HPU.out.lb; rw [List.length_map]; simp only [List.length_cons, List.length_nil]; omega) hmC.lt ?_
        intro v' w6 ho hg _
        have hm6 := hmC.appB (numV (rawR t e0 1).data.toList != 0) ho hg
        obtain ⟨A', c', rfl, _, _⟩ := ho.form
        refine hK.out _ _ (hm6.p.cell 4 rfl) ?_
        have HM6 := Lib.hid hm6
        clear hK hmC hm6 ho hg
        (try simp only [Act.put, List.setIfInBounds_toArray, List.set_cons_zero, List.set_cons_succ])
        refine' RT.takeV (i := 6) (v := _) rfl (by kernel_rfl) (by kernel_rfl) (by kernel_rfl) (by decide) (fun _ _ _ h => h) (by rfl) ?h98x6 ?_
        case h98x6 => (intro W hSW; go_simp; try with_reducible rfl)
        (try simp only [Act.put, List.setIfInBounds_toArray, List.set_cons_zero, List.set_cons_succ])
        refine RT.tail (by kernel_rfl) rfl rfl ?_
        intro wd hld hsd
        have HMD := Lib.hid (HM6.out.below hld)
        refine store_slice rfl 45 _ _ rfl rfl rfl Tryz.underlying45 (by kernel_rfl) HMD.out.p rfl ?_
        intro V hV hgV
        have HN := Lib.hid (show ParRel w (w.heap.size + 1) P w.heap.size (eA a) n1 l D (k + 1) V from ⟨_, _, _, _, _, _, _, _, _, _, _, HPU.out.bool HX1.out, HMD.out.store hV hgV⟩)
        clear hV hgV
        go_wp2_with fail
        go_roundw
        case rel =>
          first
            | exact ⟨k + 1, by omega, by go_num, HN.out⟩
            | ((repeat apply Exists.intro); refine ⟨?_, rfl⟩; exact ⟨k + 1, by omega, by go_num, HN.out⟩)
        case measure => simp [intOf]; omega
      · have e117 : (((115 : UInt8).toNat : Int) == 117) = false := rfl
        have e98 : (((115 : UInt8).toNat : Int) == 98) = false := rfl
        have e115 : (((115 : UInt8).toNat : Int) == 115) = true := rfl
        go_wp2_with fail
        refine RT.start (fun W => W.cell? ⟨P, 2, none⟩ = some vs) 7 1 (by kernel_rfl) (by decide) rfl (by kernel_rfl) (by kernel_rfl) ?hS115 ?_
        case hS115 => exact (HME.out.below (Below.drew (Below.refl _ _))).p.cell 2 rfl
        refine' RT.takeV (i := 0) (v := _) rfl (by kernel_rfl) (by kernel_rfl) (by kernel_rfl) (by decide) (fun _ _ _ h => h) (by rfl) ?h115x0 ?_
        case h115x0 => (intro W hSW; go_simp; try with_reducible rfl)
        (try simp only [Act.put, List.setIfInBounds_toArray, List.set_cons_zero, List.set_cons_succ])
        refine' RT.takeV (i := 1) (v := _) rfl (by kernel_rfl) (by kernel_rfl) (by kernel_rfl) (by decide) (fun _ _ _ h => h) (by rfl) ?h115x1 ?_
        case h115x1 => (intro W hSW; have g : W.cell? ⟨P, 2, none⟩ = some vs := hSW; go_simp; try with_reducible rfl)
        (try simp only [Act.put, List.setIfInBounds_toArray, List.set_cons_zero, List.set_cons_succ])
        refine' RT.takeV (i := 2) (v := _) rfl (by kernel_rfl) (by kernel_rfl) (by kernel_rfl) (by decide) (fun _ _ _ h => h) (by rfl) ?h115x2 ?_
        case h115x2 => (intro W hSW; go_simp; try with_reducible rfl)
        (try simp only [Act.put, List.setIfInBounds_toArray, List.set_cons_zero, List.set_cons_succ])
        refine RT.stepK (i := 3) rfl (by kernel_rfl) (by decide) (by rfl) (fun wa hla hsa K hK => ?_)
        have hmA := (HME.out.below (Below.drew (Below.refl _ _))).below hla
        have hca := InText_any wa (eA a) (w.heap.size + 1) t e0 32768 (by have := HPU.out.ts; omega) (HEV.out.below hmA.bl) HGL.out hmA.inn
        go_simp
        refine hca.mono ?_
        rintro e w4 ⟨rfl, hi4, hg4⟩
        have hm4 := hmA.call hi4 hg4
        refine hK.out _ _ (hm4.p.cell 2 rfl) ?_
        have HM4 := Lib.hid hm4
        clear hK hca hi4 hg4 hmA hm4
        (try simp only [Act.put, List.setIfInBounds_toArray, List.set_cons_zero, List.set_cons_succ])
        refine RT.stepK (i := 4) rfl (by kernel_rfl) (by decide) (by rfl) (fun wb hlb hsb K hK => ?_)
        have hmB := HM4.out.below hlb
        have hmB2 := hmB.below ((Below.refl _ _).alloc (Nat.le_refl _) (.cells #[(.string (txtR t e0 32768))] 9))
        go_simp
        refine hK.out _ _ (hmB2.p.cell 2 rfl) ?_
        have HMB := Lib.hid hmB2
        clear hK hmB hmB2
        (try simp only [Act.put, List.setIfInBounds_toArray, List.set_cons_zero, List.set_cons_succ])
        refine RT.stepK (i := 5) rfl (by kernel_rfl) (by decide) (by rfl) (fun wc hlc hsc K hK => ?_)
        have hmC := HMB.out.below hlc
        refine RT.app1_op _ _ _ rfl Tryz.underlying36 infoStr rfl (by decide) hmC.s rfl (ys := [(.string (txtR t e0 32768))]) rfl rfl ((Rd.one _ _ _).below hlc) (by simp [Value.oneCell']) (by have := HPU.out.ls; rw [List.length_map]; simp only [List.length_cons, List.length_nil]; omega) hmC.lt ?_
        intro v' w6 ho hg _
        have hm6 := hmC.appS (HPU.out.noN HX1.out (by decide)) (txtR t e0 32768) ho hg
        obtain ⟨A', c', rfl, _, _⟩ := ho.form
        refine hK.out _ _ (hm6.p.cell 2 rfl) ?_
        have HM6 := Lib.hid hm6
        clear hK hmC hm6 ho hg
        (try simp only [Act.put, List.setIfInBounds_toArray, List.set_cons_zero, List.set_cons_succ])
        refine' RT.takeV (i := 6) (v := _) rfl (by kernel_rfl) (by kernel_rfl) (by kernel_rfl) (by decide) (fun _ _ _ h => h) (by rfl) ?h115x6 ?_
        case h115x6 => (intro W hSW; go_simp; try with_reducible rfl)
        (try simp only [Act.put, List.setIfInBounds_toArray, List.set_cons_zero, List.set_cons_succ])
        refine RT.tail (by kernel_rfl) rfl rfl ?_
        intro wd hld hsd
        have HMD := Lib.hid (HM6.out.below hld)
        refine store_slice rfl 36 _ _ rfl rfl rfl Tryz.underlying36 (by kernel_rfl) HMD.out.p rfl ?_
        intro V hV hgV
        have HN := Lib.hid (show ParRel w (w.heap.size + 1) P w.heap.size (eA a) n1 l D (k + 1) V from ⟨_, _, _, _, _, _, _, _, _, _, _, HPU.out.text HX1.out, HMD.out.store hV hgV⟩)
        clear hV hgV
        go_wp2_with fail
        go_roundw
        case rel =>
          first
            | exact ⟨k + 1, by omega, by go_num, HN.out⟩
            | ((repeat apply Exists.intro); refine ⟨?_, rfl⟩; exact ⟨k + 1, by omega, by go_num, HN.out⟩)
        case measure => simp [intOf]; omega
      · have e117 : (((110 : UInt8).toNat : Int) == 117) = false := rfl
        have e98 : (((110 : UInt8).toNat : Int) == 98) = false := rfl
        have e115 : (((110 : UInt8).toNat : Int) == 115) = false := rfl
        have e110 : (((110 : UInt8).toNat : Int) == 110) = true := rfl
        go_wp2_with fail
        refine RT.start (fun W => W.cell? ⟨P, 3, none⟩ = some vn) 7 1 (by kernel_rfl) (by decide) rfl (by kernel_rfl) (by kernel_rfl) ?hS110 ?_
        case hS110 => exact (HME.out.below (Below.drew (Below.refl _ _))).p.cell 3 rfl
        refine' RT.takeV (i := 0) (v := _) rfl (by kernel_rfl) (by kernel_rfl) (by kernel_rfl) (by decide) (fun _ _ _ h => h) (by rfl) ?h110x0 ?_
        case h110x0 => (intro W hSW; go_simp; try with_reducible rfl)
        (try simp only [Act.put, List.setIfInBounds_toArray, List.set_cons_zero, List.set_cons_succ])
        refine' RT.takeV (i := 1) (v := _) rfl (by kernel_rfl) (by kernel_rfl) (by kernel_rfl) (by decide) (fun _ _ _ h => h) (by rfl) ?h110x1 ?_
        case h110x1 => (intro W hSW; have g : W.cell? ⟨P, 3, none⟩ = some vn := hSW; go_simp; try with_reducible rfl)
        (try simp only [Act.put, List.setIfInBounds_toArray, List.set_cons_zero, List.set_cons_succ])
        refine' RT.takeV (i := 2) (v := _) rfl (by kernel_rfl) (by kernel_rfl) (by kernel_rfl) (by decide) (fun _ _ _ h => h) (by rfl) ?h110x2 ?_
        case h110x2 => (intro W hSW; go_simp; try with_reducible rfl)
        (try simp only [Act.put, List.setIfInBounds_toArray, List.set_cons_zero, List.set_cons_succ])
        refine RT.stepK (i := 3) rfl (by kernel_rfl) (by decide) (by rfl) (fun wa hla hsa K hK => ?_)
        have hmA := (HME.out.below (Below.drew (Below.refl _ _))).below hla
        have hca := InNames_fresh wa (eA a) (w.heap.size + 1) t e0 (by have := HPU.out.ts; omega) (HEV.out.below hmA.bl) HGL.out (cell_later HM.out hmA.bl) (by have := HGM.out; omega) HPU.out.ts hmA.inn
        go_simp
        refine hca.mono ?_
        rintro e w4 ⟨NA, rfl, hNA, hi4, hg4⟩
        have hm4 := hmA.call hi4 hg4
        have HNA4 := Lib.hid (rdsMono hNA (Nat.zero_le _))
        refine hK.out _ _ (hm4.p.cell 3 rfl) ?_
        have HM4 := Lib.hid hm4
        clear hK hca hi4 hg4 hmA hm4 hNA
        (try simp only [Act.put, List.setIfInBounds_toArray, List.set_cons_zero, List.set_cons_succ])
        refine RT.stepK (i := 4) rfl (by kernel_rfl) (by decide) (by rfl) (fun wb hlb hsb K hK => ?_)
        have hmB := HM4.out.below hlb
        have hmB2 := hmB.below ((Below.refl _ _).alloc (Nat.le_refl _) (.cells #[(.slice NA (namR t e0).length (namR t e0).length)] 36))
        go_simp
        refine hK.out _ _ (hmB2.p.cell 3 rfl) ?_
        have HMB := Lib.hid hmB2
        have HNB := Lib.hid ((HNA4.out.below hlb).below ((Below.refl _ _).alloc (Nat.le_refl _) (.cells #[(.slice NA (namR t e0).length (namR t e0).length)] 36)))
        clear hK hmB hmB2
        (try simp only [Act.put, List.setIfInBounds_toArray, List.set_cons_zero, List.set_cons_succ])
        refine RT.stepK (i := 5) rfl (by kernel_rfl) (by decide) (by rfl) (fun wc hlc hsc K hK => ?_)
        have hmC := HMB.out.below hlc
        have HNA := Lib.hid (HNB.out.below hlc)
        refine RT.app1_op _ _ _ rfl Tryz.underlying44 infoStrs rfl (by decide) hmC.n rfl (ys := [(.slice NA (namR t e0).length (namR t e0).length)]) rfl rfl ((Rd.one _ _ _).below hlc) (by simp [Value.oneCell']) (by have := HPU.out.ln; have := hmC.vl; simp only [List.length_cons, List.length_nil]; omega) hmC.lt ?_
        intro v' w6 ho hg _
        have hm6 := hmC.appN (namR t e0) NA HNA.out ho hg
        obtain ⟨A', c', rfl, _, _⟩ := ho.form
        refine hK.out _ _ (hm6.p.cell 3 rfl) ?_
        have HM6 := Lib.hid hm6
        clear hK hmC hm6 ho hg
        (try simp only [Act.put, List.setIfInBounds_toArray, List.set_cons_zero, List.set_cons_succ])
        refine' RT.takeV (i := 6) (v := _) rfl (by kernel_rfl) (by kernel_rfl) (by kernel_rfl) (by decide) (fun _ _ _ h => h) (by rfl) ?h110x6 ?_
        case h110x6 => (intro W hSW; go_simp; try with_reducible rfl)
        (try simp only [Act.put, List.setIfInBounds_toArray, List.set_cons_zero, List.set_cons_succ])
        refine RT.tail (by kernel_rfl) rfl rfl ?_
        intro wd hld hsd
        have HMD := Lib.hid (HM6.out.below hld)
        refine store_slice rfl 44 _ _ rfl rfl rfl Tryz.underlying44 (by kernel_rfl) HMD.out.p rfl ?_
        intro V hV hgV
        have HN := Lib.hid (show ParRel w (w.heap.size + 1) P w.heap.size (eA a) n1 l D (k + 1) V from ⟨_, _, _, _, _, _, _, _, _, _, _, HPU.out.names HX1.out, HMD.out.store hV hgV⟩)
        clear hV hgV
        go_wp2_with fail
        go_roundw
        case rel =>
          first
            | exact ⟨k + 1, by omega, by go_num, HN.out⟩
            | ((repeat apply Exists.intro); refine ⟨?_, rfl⟩; exact ⟨k + 1, by omega, by go_num, HN.out⟩)
        case measure => simp [intOf]; omega
      · have e117 : (((99 : UInt8).toNat : Int) == 117) = false := rfl
        have e98 : (((99 : UInt8).toNat : Int) == 98) = false := rfl
        have e115 : (((99 : UInt8).toNat : Int) == 115) = false := rfl
        have e110 : (((99 : UInt8).toNat : Int) == 110) = false := rfl
        have e99 : (((99 : UInt8).toNat : Int) == 99) = true := rfl
        go_wp2_with fail
        refine RT.start (fun W => W.cell? ⟨P, 2, none⟩ = some vs) 7 1 (by kernel_rfl) (by decide) rfl (by kernel_rfl) (by kernel_rfl) ?hS99 ?_
        case hS99 => exact (HME.out.below (Below.drew (Below.refl _ _))).p.cell 2 rfl
        refine' RT.takeV (i := 0) (v := _) rfl (by kernel_rfl) (by kernel_rfl) (by kernel_rfl) (by decide) (fun _ _ _ h => h) (by rfl) ?h99x0 ?_
        case h99x0 => (intro W hSW; go_simp; try with_reducible rfl)
        (try simp only [Act.put, List.setIfInBounds_toArray, List.set_cons_zero, List.set_cons_succ])
        refine' RT.takeV (i := 1) (v := _) rfl (by kernel_rfl) (by kernel_rfl) (by kernel_rfl) (by decide) (fun _ _ _ h => h) (by rfl) ?h99x1 ?_
        case h99x1 => (intro W hSW; have g : W.cell? ⟨P, 2, none⟩ = some vs := hSW; go_simp; try with_reducible rfl)
        (try simp only [Act.put, List.setIfInBounds_toArray, List.set_cons_zero, List.set_cons_succ])
        refine' RT.takeV (i := 2) (v := _) rfl (by kernel_rfl) (by kernel_rfl) (by kernel_rfl) (by decide) (fun _ _ _ h => h) (by rfl) ?h99x2 ?_
        case h99x2 => (intro W hSW; go_simp; try with_reducible rfl)
        (try simp only [Act.put, List.setIfInBounds_toArray, List.set_cons_zero, List.set_cons_succ])
        refine RT.stepK (i := 3) rfl (by kernel_rfl) (by decide) (by rfl) (fun wa hla hsa K hK => ?_)
        have hmA := (HME.out.below (Below.drew (Below.refl _ _))).below hla
        have hca := InRaw_any wa (eA a) (w.heap.size + 1) t e0 16 (by decide) (by have := HPU.out.ts; omega) (HEV.out.below hmA.bl) HGL.out hmA.inn
        rw [show (16 : Int).toNat = 16 from rfl] at hca
        go_simp
        refine hca.mono ?_
        rintro e w4 ⟨rfl, hi4, hg4⟩
        have hm4 := hmA.call hi4 hg4
        refine hK.out _ _ (hm4.p.cell 2 rfl) ?_
        have HM4 := Lib.hid hm4
        clear hK hca hi4 hg4 hmA hm4
        (try simp only [Act.put, List.setIfInBounds_toArray, List.set_cons_zero, List.set_cons_succ])
        refine RT.stepK (i := 4) rfl (by kernel_rfl) (by decide) (by rfl) (fun wb hlb hsb K hK => ?_)
        have hmB := HM4.out.below hlb
        have hmB2 := hmB.below ((Below.refl _ _).alloc (Nat.le_refl _) (.cells #[(.string (rawR t e0 16))] 9))
        go_simp
        refine hK.out _ _ (hmB2.p.cell 2 rfl) ?_
        have HMB := Lib.hid hmB2
        clear hK hmB hmB2
        (try simp only [Act.put, List.setIfInBounds_toArray, List.set_cons_zero, List.set_cons_succ])
        refine RT.stepK (i := 5) rfl (by kernel_rfl) (by decide) (by rfl) (fun wc hlc hsc K hK => ?_)
        have hmC := HMB.out.below hlc
        refine RT.app1_op _ _ _ rfl Tryz.underlying36 infoStr rfl (by decide) hmC.s rfl (ys := [(.string (rawR t e0 16))]) rfl rfl ((Rd.one _ _ _).below hlc) (by simp [Value.oneCell']) (by have := HPU.out.ls; rw [List.length_map]; simp only [List.length_cons, List.length_nil]; omega) hmC.lt ?_
        intro v' w6 ho hg _
        have hm6 := hmC.appS (HPU.out.noN HX1.out (by decide)) (rawR t e0 16) ho hg
        obtain ⟨A', c', rfl, _, _⟩ := ho.form
        refine hK.out _ _ (hm6.p.cell 2 rfl) ?_
        have HM6 := Lib.hid hm6
        clear hK hmC hm6 ho hg
        (try simp only [Act.put, List.setIfInBounds_toArray, List.set_cons_zero, List.set_cons_succ])
        refine' RT.takeV (i := 6) (v := _) rfl (by kernel_rfl) (by kernel_rfl) (by kernel_rfl) (by decide) (fun _ _ _ h => h) (by rfl) ?h99x6 ?_
        case h99x6 => (intro W hSW; go_simp; try with_reducible rfl)
        (try simp only [Act.put, List.setIfInBounds_toArray, List.set_cons_zero, List.set_cons_succ])
        refine RT.tail (by kernel_rfl) rfl rfl ?_
        intro wd hld hsd
        have HMD := Lib.hid (HM6.out.below hld)
        refine store_slice rfl 36 _ _ rfl rfl rfl Tryz.underlying36 (by kernel_rfl) HMD.out.p rfl ?_
        intro V hV hgV
        have HN := Lib.hid (show ParRel w (w.heap.size + 1) P w.heap.size (eA a) n1 l D (k + 1) V from ⟨_, _, _, _, _, _, _, _, _, _, _, HPU.out.raw HX1.out 16 (.inl ⟨rfl, rfl⟩), HMD.out.store hV hgV⟩)
        clear hV hgV
        go_wp2_with fail
        go_roundw
        case rel =>
          first
            | exact ⟨k + 1, by omega, by go_num, HN.out⟩
            | ((repeat apply Exists.intro); refine ⟨?_, rfl⟩; exact ⟨k + 1, by omega, by go_num, HN.out⟩)
        case measure => simp [intOf]; omega
      · have e117 : (((114 : UInt8).toNat : Int) == 117) = false := rfl
        have e98 : (((114 : UInt8).toNat : Int) == 98) = false := rfl
        have e115 : (((114 : UInt8).toNat : Int) == 115) = false := rfl
        have e110 : (((114 : UInt8).toNat : Int) == 110) = false := rfl
        have e99 : (((114 : UInt8).toNat : Int) == 99) = false := rfl
        have e114 : (((114 : UInt8).toNat : Int) == 114) = true := rfl
        go_wp2_with fail
        refine RT.start (fun W => W.cell? ⟨P, 2, none⟩ = some vs) 9 1 (by kernel_rfl) (by decide) rfl (by kernel_rfl) (by kernel_rfl) ?hS114 ?_
        case hS114 => exact (HME.out.below (Below.drew (Below.refl _ _))).p.cell 2 rfl
        refine' RT.takeV (i := 0) (v := _) rfl (by kernel_rfl) (by kernel_rfl) (by kernel_rfl) (by decide) (fun _ _ _ h => h) (by rfl) ?h114x0 ?_
        case h114x0 => (intro W hSW; go_simp; try with_reducible rfl)
        (try simp only [Act.put, List.setIfInBounds_toArray, List.set_cons_zero, List.set_cons_succ])
        refine' RT.takeV (i := 1) (v := _) rfl (by kernel_rfl) (by kernel_rfl) (by kernel_rfl) (by decide) (fun _ _ _ h => h) (by rfl) ?h114x1 ?_
        case h114x1 => (intro W hSW; have g : W.cell? ⟨P, 2, none⟩ = some vs := hSW; go_simp; try with_reducible rfl)
        (try simp only [Act.put, List.setIfInBounds_toArray, List.set_cons_zero, List.set_cons_succ])
        refine' RT.takeV (i := 2) (v := _) rfl (by kernel_rfl) (by kernel_rfl) (by kernel_rfl) (by decide) (fun _ _ _ h => h) (by rfl) ?h114x2 ?_
        case h114x2 => (intro W hSW; go_simp; try with_reducible rfl)
        (try simp only [Act.put, List.setIfInBounds_toArray, List.set_cons_zero, List.set_cons_succ])
        refine' RT.takeV (i := 3) (v := _) rfl (by kernel_rfl) (by kernel_rfl) (by kernel_rfl) (by decide) (fun _ _ _ h => h) (by rfl) ?h114x3 ?_
        case h114x3 => (intro W hSW; go_simp; try with_reducible rfl)
        (try simp only [Act.put, List.setIfInBounds_toArray, List.set_cons_zero, List.set_cons_succ])
        refine RT.stepK (i := 4) rfl (by kernel_rfl) (by decide) (by rfl) (fun wl hl0 hs0 K hK => ?_)
        have hmL := (HME.out.below (Below.drew (Below.refl _ _))).below hl0
        have hcl := InLeft_any wl (eA a) (w.heap.size + 1) t _ hmL.inn
        go_simp
        refine hcl.mono ?_
        rintro e wl2 ⟨rfl, rfl⟩
        refine hK.out _ _ hs0 ?_
        clear hK
        (try simp only [Act.put, List.setIfInBounds_toArray, List.set_cons_zero, List.set_cons_succ])
        refine RT.stepK (i := 5) rfl (by kernel_rfl) (by decide) (by rfl) (fun wa hla hsa K hK => ?_)
        have hmA := hmL.below hla
        have hca := InRaw_any wa (eA a) (w.heap.size + 1) t e0 (t.size : Int) (by have := HPU.out.ts; omega) (by have := HPU.out.ts; omega) (HEV.out.below hmA.bl) HGL.out hmA.inn
        rw [Int.toNat_natCast] at hca
        go_simp
        refine hca.mono ?_
        rintro e w4 ⟨rfl, hi4, hg4⟩
        have hm4 := hmA.call hi4 hg4
        refine hK.out _ _ (hm4.p.cell 2 rfl) ?_
        have HM4 := Lib.hid hm4
        clear hK hca hi4 hg4 hmA hm4 hmL hcl
        (try simp only [Act.put, List.setIfInBounds_toArray, List.set_cons_zero, List.set_cons_succ])
        refine RT.stepK (i := 6) rfl (by kernel_rfl) (by decide) (by rfl) (fun wb hlb hsb K hK => ?_)
        have hmB := HM4.out.below hlb
        have hmB2 := hmB.below ((Below.refl _ _).alloc (Nat.le_refl _) (.cells #[(.string (rawR t e0 t.size))] 9))
        go_simp
        refine hK.out _ _ (hmB2.p.cell 2 rfl) ?_
        have HMB := Lib.hid hmB2
        clear hK hmB hmB2
        (try simp only [Act.put, List.setIfInBounds_toArray, List.set_cons_zero, List.set_cons_succ])
        refine RT.stepK (i := 7) rfl (by kernel_rfl) (by decide) (by rfl) (fun wc hlc hsc K hK => ?_)
        have hmC := HMB.out.below hlc
        refine RT.app1_op _ _ _ rfl Tryz.underlying36 infoStr rfl (by decide) hmC.s rfl (ys := [(.string (rawR t e0 t.size))]) rfl rfl ((Rd.one _ _ _).below hlc) (by simp [Value.oneCell']) (by have := HPU.out.ls; rw [List.length_map]; simp only [List.length_cons, List.length_nil]; omega) hmC.lt ?_
        intro v' w6 ho hg _
        have hm6 := hmC.appS (HPU.out.noN HX1.out (by decide)) (rawR t e0 t.size) ho hg
        obtain ⟨A', c', rfl, _, _⟩ := ho.form
        refine hK.out _ _ (hm6.p.cell 2 rfl) ?_
        have HM6 := Lib.hid hm6
        clear hK hmC hm6 ho hg
        (try simp only [Act.put, List.setIfInBounds_toArray, List.set_cons_zero, List.set_cons_succ])
        refine' RT.takeV (i := 8) (v := _) rfl (by kernel_rfl) (by kernel_rfl) (by kernel_rfl) (by decide) (fun _ _ _ h => h) (by rfl) ?h114x8 ?_
        case h114x8 => (intro W hSW; go_simp; try with_reducible rfl)
        (try simp only [Act.put, List.setIfInBounds_toArray, List.set_cons_zero, List.set_cons_succ])
        refine RT.tail (by kernel_rfl) rfl rfl ?_
        intro wd hld hsd
        have HMD := Lib.hid (HM6.out.below hld)
        refine store_slice rfl 36 _ _ rfl rfl rfl Tryz.underlying36 (by kernel_rfl) HMD.out.p rfl ?_
        intro V hV hgV
        have HN := Lib.hid (show ParRel w (w.heap.size + 1) P w.heap.size (eA a) n1 l D (k + 1) V from ⟨_, _, _, _, _, _, _, _, _, _, _, HPU.out.raw HX1.out t.size (.inr ⟨rfl, rfl⟩), HMD.out.store hV hgV⟩)
        clear hV hgV
        go_wp2_with fail
        go_roundw
        case rel =>
          first
            | exact ⟨k + 1, by omega, by go_num, HN.out⟩
            | ((repeat apply Exists.intro); refine ⟨?_, rfl⟩; exact ⟨k + 1, by omega, by go_num, HN.out⟩)
        case measure => simp [intOf]; omega
    · obtain rfl : k = q := by omega
      have HLQ2 := Lib.hid HLQ.out
      have hd0 : decide (k < ls.size) = false := by have := HLQ2.out; simp; omega
      have hnk : ¬ k < ls.size := by have := HLQ2.out; omega
      have HDD := Lib.hid (show D = (t, e0, ⟨n1, us, ss, nn, bs⟩) by have := HPU.out.c; rw [List.drop_of_length_le (by rw [HQ.out]; exact Nat.le_refl _)] at this; exact this.symm)
      have HEN := Lib.hid (InEnd_any wr (eA a) (w.heap.size + 1) t e0 (HEV.out.below HME.out.bl) HGL.out HME.out.inn)
      obtain ⟨c3, hc3⟩ : ∃ c3, endC t e0 = c3 := ⟨_, rfl⟩
      rw [hc3] at HEN
      have HP3 := Lib.hid (show parseC s = if c3 ≠ 0 then c3 else checkC ⟨n1, us, ss, nn, bs⟩ by rw [HP.out, HDD.out]; simp only; rw [hc3])
      clear hc3
      obtain ⟨hmsg, hfit⟩ := HME.out.msg HPU.out
      have HMSG := Lib.hid hmsg
      have HFIT := Lib.hid hfit
      obtain ⟨au, nu, cu, rfl, _⟩ := hmsg.u
      obtain ⟨aS, nS, cS, rfl, _⟩ := hmsg.s
      obtain ⟨vns, ⟨an, nn', cn, rfl, _⟩, _⟩ := hmsg.n
      obtain ⟨ab, nb, cb, rfl, _⟩ := hmsg.b
      clear hmsg hfit
      by_cases he : c3 = 0
      · subst he
        have HV3 := Lib.hid (evV_zero (eA a))
        have HCK := Lib.hid (show ∀ W, Below wr.heap.size wr W ∨ wr.grownBy W (some (w.heap.size + 1)) → IsMsg W ⟨n1, us, ss, nn, bs⟩ (.slice au nu cu) (.slice aS nS cS) (.slice an nn' cn) (.slice ab nb cb) → Below w.heap.size w W → Calls Tryz.prog 36 #[.agg (mC n1 (.slice au nu cu) (.slice aS nS cS) (.slice an nn' cn) (.slice ab nb cb))] W fun e w' => e = .returned (Ei.evA a (checkC ⟨n1, us, ss, nn, bs⟩)) ∧ Below W.heap.size W w' from fun W _ hm hW => Check_any W a (HE.out.below hW) (HT.out.below hW) ⟨n1, us, ss, nn, bs⟩ _ _ _ _ hm HFIT.out)
        obtain ⟨c4, hc4⟩ : ∃ c4, checkC ⟨n1, us, ss, nn, bs⟩ = c4 := ⟨_, rfl⟩
        rw [hc4] at HCK HP3
        have HP4 := Lib.hid (show parseC s = c4 by rw [HP3.out, if_neg (fun h => h rfl)])
        clear hc4
        have tok := True.intro
        by_cases hz4 : c4 = 0
        · subst hz4
          rw [Ei.evA_zero] at HCK
          go_wp2_with (first
            | (go_at_call 35; refine HEN.out.mono ?_; rintro e w7 ⟨rfl, h7, hg7⟩; rw [HV3.out]; have HM7 := Lib.hid (HME.out.call h7 hg7); have HG7 := Lib.hid hg7; clear h7 hg7)
            | (have _t := tok; refine wpList_load_row rfl 47 _ rfl P rfl _ _ _ _ HM7.out.p Tryz.underlying47 rfl (by kernel_rfl) ?_; clear _t tok)
            | (go_at_call 36; refine (HCK.out _ (.inr HG7.out) (HM7.out.msg HPU.out).1 HM7.out.bl).mono ?_; rintro e w8 ⟨rfl, hb8⟩; skip; have HM8 := Lib.hid (HM7.out.below hb8); have tok2 := True.intro; clear hb8)
            | (have _t := tok2; refine wpList_load_row rfl 47 _ rfl P rfl _ _ _ _ HM8.out.p Tryz.underlying47 rfl (by kernel_rfl) ?_; clear _t tok2)
            | (refine Cv.store_blk rfl 47 _ _ rfl w.heap.size (mC n1 (.slice au nu cu) (.slice aS nS cS) (.slice an nn' cn) (.slice ab nb cb)) #[.int .i64 0, .slice none 0 0, .slice none 0 0, .slice none 0 0, .slice none 0 0] 47 rfl rfl HM8.out.r (by kernel_rfl) rfl (by simp [mC, Value.oneCell']) ?_
               intro Z hZ hgZ
               have z0 := hZ.cell 0 (v := .int .i64 (n1 : Int)) rfl; have z1 := hZ.cell 1 (v := .slice au nu cu) rfl; have z2 := hZ.cell 2 (v := .slice aS nS cS) rfl; have z3 := hZ.cell 3 (v := .slice an nn' cn) rfl; have z4 := hZ.cell 4 (v := .slice ab nb cb) rfl
               have HGZ := Lib.hid hgZ
               clear hZ hgZ))
          refine bodyPost_ret (v := .tuple #[.agg #[.int .i64 (n1 : Int), .slice au nu cu, .slice aS nS cS, .slice an nn' cn, .slice ab nb cb], .nilIface]) (by simp [results, Tryz.results14, go_sem, z0, z1, z2, z3, z4]) rfl ?_
          have hpm := HPM.out HP4.out
          rw [HDD.out] at hpm
          simp only at hpm
          refine ⟨.slice au nu cu, .slice aS nS cS, .slice an nn' cn, .slice ab nb cb, ?_, ?_, ?_, ?_⟩
          · rw [hpm, HP4.out]; rfl
          · rw [hpm]; exact HM8.out.msgZ HPU.out HGZ.out
          · rw [hpm]; exact HFIT.out
          · exact HM8.out.bl.grown HGZ.out HM8.out.bl.size (fun k hk => by cases hk; exact Nat.le_refl _)
        · have HV4 := Lib.hid (show Ei.evA a c4 = .iface 162 (.pointer (some (a c4))) from if_neg hz4)
          rw [HV4.out] at HCK
          have HC4 := Lib.hid hz4
          clear hz4
          go_wp2_with (first
            | (go_at_call 35; refine HEN.out.mono ?_; rintro e w7 ⟨rfl, h7, hg7⟩; rw [HV3.out]; have HM7 := Lib.hid (HME.out.call h7 hg7); have HG7 := Lib.hid hg7; clear h7 hg7)
            | (have _t := tok; refine wpList_load_row rfl 47 _ rfl P rfl _ _ _ _ HM7.out.p Tryz.underlying47 rfl (by kernel_rfl) ?_; clear _t tok)
            | (go_at_call 36; refine (HCK.out _ (.inr HG7.out) (HM7.out.msg HPU.out).1 HM7.out.bl).mono ?_; rintro e w8 ⟨rfl, hb8⟩; skip; have HM8 := Lib.hid (HM7.out.below hb8); clear hb8)
            | (refine Cv.store_blk rfl 47 _ _ rfl w.heap.size #[.int .i64 0, .slice none 0 0, .slice none 0 0, .slice none 0 0, .slice none 0 0] #[.int .i64 0, .slice none 0 0, .slice none 0 0, .slice none 0 0, .slice none 0 0] 47 rfl rfl HM8.out.r (by kernel_rfl) rfl (by simp [Value.oneCell']) ?_; intro Z hZ hgZ; have z0 := hZ.cell 0 (v := .int .i64 0) rfl; have z1 := hZ.cell 1 (v := .slice none 0 0) rfl; have z2 := hZ.cell 2 (v := .slice none 0 0) rfl; have z3 := hZ.cell 3 (v := .slice none 0 0) rfl; have z4 := hZ.cell 4 (v := .slice none 0 0) rfl; have HGZ := Lib.hid hgZ; clear hZ hgZ))
          refine bodyPost_ret (v := .tuple #[.agg #[.int .i64 0, .slice none 0 0, .slice none 0 0, .slice none 0 0, .slice none 0 0], .iface 162 (.pointer (some (a c4)))]) (by simp [results, Tryz.results14, go_sem, z0, z1, z2, z3, z4]) rfl ?_
          exact ParPost.bad HP4.out HC4.out (HM8.out.bl.grown HGZ.out HM8.out.bl.size (fun k hk => by cases hk; exact Nat.le_refl _))
      · have HV3 := Lib.hid (show evV (eA a) c3 = .iface 162 (.pointer (some (a c3))) by unfold evV; rw [if_neg he]; rfl)
        have HP4 := Lib.hid (show parseC s = c3 by rw [HP3.out, if_pos he])
        have HC3 := Lib.hid he
        clear he
        go_wp2_with (first
          | (go_at_call 35; refine HEN.out.mono ?_; rintro e w7 ⟨rfl, h7, hg7⟩; rw [HV3.out]; have HM7 := Lib.hid (HME.out.call h7 hg7); clear h7 hg7)
          | (refine Cv.store_blk rfl 47 _ _ rfl w.heap.size #[.int .i64 0, .slice none 0 0, .slice none 0 0, .slice none 0 0, .slice none 0 0] #[.int .i64 0, .slice none 0 0, .slice none 0 0, .slice none 0 0, .slice none 0 0] 47 rfl rfl HM7.out.r (by kernel_rfl) rfl (by simp [Value.oneCell']) ?_; intro Z hZ hgZ; have z0 := hZ.cell 0 (v := .int .i64 0) rfl; have z1 := hZ.cell 1 (v := .slice none 0 0) rfl; have z2 := hZ.cell 2 (v := .slice none 0 0) rfl; have z3 := hZ.cell 3 (v := .slice none 0 0) rfl; have z4 := hZ.cell 4 (v := .slice none 0 0) rfl; have HGZ := Lib.hid hgZ; clear hZ hgZ))
        refine bodyPost_ret (v := .tuple #[.agg #[.int .i64 0, .slice none 0 0, .slice none 0 0, .slice none 0 0, .slice none 0 0], .iface 162 (.pointer (some (a c3)))]) (by simp [results, Tryz.results14, go_sem, z0, z1, z2, z3, z4]) rfl ?_
        exact ParPost.bad HP4.out HC3.out (HM7.out.bl.grown HGZ.out HM7.out.bl.size (fun k hk => by cases hk; exact Nat.le_refl _))
theorem Parse_any (w : World) (a : Nat → Addr) (hE : ErrsM w a) (hT : TabR w) (hM : ∃ m, w.cell? ⟨22, 0, none⟩ = some (.int .i64 m)) (s : ByteArray) (hs : s.size ≤ 1000000) :
    Calls Tryz.prog 14 #[.string s] w (ParPost a s w) := by
  by_cases h1 : rawC s 0 1 = 0
  · cases h2 : isK (kindOf s)
    · exact Parse_kind w a hE hT hM s hs h1 h2
    · exact Parse_on w a hE hT hM s hs h1 h2
  · exact Parse_empty w a hE hT hM s hs h1
end Go.Proofs.YtjfikbnfabdkoaaGreatDoor.Mg
