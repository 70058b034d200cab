/- The law MessageReads: the walk. -/
import Derived.Test.YtjfikbnfabdkoaaDoorMsgAwk
import Derived.Test.YtjfikbnfabdkoaaDoorMsgRefP
set_option linter.unusedVariables false
set_option linter.unusedSimpArgs false
namespace Go.Proofs.YtjfikbnfabdkoaaDoor.Mg
open Go.RowKit Go.Proofs.YtjfikbnfabdkoaaDoor.Wi Go.Proofs.YtjfikbnfabdkoaaDoor.Ow Go.Proofs.YtjfikbnfabdkoaaDoor.Be
theorem rawC_le20 (s : ByteArray) (c n : Nat) (h : c ≤ 20) : rawC s c n ≤ 20 := by unfold rawC; split; split; all_goals omega
theorem txtC_le20 (s : ByteArray) (c : Nat) (m : Int) (h : c ≤ 20) : txtC s c m ≤ 20 := by
  unfold txtC; split
  · decide
  · exact rawC_le20 _ _ _ (rawC_le20 _ _ _ h)
theorem namC_le20 (s : ByteArray) (c : Nat) (h : c ≤ 20) : namC s c ≤ 20 := by
  unfold namC; split
  · decide
  · exact txtC_le20 _ _ _ h
theorem dec_le20 : ∀ (l : List UInt8) (t : ByteArray) (e : Nat) (m : Msg), e ≤ 20 → (dec l t e m).2.1 ≤ 20
  | [], _, _, _, h => h
  | c :: l, t, e, m, h => by
    unfold dec
    repeat' split
    all_goals (apply dec_le20; first | exact rawC_le20 _ _ _ h | exact txtC_le20 _ _ _ h | exact namC_le20 _ _ h)
theorem checkC_le20 (m : Msg) : checkC m ≤ 20 := by
  unfold checkC
  repeat' split
  all_goals decide
theorem endC_le20 (s : ByteArray) (c : Nat) (h : c ≤ 20) : endC s c ≤ 20 := by unfold endC; split; decide; exact h
theorem parseC_le20 (t : ByteArray) : parseC t ≤ 20 := by
  unfold parseC
  split
  · exact rawC_le20 _ _ _ (by decide)
  · split
    · decide
    · split
      · exact endC_le20 _ _ (dec_le20 _ _ _ _ (by decide))
      · exact checkC_le20 _
set_option maxRecDepth 20000 in
set_option maxHeartbeats 4000000 in
theorem law_MessageReads (w : World) (s : ByteArray) (a : Nat → Addr) (hE : Ei.ErrsAll w a) (hT : TabR w) (hM : ∃ m, w.cell? ⟨22, 0, none⟩ = some (.int .i64 m)) :
    Calls Tryd.prog 8 #[.string s] w fun e w' => e = .returned (.bool true) ∧ Below w.heap.size w w' := by
  have HAW := Lib.hid (awake10 w a (ErrsM.of hE) hT hM)
  obtain ⟨t, ht⟩ : ∃ t, s.extract 0 600 = t := ⟨_, rfl⟩
  have hts : t.size ≤ 600 := by rw [← ht, ByteArray.size_extract]; omega
  have HCT := Lib.hid (show ∀ W : World, Calls Tryd.prog 33 #[.string s, .int .i64 600] W fun e w' => e = .returned (.string t) ∧ W = w' from fun W => ht ▸ Cut_any W s 600 (by decide))
  obtain ⟨m, hm⟩ : ∃ m, parseM t = m := ⟨_, rfl⟩
  obtain ⟨c, hc⟩ : ∃ c, parseC t = c := ⟨_, rfl⟩
  have hcl : c ≤ 20 := by rw [← hc]; exact parseC_le20 t
  have HPA := Lib.hid (show ∀ W, Below w.heap.size w W → Calls Tryd.prog 32 #[.string t] W fun e w' => ∃ vu vs vn vb, e = .returned (.tuple #[.agg #[.int .i64 m.kind, vu, vs, vn, vb], Ei.evA a c]) ∧ IsMsg w' m vu vs vn vb ∧ Below W.heap.size W w' from fun W hW => by
    refine (Parse_any W a ((ErrsM.of hE).below hW) (hT.below hW) (cell_later hM hW) t (by omega)).mono ?_
    rintro e w' ⟨vu, vs, vn, vb, h1, h2, _, h3⟩
    rw [hm] at h1 h2
    rw [hc] at h1
    exact ⟨vu, vs, vn, vb, h1, h2, h3⟩)
  have HRP := Lib.hid (show ∀ W, Calls Tryd.prog 34 #[.string t] W fun e w' => ∃ vu vs vn vb, e = .returned (.tuple #[.agg #[.int .i64 m.kind, vu, vs, vn, vb], .int .i64 (c : Int)]) ∧ IsMsg w' m vu vs vn vb ∧ Below W.heap.size W w' from fun W => by
    refine (RefParse_any W t (by omega)).mono ?_
    rintro e w' ⟨vu, vs, vn, vb, h1, h2, _, h3⟩
    rw [hm] at h1 h2
    rw [hc] at h1
    exact ⟨vu, vs, vn, vb, h1, h2, h3⟩)
  have HCD := Lib.hid (show ∀ W : World, Below w.heap.size w W → Calls Tryd.prog 16 #[Ei.evA a c] W fun e w' => e = .returned (.int .i64 (c : Int)) ∧ W = w' from fun W hW => Ei.Code_any W a (hE.below hW) c hcl)
  have HSM := Lib.hid (show ∀ W vu vs vn vb xu xs xn xb, IsMsg W m vu vs vn vb → IsMsg W m xu xs xn xb → Calls Tryd.prog 13 #[.agg #[.int .i64 m.kind, vu, vs, vn, vb], .agg #[.int .i64 m.kind, xu, xs, xn, xb]] W fun e w' => e = .returned (.bool true) ∧ Below W.heap.size W w' from fun W vu vs vn vb xu xs xn xb h1 h2 => Same_true W m vu vs vn vb xu xs xn xb h1 h2)
  obtain ⟨ev, hev⟩ : ∃ ev, Ei.evA a c = ev := ⟨_, rfl⟩
  rw [hev] at HPA HCD
  obtain ⟨kd, hkd⟩ : ∃ kd, m.kind = kd := ⟨_, rfl⟩
  rw [hkd] at HPA HRP HSM
  clear hE hT hM hm hc hcl hts ht hev hkd
  go_enter Tryd.func8, Tryd.ntmps8
  go_wp2_with (first
    | (go_at_call 18; refine HAW.out.mono ?_; rintro e w1 ⟨rfl, hb1⟩; skip; have HB1 := Lib.hid hb1; clear hb1)
    | (go_at_call 33; refine (HCT.out _).mono ?_; rintro e w2 ⟨rfl, rfl⟩; skip)
    | (go_at_call 32; refine (HPA.out _ HB1.out).mono ?_; rintro e w3 ⟨vu, vs, vn, vb, rfl, hm1, hb3⟩
       obtain ⟨au, nu, cu, rfl, _⟩ := hm1.u
       obtain ⟨aS, nS, cS, rfl, _⟩ := hm1.s
       obtain ⟨vns, ⟨an, nn, cn, rfl, _⟩, _⟩ := hm1.n
       obtain ⟨ab, nb, cb, rfl, _⟩ := hm1.b
       have HB3 := Lib.hid (HB1.out.trans (hb3.mono HB1.out.size))
       have HM3 := Lib.hid hm1
       have tok := True.intro
       clear hm1 hb3)
    | (have _t := tok; refine Rg.store_fresh rfl 32 _ _ rfl #[.int .i64 kd, .slice au nu cu, .slice aS nS cS, .slice an nn cn, .slice ab nb cb] _ 32 rfl rfl (by kernel_rfl) rfl (by simp [Value.oneCell']) ?_
       intro Y hY hbY
       have HN1 := Lib.hid hY
       have HMY := Lib.hid (HM3.out.below hbY)
       have HBY := Lib.hid (HB3.out.trans (hbY.mono HB3.out.size))
       clear hY hbY _t tok)
    | (go_at_call 34; refine (HRP.out _).mono ?_; rintro e w4 ⟨xu, xs, xn, xb, rfl, hx1, hb4⟩
       obtain ⟨du, mu, eu, rfl, _⟩ := hx1.u
       obtain ⟨dS, mS, eS, rfl, _⟩ := hx1.s
       obtain ⟨xns, ⟨dn, mn, en, rfl, _⟩, _⟩ := hx1.n
       obtain ⟨db, mb, eb, rfl, _⟩ := hx1.b
       have HB4 := Lib.hid (HBY.out.trans (hb4.mono HBY.out.size))
       have HX4 := Lib.hid hx1
       have HM4 := Lib.hid (HMY.out.below hb4)
       have HN4 := Lib.hid (HN1.out.below hb4 HN1.out.lt)
       have tok2 := True.intro
       clear hx1 hb4)
    | (have _t := tok2; refine Rg.store_fresh rfl 36 _ _ rfl #[.int .i64 kd, .slice du mu eu, .slice dS mS eS, .slice dn mn en, .slice db mb eb] _ 36 rfl rfl (by kernel_rfl) rfl (by simp [Value.oneCell']) ?_
       intro Z hZ hbZ
       have hn5 := HN4.out.below hbZ HN4.out.lt
       have n0 := hn5.cell 0 (v := .int .i64 kd) rfl
       have n1 := hn5.cell 1 (v := .slice au nu cu) rfl
       have n2 := hn5.cell 2 (v := .slice aS nS cS) rfl
       have n3 := hn5.cell 3 (v := .slice an nn cn) rfl
       have n4 := hn5.cell 4 (v := .slice ab nb cb) rfl
       have z0 := hZ.cell 0 (v := .int .i64 kd) rfl
       have z1 := hZ.cell 1 (v := .slice du mu eu) rfl
       have z2 := hZ.cell 2 (v := .slice dS mS eS) rfl
       have z3 := hZ.cell 3 (v := .slice dn mn en) rfl
       have z4 := hZ.cell 4 (v := .slice db mb eb) rfl
       have HMZ := Lib.hid (HM4.out.below hbZ)
       have HXZ := Lib.hid (HX4.out.below hbZ)
       have HBZ := Lib.hid (HB4.out.trans (hbZ.mono HB4.out.size))
       clear hZ hbZ hn5 _t tok2)
    | (go_at_call 16; refine (HCD.out _ HBZ.out).mono ?_; rintro e w5 ⟨rfl, rfl⟩; skip)
    | (go_at_call 13; refine (HSM.out _ _ _ _ _ _ _ _ _ HMZ.out HXZ.out).mono ?_; rintro e w6 ⟨rfl, hb6⟩; skip
       have HB6 := Lib.hid (HBZ.out.trans (hb6.mono HBZ.out.size))
       clear hb6))
  go_ret
  exact ⟨by simp, HB6.out⟩
end Go.Proofs.YtjfikbnfabdkoaaDoor.Mg
