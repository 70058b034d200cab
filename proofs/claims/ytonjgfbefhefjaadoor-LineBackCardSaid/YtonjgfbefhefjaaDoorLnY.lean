/- (Cmd).Line. -/
import Derived.Test.YtonjgfbefhefjaaDoorLnX
import Derived.Test.YtonjgfbefhefjaaDoorRegC
set_option linter.unusedVariables false
set_option linter.unusedSimpArgs false
namespace Go.Proofs.YtonjgfbefhefjaaDoor.RL
open Go.RowKit
/-- two that may come up, the second one a call -/
theorem step2C {P : Program} {md : Region.Mode} {ops : Array Oper} {Q : Exit → Act → World → Prop} {S : World → Prop} {i j : Nat} {oi oj : Oper} {fuel : Nat} {listed : Array Bool} {a : Act} {w : World} (F : FuncId) (args : Array Value) (hoi : ops.toList[i]? = some oi) (hoj : ops.toList[j]? = some oj) (hr : Region.ready md ops listed = [i, j]) (hwi : Region.wanted oi (yielded ops a.tmps) = true) (hwj : Region.wanted oj (yielded ops a.tmps) = true)
    (hv : ∀ W : World, (execOp a.eval oj).run P W = .ok (.enter F args) W)
    (hi : ∀ w', Lat w w' → S w' → ∀ K : Act → World → Prop, Shut (∀ a' w'', S w'' → H P md ops Q S w'' fuel (listed.setIfInBounds i true) a' → K a' w'') → Oper.wp P oi a w' K Q)
    (hj : ∀ w', Lat w w' → S w' → Calls P F args w' fun e w'' => ∃ v, e = .returned v ∧ S w'' ∧ H P md ops Q S w'' fuel (listed.setIfInBounds j true) (a.put oj.dst v)) : H P md ops Q S w (fuel + 1) listed a := by
  refine step2 hoi hoj hr hwi hwj hi (fun w' hl hS K hK => ?_)
  unfold Oper.wp
  rw [hv]
  refine Calls.mono (hj w' hl hS) ?_
  rintro e w'' ⟨v, rfl, hs, hh⟩
  exact hK _ _ hs hh
end Go.Proofs.YtonjgfbefhefjaaDoor.RL
namespace Go.Proofs.YtonjgfbefhefjaaDoor.Ln
open Go Go.RowKit Go.Proofs.YtonjgfbefhefjaaDoor.Ow
theorem Join_any (w : World) (B : Nat) (v : Value) (x : List UInt8) (l : List (List UInt8)) (hO : Owns w B 9 v ((x :: l).map encS)) (hl : (x :: l).length ≤ 1000000) (hj : (jn (x :: l)).length ≤ 1000000) :
    Calls Tryd.prog 29 #[v, .string ⟨#[32]⟩] w fun e w' => e = .returned (.string (strB (jn (x :: l)))) ∧ Below w.heap.size w w' := by
  obtain ⟨g, k, hv, _, hg, hc, _⟩ := owns_at hO (by simp)
  have hcap : ((x :: l).map encS).length ≤ k := by
    have h0 : w.ownsRow B 9 1 v ((x :: l).map encS).length ((x :: l).map encS) := hO
    rcases h0.2 with ⟨hv', _⟩ | ⟨g', cap, cur, hv', _, _, hc', _⟩
    · rw [hv'] at hv; cases hv
    · rw [hv'] at hv; injection hv with _ _ e3; rw [← e3]; exact hc'
  rw [List.length_map] at hv hcap
  subst hv
  have hxs : ((x :: l).map strB).map (·.data.toList) = x :: l := by rw [List.map_map]; exact List.map_id _
  have := Tryd.strings_Join g 0 k ((x :: l).map strB) ⟨#[32]⟩ w (fun j y hy => by
    rw [Nat.zero_add]
    rw [List.getElem?_map] at hy
    obtain ⟨z, hz, rfl⟩ := Option.map_eq_some_iff.1 hy
    exact (hc j (encS z) (by rw [List.getElem?_map, hz]; rfl)).1) hg (by rw [List.length_map]; omega) (by rw [List.length_map]; exact hcap) (by rw [hxs]; show (Lib.join (x :: l) [32]).length ≤ _; rw [jn_lib]; omega)
  rw [hxs, List.length_map] at this
  rw [show Lib.join (x :: l) (⟨#[32]⟩ : ByteArray).data.toList = jn (x :: l) from jn_lib x l] at this
  exact this
theorem line_ok {c : Cm} {sh : List UInt8} (h : shp c.word = some sh) (hn : ok sh c) : line c = jn (c.word :: wr sh c.names c.nums c.text) := by unfold line; rw [h]; simp only; rw [if_pos hn]
theorem line_bad {c : Cm} (h : chk c ≠ 0) : line c = [] := by
  unfold chk at h
  unfold line
  cases hs : shp c.word with
  | none => rfl
  | some sh =>
    rw [hs] at h
    simp only at h ⊢
    split at h
    · exact absurd rfl h
    · rename_i hn; rw [if_neg hn]
theorem chk_zero {c : Cm} (h : chk c = 0) : ∃ sh, shp c.word = some sh ∧ ok sh c := by
  unfold chk at h
  cases hs : shp c.word with
  | none => rw [hs] at h; cases h
  | some sh =>
    rw [hs] at h
    simp only at h
    split at h
    · rename_i hn; exact ⟨sh, rfl, hn⟩
    · cases h
set_option maxRecDepth 20000 in
set_option maxHeartbeats 4000000 in
theorem Line_bad (w : World) (a : Nat → Addr) (hX : Ctx w a) (c : Cm) (A1 A2 : Option Addr) (k1 k2 : Nat) (hV : CVal w c A1 k1 A2 k2) (hc : chk c ≠ 0) :
    Calls Tryd.prog 14 #[.agg #[.string (strB c.word), .slice A1 c.names.length k1, .slice A2 c.nums.length k2, .string (strB c.text)]] w fun e w' => e = .returned (.string (strB (line c))) ∧ Below w.heap.size w w' := by
  have HQ := Lib.hid (line_bad hc)
  have HX := Lib.hid hX
  have HV := Lib.hid hV
  have hea : Ei.evA a (chk c) = .iface 124 (.pointer (some (a (chk c)))) := Ei.evA_pos a hc
  have HC := Lib.hid (show ∀ W, Ctx W a → CVal W c A1 k1 A2 k2 → Calls Tryd.prog 13 #[.agg #[.string (strB c.word), .slice A1 c.names.length k1, .slice A2 c.nums.length k2, .string (strB c.text)]] W fun e w' => e = .returned (.iface 124 (.pointer (some (a (chk c))))) ∧ Below W.heap.size W w' from fun W h1 h2 => by
    have := Check_any W a h1 c A1 A2 k1 k2 h2
    rw [hea] at this; exact this)
  clear hX hV hea hc
  have HBX := Lib.hid (show Below w.heap.size w (w.alloc (.cells #[.string (strB c.word), .slice A1 c.names.length k1, .slice A2 c.nums.length k2, .string (strB c.text)] 27)) from (Below.refl _ _).alloc (Nat.le_refl _) _)
  go_enter Tryd.func14, Tryd.ntmps14
  go_wp2_with (go_at_call 13; refine (HC.out _ (HX.out.below HBX.out) (HV.out.below HBX.out)).mono ?_; rintro e w1 ⟨rfl, hb1⟩; skip; have HB1 := Lib.hid (HBX.out.trans (Below.mono hb1 HBX.out.size)); clear hb1)
  go_ret
  exact ⟨by rw [HQ.out]; rfl, HB1.out⟩
set_option maxRecDepth 20000 in
set_option maxHeartbeats 8000000 in
theorem Line_ok (w : World) (a : Nat → Addr) (hX : Ctx w a) (c : Cm) (A1 A2 : Option Addr) (k1 k2 : Nat) (hV : CVal w c A1 k1 A2 k2) (hc : chk c = 0) :
    Calls Tryd.prog 14 #[.agg #[.string (strB c.word), .slice A1 c.names.length k1, .slice A2 c.nums.length k2, .string (strB c.text)]] w fun e w' => e = .returned (.string (strB (line c))) ∧ Below w.heap.size w w' := by
  obtain ⟨sh, hsh, hok⟩ := chk_zero hc
  have HQ := Lib.hid (line_ok hsh hok)
  have HQL := Lib.hid (show (jn (c.word :: wr sh c.names c.nums c.text)).length ≤ 1000000 by rw [← line_ok hsh hok]; have := (back hc).2; omega)
  have HX := Lib.hid hX
  have HV := Lib.hid hV
  have HOK := Lib.hid hok
  have hshl : sh.length ≤ 100 := by
    have : ∀ r ∈ tab, r.2.length ≤ 100 := by decide +kernel
    exact this _ (shp_mem hsh)
  have HSL := Lib.hid hshl
  have HWL := Lib.hid (show (wr sh c.names c.nums c.text).length + 1 ≤ 200000 by
    have aux : ∀ (cs : List UInt8) (ns : List (List UInt8)) (ks : List Int) (t : List UInt8), (wr cs ns ks t).length ≤ cs.length + ns.length := by
      intro cs
      induction cs with
      | nil => intro ns ks t; simp [wr]
      | cons x cs ih =>
        intro ns ks t
        unfold wr
        have h1 := ih ns ks.tail t
        have h2 := ih ns ks t
        have h3 := ih ns.tail ks t
        have h4 : ns.tail.length ≤ ns.length := by rw [List.length_tail]; omega
        split
        · simp; omega
        · split
          · simp; omega
          · split
            · simp; omega
            · simp; omega
    have h1 := aux sh c.names c.nums c.text
    have h2 := hV.nb
    omega)
  have HSH := Lib.hid (show ∀ W : World, TabR W → Calls Tryd.prog 17 #[.string (strB c.word)] W fun e w' => e = .returned (.tuple #[.string (strB sh), .bool true]) ∧ Below W.heap.size W w' from fun W hT => by
    have := Shape_any (strB c.word) W hT
    rw [show shpV (strB c.word).data.toList = (sh, true) by rw [show (strB c.word).data.toList = c.word from rfl]; unfold shpV; rw [hsh]] at this
    exact this)
  have HC := Lib.hid (show ∀ W, Ctx W a → CVal W c A1 k1 A2 k2 → Calls Tryd.prog 13 #[.agg #[.string (strB c.word), .slice A1 c.names.length k1, .slice A2 c.nums.length k2, .string (strB c.text)]] W fun e w' => e = .returned .nilIface ∧ Below W.heap.size W w' from fun W h1 h2 => by
    have := Check_any W a h1 c A1 A2 k1 k2 h2
    rw [hc] at this; exact this)
  clear hX hV hc hsh hok hshl
  have HBX := Lib.hid (show Below w.heap.size w (w.alloc (.cells #[.string (strB c.word), .slice A1 c.names.length k1, .slice A2 c.nums.length k2, .string (strB c.text)] 27)) from (Below.refl _ _).alloc (Nat.le_refl _) _)
  have HKX := Lib.hid (Rg.Blk.new w #[.string (strB c.word), .slice A1 c.names.length k1, .slice A2 c.nums.length k2, .string (strB c.text)] 27)
  go_enter Tryd.func14, Tryd.ntmps14
  go_wp2_with (first
    | (go_at_call 13; refine (HC.out _ (HX.out.below HBX.out) (HV.out.below HBX.out)).mono ?_; rintro e w1 ⟨rfl, hb1⟩; skip; have HB1 := Lib.hid (HBX.out.trans (Below.mono hb1 HBX.out.size)); have HK1 := Lib.hid (HKX.out.below hb1 HKX.out.lt); have x0 := HK1.out.cell 0 (v := .string (strB c.word)) rfl; clear hb1)
    | (go_at_call 17; refine (HSH.out _ (HX.out.below HB1.out).tabR).mono ?_; rintro e X ⟨rfl, hb2⟩; skip; have HB2 := Lib.hid (HB1.out.trans (Below.mono hb2 HB1.out.size)); have HK2 := Lib.hid (HK1.out.below hb2 HK1.out.lt); clear hb2))
  clear x0
  have hwX := HK2.out.lt
  have x0 := HK2.out.cell 0 (v := .string (strB c.word)) rfl
  have HVX := Lib.hid (HV.out.below HB2.out)
  have HTX := Lib.hid ((HX.out.below HB2.out).tabP)
  have HNL := Lib.hid (show Owns X X.heap.size 9 (.slice none 0 0) [] from Owns.nil _ _ _)
  refine RL.start (fun W => RL.Aft X W) (by kernel_rfl) (RL.Aft.drew (RL.Aft.refl X)) ?_
  refine' RL.takeV (i := 0) (v := _) rfl (by kernel_rfl) (by kernel_rfl) (by kernel_rfl) (fun _ _ _ h => h) (by rfl) ?hk1 ?_
  case hk1 => (intro W hSW; go_simp; try with_reducible rfl)
  (try simp only [Act.put, List.setIfInBounds_toArray, List.set_cons_zero, List.set_cons_succ])
  refine' RL.takeV (i := 1) (v := _) rfl (by kernel_rfl) (by kernel_rfl) (by kernel_rfl) (fun _ _ _ h => h) (by rfl) ?hk2 ?_
  case hk2 => (intro W hSW; have c0 : W.cell? ⟨w.heap.size, 0, none⟩ = some (.string (strB c.word)) := (Below.cell (p := ⟨w.heap.size, 0, none⟩) hSW hwX).trans x0; go_simp; try with_reducible rfl)
  (try simp only [Act.put, List.setIfInBounds_toArray, List.set_cons_zero, List.set_cons_succ])
  refine RL.takeV (i := 3) (v := .agg #[.string (strB c.word), .slice A1 c.names.length k1, .slice A2 c.nums.length k2, .string (strB c.text)]) rfl (by kernel_rfl) (by kernel_rfl) (by kernel_rfl) (fun _ _ _ h => h) (by rfl) (fun W hSW => RT.run_row 27 _ rfl _ rfl _ _ (HK2.out.below hSW hwX) Tryd.underlying27 rfl (by kernel_rfl)) ?_
  (try simp only [Act.put, List.setIfInBounds_toArray, List.set_cons_zero, List.set_cons_succ])
  refine' RL.takeV (i := 4) (v := _) rfl (by kernel_rfl) (by kernel_rfl) (by kernel_rfl) (fun _ _ _ h => h) (by rfl) ?hk3 ?_
  case hk3 => (intro W hSW; go_simp; try with_reducible rfl)
  (try simp only [Act.put, List.setIfInBounds_toArray, List.set_cons_zero, List.set_cons_succ])
  refine RL.step2C (i := 2) (j := 5) 30 #[.agg #[.string (strB c.word), .slice A1 c.names.length k1, .slice A2 c.nums.length k2, .string (strB c.text)], .string (strB sh)] rfl rfl (by kernel_rfl) (by rfl) (by rfl) (fun W => by go_simp; try with_reducible rfl) (fun wa hlwa hswa K hK => ?_) (fun wa hlwa hswa => ?_)
  · go_simp
    refine hK.out _ _ (RL.Aft.alloc hswa _) ?_
    have HO16 := Lib.hid (Owns.new wa X.heap.size 9 [.string (strB c.word)] (Below.size hswa) (by show 1 ≤ maxLen; decide))
    clear hK
    (try simp only [Act.put, List.setIfInBounds_toArray, List.set_cons_zero, List.set_cons_succ])
    refine RL.stepCall (i := 5) 30 #[.agg #[.string (strB c.word), .slice A1 c.names.length k1, .slice A2 c.nums.length k2, .string (strB c.text)], .string (strB sh)] rfl (by kernel_rfl) (by rfl) (fun W => by go_simp; try with_reducible rfl) (fun wb hlwb hswb => ?_)
    have HO16b := Lib.hid (HO16.out.below hlwb)
    clear HO16
    refine (words_any wb c A1 A2 k1 k2 (HVX.out.below hswb) (HTX.out.below hswb) sh HSL.out HOK.out.1 (by rw [HOK.out.2.2.1]; exact Nat.le_refl _)).mono ?_
    rintro e wc ⟨v19, rfl, ho19, hbc⟩
    refine ⟨_, rfl, RL.Aft.lat hswb hbc, ?_⟩
    have HO16 := Lib.hid (HO16b.out.below hbc)
    have HO19 := Lib.hid ho19
    clear ho19 hbc HO16b
    (try simp only [Act.put, List.setIfInBounds_toArray, List.set_cons_zero, List.set_cons_succ])
    refine RL.stepK (i := 6) rfl (by kernel_rfl) (by rfl) (fun wd hlwd hswd K hK => ?_)
    have HO2 := HO16.out.below hlwd
    have HO3 := HO19.out.below hlwd
    obtain ⟨A9, k9, hv9, hR9, _⟩ := HO3.form
    refine RT.app1_op _ _ 24 rfl (E := 9) (z := .string ⟨#[]⟩) (by' := 16) rfl rfl rfl (by decide) HO2 rfl rfl hv9 hR9 (encS_one _) (by rw [List.length_map]; have := HWL.out; simp; omega) (Below.size hswd) ?_
    intro v20 we h1 h2 h3
    refine hK.out _ _ (show RL.Aft X we from Below.grown hswd h2 (Below.size hswd) (fun k e => (HO2.lt k e).1)) ?_
    have HO4 := Lib.hid (show Owns we X.heap.size 9 v20 ((c.word :: wr sh c.names c.nums c.text).map encS) from h1)
    have HS4 := Lib.hid (show RL.Aft X we from Below.grown hswd h2 (Below.size hswd) (fun k e => (HO2.lt k e).1))
    clear hK h1 h2 h3 HO2 HO3 hv9 hR9
    (try simp only [Act.put, List.setIfInBounds_toArray, List.set_cons_zero, List.set_cons_succ])
    refine RL.stepCall (i := 7) 29 #[v20, .string ⟨#[32]⟩] rfl (by kernel_rfl) (by rfl) (fun W => by go_simp; try with_reducible rfl) (fun wf hlwf hswf => ?_)
    refine (Join_any wf X.heap.size v20 c.word (wr sh c.names c.nums c.text) (HO4.out.below hlwf) (by have := HWL.out; simp; omega) HQL.out).mono ?_
    rintro e wg ⟨rfl, hbg⟩
    refine ⟨_, rfl, RL.Aft.lat hswf hbg, ?_⟩
    have HSG := Lib.hid (RL.Aft.lat hswf hbg)
    clear hbg
    (try simp only [Act.put, List.setIfInBounds_toArray, List.set_cons_zero, List.set_cons_succ])
    refine' RL.takeV (i := 8) (v := _) rfl (by kernel_rfl) (by kernel_rfl) (by kernel_rfl) (fun _ _ _ h => h) (by rfl) ?hk4 ?_
    case hk4 => (intro W hSW; go_simp; try with_reducible rfl)
    (try simp only [Act.put, List.setIfInBounds_toArray, List.set_cons_zero, List.set_cons_succ])
    refine RL.done (by kernel_rfl) (fun wz hlwz hswz => ?_)
    go_wp2_with fail
    go_ret
    exact ⟨by rw [HQ.out]; rfl, HB2.out.trans (Below.mono hswz HB2.out.size)⟩
  · refine (words_any wa c A1 A2 k1 k2 (HVX.out.below hswa) (HTX.out.below hswa) sh HSL.out HOK.out.1 (by rw [HOK.out.2.2.1]; exact Nat.le_refl _)).mono ?_
    rintro e wb ⟨v19, rfl, ho19, hbb⟩
    refine ⟨_, rfl, RL.Aft.lat hswa hbb, ?_⟩
    have HO19a := Lib.hid ho19
    clear ho19 hbb
    (try simp only [Act.put, List.setIfInBounds_toArray, List.set_cons_zero, List.set_cons_succ])
    refine RL.stepK (i := 2) rfl (by kernel_rfl) (by rfl) (fun wc hlwc hswc K hK => ?_)
    go_simp
    refine hK.out _ _ (RL.Aft.alloc hswc _) ?_
    have HO16 := Lib.hid (Owns.new wc X.heap.size 9 [.string (strB c.word)] (Below.size hswc) (by show 1 ≤ maxLen; decide))
    have HO19 := Lib.hid ((HO19a.out.below hlwc).alloc (.cells #[.string (strB c.word)] 9))
    clear hK HO19a
    (try simp only [Act.put, List.setIfInBounds_toArray, List.set_cons_zero, List.set_cons_succ])
    refine RL.stepK (i := 6) rfl (by kernel_rfl) (by rfl) (fun wd hlwd hswd K hK => ?_)
    have HO2 := HO16.out.below hlwd
    have HO3 := HO19.out.below hlwd
    obtain ⟨A9, k9, hv9, hR9, _⟩ := HO3.form
    refine RT.app1_op _ _ 24 rfl (E := 9) (z := .string ⟨#[]⟩) (by' := 16) rfl rfl rfl (by decide) HO2 rfl rfl hv9 hR9 (encS_one _) (by rw [List.length_map]; have := HWL.out; simp; omega) (Below.size hswd) ?_
    intro v20 we h1 h2 h3
    refine hK.out _ _ (show RL.Aft X we from Below.grown hswd h2 (Below.size hswd) (fun k e => (HO2.lt k e).1)) ?_
    have HO4 := Lib.hid (show Owns we X.heap.size 9 v20 ((c.word :: wr sh c.names c.nums c.text).map encS) from h1)
    have HS4 := Lib.hid (show RL.Aft X we from Below.grown hswd h2 (Below.size hswd) (fun k e => (HO2.lt k e).1))
    clear hK h1 h2 h3 HO2 HO3 hv9 hR9
    (try simp only [Act.put, List.setIfInBounds_toArray, List.set_cons_zero, List.set_cons_succ])
    refine RL.stepCall (i := 7) 29 #[v20, .string ⟨#[32]⟩] rfl (by kernel_rfl) (by rfl) (fun W => by go_simp; try with_reducible rfl) (fun wf hlwf hswf => ?_)
    refine (Join_any wf X.heap.size v20 c.word (wr sh c.names c.nums c.text) (HO4.out.below hlwf) (by have := HWL.out; simp; omega) HQL.out).mono ?_
    rintro e wg ⟨rfl, hbg⟩
    refine ⟨_, rfl, RL.Aft.lat hswf hbg, ?_⟩
    have HSG := Lib.hid (RL.Aft.lat hswf hbg)
    clear hbg
    (try simp only [Act.put, List.setIfInBounds_toArray, List.set_cons_zero, List.set_cons_succ])
    refine' RL.takeV (i := 8) (v := _) rfl (by kernel_rfl) (by kernel_rfl) (by kernel_rfl) (fun _ _ _ h => h) (by rfl) ?hk5 ?_
    case hk5 => (intro W hSW; go_simp; try with_reducible rfl)
    (try simp only [Act.put, List.setIfInBounds_toArray, List.set_cons_zero, List.set_cons_succ])
    refine RL.done (by kernel_rfl) (fun wz hlwz hswz => ?_)
    go_wp2_with fail
    go_ret
    exact ⟨by rw [HQ.out]; rfl, HB2.out.trans (Below.mono hswz HB2.out.size)⟩
theorem Line_any (w : World) (a : Nat → Addr) (hX : Ctx w a) (c : Cm) (A1 A2 : Option Addr) (k1 k2 : Nat) (hV : CVal w c A1 k1 A2 k2) :
    Calls Tryd.prog 14 #[.agg #[.string (strB c.word), .slice A1 c.names.length k1, .slice A2 c.nums.length k2, .string (strB c.text)]] w fun e w' => e = .returned (.string (strB (line c))) ∧ Below w.heap.size w w' := by
  by_cases h : chk c = 0
  · exact Line_ok w a hX c A1 A2 k1 k2 hV h
  · exact Line_bad w a hX c A1 A2 k1 k2 hV h
end Go.Proofs.YtonjgfbefhefjaaDoor.Ln
