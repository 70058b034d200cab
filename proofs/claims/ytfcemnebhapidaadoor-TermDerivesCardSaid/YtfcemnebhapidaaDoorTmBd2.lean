/- slices.Reverse of two terms; build. -/
import Derived.Test.YtfcemnebhapidaaDoorTmBld
set_option linter.unusedVariables false
set_option linter.unusedSimpArgs false
namespace Go.Proofs.YtfcemnebhapidaaDoor.RL
open Go.RowKit
/-- two that may come up, whichever first -/
theorem step2 {P : Program} {md : Region.Mode} {ops : Array Oper} {Q : Exit → Act → World → Prop} {S : World → Prop} {i j : Nat} {oi oj : Oper} {fuel : Nat} {listed : Array Bool} {a : Act} {w : World} (hoi : ops.toList[i]? = some oi) (hoj : ops.toList[j]? = some oj) (hr : Region.ready md ops listed = [i, j]) (hwi : Region.wanted oi (yielded ops a.tmps) = true) (hwj : Region.wanted oj (yielded ops a.tmps) = true)
    (hi : ∀ w', Lat w w' → S w' → ∀ K : Act → World → Prop, Shut (∀ a' w'', S w'' → H P md ops Q S w'' fuel (listed.setIfInBounds i true) a' → K a' w'') → Oper.wp P oi a w' K Q)
    (hj : ∀ w', Lat w w' → S w' → ∀ K : Act → World → Prop, Shut (∀ a' w'', S w'' → H P md ops Q S w'' fuel (listed.setIfInBounds j true) a' → K a' w'') → Oper.wp P oj a w' K Q) : H P md ops Q S w (fuel + 1) listed a := by
  intro w' hl hS
  refine ⟨fun h0 => ?_, fun k hk => ?_⟩
  · rw [h0] at hr
    cases hr
  · rw [hr] at hk
    rcases List.mem_cons.1 hk with rfl | hk
    · exact wpOp_step (by simpa using hoi) fun K hK => by
        rw [if_pos hwi]
        exact hi w' hl hS K (fun a' w'' hs hh => hK a' w'' ⟨hs, hh⟩)
    · rw [List.mem_singleton.1 hk]
      exact wpOp_step (by simpa using hoj) fun K hK => by
        rw [if_pos hwj]
        exact hj w' hl hS K (fun a' w'' hs hh => hK a' w'' ⟨hs, hh⟩)
end Go.Proofs.YtfcemnebhapidaaDoor.RL
namespace Go.Proofs.YtfcemnebhapidaaDoor.Te
open Go.RowKit Go.Proofs.YtfcemnebhapidaaDoor.Ow
/-- only block g of Z may have turned -/
def Gb (Z : World) (g : Nat) (W : World) : Prop := Z.grownBy W (some g)
theorem Gb.refl (Z : World) (g : Nat) : Gb Z g Z := World.grownBy.refl Z _
theorem Gb.lat {Z W W' : World} {g : Nat} (h : Gb Z g W) (hb : Below W.heap.size W W') : Gb Z g W' :=
  ⟨hb.os.trans h.os, hb.tape.trans h.tape, hb.output.trans h.output, Nat.le_trans h.size hb.size, fun k hk hne => (hb.block k (Nat.lt_of_lt_of_le hk h.size)).trans (h.block k hk hne)⟩
theorem Gb.drew {Z W : World} {g : Nat} (h : Gb Z g W) : Gb Z g W.drew := h.lat (Below.drew (Below.refl _ _))
theorem Gb.trans {Z W W' : World} {g : Nat} (h : Gb Z g W) (hb : W.grownBy W' (some g)) : Gb Z g W' :=
  ⟨hb.os.trans h.os, hb.tape.trans h.tape, hb.output.trans h.output, Nat.le_trans h.size hb.size, fun k hk hne => (hb.block k (Nat.lt_of_lt_of_le hk h.size) hne).trans (h.block k hk hne)⟩
theorem Gb.set {Z W : World} {g : Nat} (h : Gb Z g W) (o : Nat) (vs : List Value) : Gb Z g (W.setCells g o vs) := h.trans (grown_setCells g vs o W)
theorem Gb.below {w Z W : World} {g : Nat} (h : Below w.heap.size w Z) (hu : Gb Z g W) (hg : w.heap.size ≤ g) : Below w.heap.size w W :=
  h.grown hu h.size (fun j hj => by cases hj; exact hg)
theorem rangeAt_below {w w' : World} {b o : Nat} {cs : List Value} (h : w.rangeAt b o cs) (hb : Below w.heap.size w w') : w'.rangeAt b o cs := fun j v hv => (hb.cell (World.block_lt_of_cell? w _ (h j v hv))).trans (h j v hv)
theorem there_below {w w' : World} {b o n : Nat} (h : w.there b o n) (hb : Below w.heap.size w w') : w'.there b o n := fun j hj => by
  obtain ⟨h1, h2⟩ := h j hj
  obtain ⟨u, hu⟩ := Option.isSome_iff_exists.1 h1
  have hl := World.block_lt_of_cell? w _ hu
  exact ⟨by rw [hb.cell hl]; exact h1, (hb.frozen hl).trans h2⟩
theorem own_range {w : World} {B g c n sz : Nat} {E : TypeId} {xs : List Value} (h : w.ownsRow B E sz (.slice (some ⟨g, 0, none⟩) n c) n xs) : w.rangeAt g 0 xs ∧ w.there g 0 xs.length := by
  rcases h.2 with ⟨hv, _⟩ | ⟨g', cap, cur, hv, _, hg, hc, _, hs, ht⟩
  · cases hv
  · injection hv with hv
    injection hv with hv
    injection hv with hv
    subst hv
    refine ⟨fun j v hv => ?_, fun j hj => ?_⟩
    · have := World.ownsRow.cells h (g := g) rfl j v hv
      rw [Addr.add_mid] at this; exact this
    · have := World.ownsRow.cells h (g := g) rfl j _ (List.getElem?_eq_getElem hj)
      rw [Addr.add_mid] at this
      exact ⟨by rw [this]; rfl, frozen_of_row w g _ _ _ hg⟩
theorem own_form {w : World} {B n sz : Nat} {E : TypeId} {v : Value} {xs : List Value} (h : w.ownsRow B E sz v n xs) (hn : 0 < n) : ∃ g c, v = .slice (some ⟨g, 0, none⟩) n c ∧ n ≤ c ∧ c ≤ maxLen ∧ B ≤ g ∧ g < w.heap.size := by
  rcases h.2 with ⟨_, hz⟩ | ⟨g, cap, cur, hv, hB, hg, hc, hm, _⟩
  · omega
  · exact ⟨g, cap, hv, hc, hm, hB, (Array.getElem?_eq_some_iff.1 hg).1⟩
theorem tcl_length (x : Tm × Value) : (tcl x).length = 3 := rfl
theorem tcl_one {x : Tm × Value} (h : x.2.oneCell' = true) : (tcl x).toArray.all (·.oneCell') = true := by
  unfold tcl
  simp [Value.oneCell']
  exact h
set_option maxRecDepth 20000 in
set_option maxHeartbeats 4000000 in
theorem Reverse_two (w : World) (g c : Nat) (a b : Tm) (pa pb : Value) (hr : w.rangeAt g 0 (tcl (a, pa) ++ tcl (b, pb))) (ht : w.there g 0 6) (ha : pa.oneCell' = true) (hb : pb.oneCell' = true) (hc : 2 ≤ c) (hcm : c ≤ maxLen) :
    Calls Tryd.prog 46 #[.slice (some ⟨g, 0, none⟩) 2 c] w fun e w' => (∃ v, e = .returned v) ∧ w'.rangeAt g 0 (tcl (b, pb) ++ tcl (a, pa)) ∧ w.grownBy w' (some g) := by
  have HR := Lib.hid hr
  have HT := Lib.hid ht
  have HO1 := Lib.hid (tcl_one (x := (b, pb)) hb)
  have HO2 := Lib.hid (tcl_one (x := (a, pa)) ha)
  clear hr ht ha hb
  go_enter Tryd.func46, Tryd.ntmps46
  go_wp2
  refine wp_loop_rounds 2 ?_
  rw [rounds_succ]
  go_upto_region 3 with fail
  refine RL.start (Gb w g) (by kernel_rfl) ((Gb.refl w g).drew) ?_
  refine' RL.takeV (i := 0) (v := _) rfl (by kernel_rfl) (by kernel_rfl) (by kernel_rfl) (fun _ _ _ h => h) (by rfl) ?hk1 ?_
  case hk1 => (intro W hSW; go_simp; try with_reducible rfl)
  (try simp only [Act.put, List.setIfInBounds_toArray, List.set_cons_zero, List.set_cons_succ])
  refine' RL.takeV (i := 1) (v := _) rfl (by kernel_rfl) (by kernel_rfl) (by kernel_rfl) (fun _ _ _ h => h) (by rfl) ?hk2 ?_
  case hk2 => (intro W hSW; go_simp; try with_reducible rfl)
  (try simp only [Act.put, List.setIfInBounds_toArray, List.set_cons_zero, List.set_cons_succ])
  refine' RL.takeV (i := 2) (v := _) rfl (by kernel_rfl) (by kernel_rfl) (by kernel_rfl) (fun _ _ _ h => h) (by rfl) ?hk3 ?_
  case hk3 => (intro W hSW; go_simp; try with_reducible rfl)
  (try simp only [Act.put, List.setIfInBounds_toArray, List.set_cons_zero, List.set_cons_succ])
  refine' RL.takeV (i := 3) (v := _) rfl (by kernel_rfl) (by kernel_rfl) (by kernel_rfl) (fun _ _ _ h => h) (by rfl) ?hk4 ?_
  case hk4 => (intro W hSW; go_simp; try with_reducible rfl)
  (try simp only [Act.put, List.setIfInBounds_toArray, List.set_cons_zero, List.set_cons_succ])
  refine' RL.takeV (i := 4) (v := _) rfl (by kernel_rfl) (by kernel_rfl) (by kernel_rfl) (fun _ _ _ h => h) (by rfl) ?hk5 ?_
  case hk5 => (intro W hSW; go_simp; try with_reducible rfl)
  (try simp only [Act.put, List.setIfInBounds_toArray, List.set_cons_zero, List.set_cons_succ])
  refine' RL.takeV (i := 5) (v := _) rfl (by kernel_rfl) (by kernel_rfl) (by kernel_rfl) (fun _ _ _ h => h) (by rfl) ?hk6 ?_
  case hk6 => (intro W hSW; go_simp; try with_reducible rfl)
  (try simp only [Act.put, List.setIfInBounds_toArray, List.set_cons_zero, List.set_cons_succ])
  refine' RL.takeV (i := 6) (v := _) rfl (by kernel_rfl) (by kernel_rfl) (by kernel_rfl) (fun _ _ _ h => h) (by rfl) ?hk7 ?_
  case hk7 => (intro W hSW; go_simp; try with_reducible rfl)
  (try simp only [Act.put, List.setIfInBounds_toArray, List.set_cons_zero, List.set_cons_succ])
  refine' RL.takeV (i := 8) (v := _) rfl (by kernel_rfl) (by kernel_rfl) (by kernel_rfl) (fun _ _ _ h => h) (by rfl) ?hk8 ?_
  case hk8 => (intro W hSW; go_simp; try with_reducible rfl)
  (try simp only [Act.put, List.setIfInBounds_toArray, List.set_cons_zero, List.set_cons_succ])
  refine' RL.takeV (i := 9) (v := _) rfl (by kernel_rfl) (by kernel_rfl) (by kernel_rfl) (fun _ _ _ h => h) (by rfl) ?hk9 ?_
  case hk9 => (intro W hSW; go_simp; try with_reducible rfl)
  (try simp only [Act.put, List.setIfInBounds_toArray, List.set_cons_zero, List.set_cons_succ])
  refine' RL.takeV (i := 10) (v := _) rfl (by kernel_rfl) (by kernel_rfl) (by kernel_rfl) (fun _ _ _ h => h) (by rfl) ?hk10 ?_
  case hk10 => (intro W hSW; go_simp; try with_reducible rfl)
  (try simp only [Act.put, List.setIfInBounds_toArray, List.set_cons_zero, List.set_cons_succ])
  refine RL.step2 (i := 7) (j := 11) rfl rfl (by kernel_rfl) (by rfl) (by rfl) (fun wa hlwa hswa K hK => ?_) (fun wa hlwa hswa K hK => ?_)
  · have HR1 := Lib.hid (rangeAt_below HR.out (show Below _ _ _ from ((Below.drew (Below.refl _ _)).trans hlwa)))
    refine wp_load_mid 31 _ rfl g 3 rfl (tcl (b, pb)) _ (show wa.rangeAt g 3 (tcl (b, pb)) from (rangeAt_append.1 HR1.out).2) Tryd.underlying31 rfl (by kernel_rfl) ?_
    refine hK.out _ _ hswa ?_
    clear hK
    (try simp only [Act.put, List.setIfInBounds_toArray, List.set_cons_zero, List.set_cons_succ])
    have HTa := Lib.hid (there_below HT.out (show Below _ _ _ from (Below.drew (Below.refl _ _)).trans hlwa))
    have HT2 := HTa
    refine RL.stepK (i := 11) rfl (by kernel_rfl) (by rfl) (fun wb hlwb hswb K hK => ?_)
    have HR2 := Lib.hid (rangeAt_below HR1.out (show Below _ _ _ from hlwb))
    refine wp_load_mid 31 _ rfl g 0 rfl (tcl (a, pa)) _ (rangeAt_append.1 HR2.out).1 Tryd.underlying31 rfl (by kernel_rfl) ?_
    refine hK.out _ _ hswb ?_
    clear hK
    (try simp only [Act.put, List.setIfInBounds_toArray, List.set_cons_zero, List.set_cons_succ])
    refine' RL.takeV (i := 12) (v := _) rfl (by kernel_rfl) (by kernel_rfl) (by kernel_rfl) (fun _ _ _ h => h) (by rfl) ?hk11 ?_
    case hk11 => (intro W hSW; go_simp; try with_reducible rfl)
    (try simp only [Act.put, List.setIfInBounds_toArray, List.set_cons_zero, List.set_cons_succ])
    refine RL.stepK (i := 13) rfl (by kernel_rfl) (by rfl) (fun wc hlwc hswc K hK => ?_)
    have HR3 := Lib.hid (rangeAt_below HR2.out hlwc)
    have HT3 := Lib.hid (there_below (there_below HT2.out (show Below _ _ _ from hlwb)) hlwc)
    refine wp_store_mid 31 _ _ rfl g 0 (tcl (b, pb)).toArray rfl rfl (fun j hj => HT3.out j (by rw [List.size_toArray, tcl_length] at hj; omega)) (by kernel_rfl) HO1.out ?_
    refine hK.out _ _ (hswc.set _ _) ?_
    clear hK
    (try simp only [Act.put, List.setIfInBounds_toArray, List.set_cons_zero, List.set_cons_succ])
    refine' RL.takeV (i := 14) (v := _) rfl (by kernel_rfl) (by kernel_rfl) (by kernel_rfl) (fun _ _ _ h => h) (by rfl) ?hk12 ?_
    case hk12 => (intro W hSW; go_simp; try with_reducible rfl)
    (try simp only [Act.put, List.setIfInBounds_toArray, List.set_cons_zero, List.set_cons_succ])
    refine RL.stepK (i := 15) rfl (by kernel_rfl) (by rfl) (fun wd hlwd hswd K hK => ?_)
    have HT4 := Lib.hid (there_below (World.there_setCells HT3.out g 0 (tcl (b, pb))) hlwd)
    have HR4 := Lib.hid (rangeAt_below (World.rangeAt_setCells_same wc g 0 (tcl (b, pb)) (fun j hj => HT3.out j (by rw [tcl_length] at hj; omega))) hlwd)
    refine wp_store_mid 31 _ _ rfl g 3 (tcl (a, pa)).toArray rfl rfl (fun j hj => by rw [List.size_toArray, tcl_length] at hj; have := HT4.out (3 + j) (by omega); rw [Nat.zero_add] at this; exact this) (by kernel_rfl) HO2.out ?_
    refine hK.out _ _ (hswd.set _ _) ?_
    clear hK
    (try simp only [Act.put, List.setIfInBounds_toArray, List.set_cons_zero, List.set_cons_succ])
    refine RL.done (by kernel_rfl) (fun we hlwe hswe => ?_)
    have HF := Lib.hid (show we.rangeAt g 0 (tcl (b, pb) ++ tcl (a, pa)) from rangeAt_below (rangeAt_append.2 ⟨World.rangeAt_setCells_apart HR4.out g 3 (tcl (a, pa)) (.inr (.inl (by rw [tcl_length]; omega))), by rw [tcl_length]; exact World.rangeAt_setCells_same wd g 3 (tcl (a, pa)) (fun j hj => by rw [tcl_length] at hj; have := HT4.out (3 + j) (by omega); rw [Nat.zero_add] at this; exact this)⟩) hlwe)
    have HG := Lib.hid (show w.grownBy we (some g) from hswe)
    clear hlwe hswe
    go_wp2
    rw [rounds_succ]
    go_wp2
    refine bodyPost_end (results_none rfl _ _ _) rfl ?_
    exact ⟨⟨_, rfl⟩, HF.out, HG.out⟩
  · have HR1 := Lib.hid (rangeAt_below HR.out (show Below _ _ _ from ((Below.drew (Below.refl _ _)).trans hlwa)))
    refine wp_load_mid 31 _ rfl g 0 rfl (tcl (a, pa)) _ (rangeAt_append.1 HR1.out).1 Tryd.underlying31 rfl (by kernel_rfl) ?_
    refine hK.out _ _ hswa ?_
    clear hK
    (try simp only [Act.put, List.setIfInBounds_toArray, List.set_cons_zero, List.set_cons_succ])
    have HTa := Lib.hid (there_below HT.out (show Below _ _ _ from (Below.drew (Below.refl _ _)).trans hlwa))
    have HT2 := HTa
    refine RL.stepK (i := 7) rfl (by kernel_rfl) (by rfl) (fun wb hlwb hswb K hK => ?_)
    have HR2 := Lib.hid (rangeAt_below HR1.out (show Below _ _ _ from hlwb))
    refine wp_load_mid 31 _ rfl g 3 rfl (tcl (b, pb)) _ (show wb.rangeAt g 3 (tcl (b, pb)) from (rangeAt_append.1 HR2.out).2) Tryd.underlying31 rfl (by kernel_rfl) ?_
    refine hK.out _ _ hswb ?_
    clear hK
    (try simp only [Act.put, List.setIfInBounds_toArray, List.set_cons_zero, List.set_cons_succ])
    refine' RL.takeV (i := 12) (v := _) rfl (by kernel_rfl) (by kernel_rfl) (by kernel_rfl) (fun _ _ _ h => h) (by rfl) ?hk13 ?_
    case hk13 => (intro W hSW; go_simp; try with_reducible rfl)
    (try simp only [Act.put, List.setIfInBounds_toArray, List.set_cons_zero, List.set_cons_succ])
    refine RL.stepK (i := 13) rfl (by kernel_rfl) (by rfl) (fun wc hlwc hswc K hK => ?_)
    have HR3 := Lib.hid (rangeAt_below HR2.out hlwc)
    have HT3 := Lib.hid (there_below (there_below HT2.out (show Below _ _ _ from hlwb)) hlwc)
    refine wp_store_mid 31 _ _ rfl g 0 (tcl (b, pb)).toArray rfl rfl (fun j hj => HT3.out j (by rw [List.size_toArray, tcl_length] at hj; omega)) (by kernel_rfl) HO1.out ?_
    refine hK.out _ _ (hswc.set _ _) ?_
    clear hK
    (try simp only [Act.put, List.setIfInBounds_toArray, List.set_cons_zero, List.set_cons_succ])
    refine' RL.takeV (i := 14) (v := _) rfl (by kernel_rfl) (by kernel_rfl) (by kernel_rfl) (fun _ _ _ h => h) (by rfl) ?hk14 ?_
    case hk14 => (intro W hSW; go_simp; try with_reducible rfl)
    (try simp only [Act.put, List.setIfInBounds_toArray, List.set_cons_zero, List.set_cons_succ])
    refine RL.stepK (i := 15) rfl (by kernel_rfl) (by rfl) (fun wd hlwd hswd K hK => ?_)
    have HT4 := Lib.hid (there_below (World.there_setCells HT3.out g 0 (tcl (b, pb))) hlwd)
    have HR4 := Lib.hid (rangeAt_below (World.rangeAt_setCells_same wc g 0 (tcl (b, pb)) (fun j hj => HT3.out j (by rw [tcl_length] at hj; omega))) hlwd)
    refine wp_store_mid 31 _ _ rfl g 3 (tcl (a, pa)).toArray rfl rfl (fun j hj => by rw [List.size_toArray, tcl_length] at hj; have := HT4.out (3 + j) (by omega); rw [Nat.zero_add] at this; exact this) (by kernel_rfl) HO2.out ?_
    refine hK.out _ _ (hswd.set _ _) ?_
    clear hK
    (try simp only [Act.put, List.setIfInBounds_toArray, List.set_cons_zero, List.set_cons_succ])
    refine RL.done (by kernel_rfl) (fun we hlwe hswe => ?_)
    have HF := Lib.hid (show we.rangeAt g 0 (tcl (b, pb) ++ tcl (a, pa)) from rangeAt_below (rangeAt_append.2 ⟨World.rangeAt_setCells_apart HR4.out g 3 (tcl (a, pa)) (.inr (.inl (by rw [tcl_length]; omega))), by rw [tcl_length]; exact World.rangeAt_setCells_same wd g 3 (tcl (a, pa)) (fun j hj => by rw [tcl_length] at hj; have := HT4.out (3 + j) (by omega); rw [Nat.zero_add] at this; exact this)⟩) hlwe)
    have HG := Lib.hid (show w.grownBy we (some g) from hswe)
    clear hlwe hswe
    go_wp2
    rw [rounds_succ]
    go_wp2
    refine bodyPost_end (results_none rfl _ _ _) rfl ?_
    exact ⟨⟨_, rfl⟩, HF.out, HG.out⟩
end Go.Proofs.YtfcemnebhapidaaDoor.Te
