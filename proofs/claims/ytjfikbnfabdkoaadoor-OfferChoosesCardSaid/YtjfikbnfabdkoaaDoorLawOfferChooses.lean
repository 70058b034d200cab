/- The law OfferChooses: the walk. -/
import Derived.Test.YtjfikbnfabdkoaaDoorOff6
set_option linter.unusedVariables false
set_option linter.unusedSimpArgs false
namespace Go.Proofs.YtjfikbnfabdkoaaDoor.Of
open Go.RowKit Go.Proofs.YtjfikbnfabdkoaaDoor.Wi Go.Proofs.YtjfikbnfabdkoaaDoor.Ow Go.Proofs.YtjfikbnfabdkoaaDoor.Be Go.Proofs.YtjfikbnfabdkoaaDoor.Mg Go.Proofs.YtjfikbnfabdkoaaDoor.Sp
set_option maxRecDepth 20000 in
set_option maxHeartbeats 4000000 in
theorem chooses_a (w : World) (A : Option Addr) (c : Nat) (xs : List ByteArray) (hR : Rd w A (xs.map Value.string)) (hc : xs.length ≤ c) (hm : c ≤ maxLen) (A2 : Option Addr) (c2 : Nat) (ys : List ByteArray) (hR2 : Rd w A2 (ys.map Value.string)) (hc2 : ys.length ≤ c2) (hm2 : c2 ≤ maxLen) (a : Nat → Addr) (hE : Ei.ErrsAll w a) (hT : TabR w) (r : Option ByteArray) (hr : chooseL (xs.take 12) (ys.take 12) = r) (hrs : r.isSome = true) :
    Calls Tryd.prog 4 #[.slice A xs.length c, .slice A2 ys.length c2] w fun e w' => e = .returned (.bool true) ∧ Below w.heap.size w w' := by
  have HAW := Lib.hid (awake13 w a hE hT)
  have HE := Lib.hid hE
  obtain ⟨n, hn⟩ : ∃ n, xs.length = n := ⟨_, rfl⟩
  obtain ⟨n2, hn2⟩ : ∃ n2, ys.length = n2 := ⟨_, rfl⟩
  obtain ⟨q, hq⟩ : ∃ q, min n 12 = q := ⟨_, rfl⟩
  obtain ⟨q2, hq2⟩ : ∃ q2, min n2 12 = q2 := ⟨_, rfl⟩
  obtain ⟨cl, hcl⟩ : ∃ cl, xs.take 12 = cl := ⟨_, rfl⟩
  obtain ⟨sl, hsl⟩ : ∃ sl, ys.take 12 = sl := ⟨_, rfl⟩
  have hll : cl.length = q := by rw [← hcl, List.length_take, hn, ← hq]; omega
  have hsl2 : sl.length = q2 := by rw [← hsl, List.length_take, hn2, ← hq2]; omega
  have mN : min (n : Int) 12 = (q : Int) := by omega
  have mN2 : min (n2 : Int) 12 = (q2 : Int) := by omega
  have HSL := Lib.hid (show SL w (.slice A q c) (cl.map Value.string) by
    refine ⟨A, q, c, rfl, by rw [List.length_map]; exact hll, fun j x hx => hR j x ?_, by omega, hm⟩
    rw [← hcl, List.map_take, List.getElem?_take] at hx
    split at hx
    · exact hx
    · cases hx)
  have HSL2 := Lib.hid (show SL w (.slice A2 q2 c2) (sl.map Value.string) by
    refine ⟨A2, q2, c2, rfl, by rw [List.length_map]; exact hsl2, fun j x hx => hR2 j x ?_, by omega, hm2⟩
    rw [← hsl, List.map_take, List.getElem?_take] at hx
    split at hx
    · exact hx
    · cases hx)
  rw [hcl, hsl] at hr
  have HLL := Lib.hid hll
  unfold maxLen at hm hm2
  have gn : n ≤ 9223372036854775807 := by omega
  have gn2 : n2 ≤ 9223372036854775807 := by omega
  have gq : q ≤ n := by omega
  have gq2 : q2 ≤ n2 := by omega
  have gc : q ≤ c := by omega
  have gc2 : q2 ≤ c2 := by omega
  have hq12 : q ≤ 12 := by omega
  rw [hn, hn2]
  have HRR := Lib.hid hr
  obtain ⟨x, rfl⟩ : ∃ x, r = .some x := Option.isSome_iff_exists.1 hrs
  have HX := Lib.hid (choose_some hr)
  have HCH := Lib.hid (show ∀ W, Below w.heap.size w W → Calls Tryd.prog 14 #[.slice A q c, .slice A2 q2 c2] W fun e w' => e = .returned (.tuple #[.string x, .nilIface]) ∧ Below W.heap.size W w' from fun W hW => by
    have := Choose_any W a ((HE.out.below hW).cell 12 (by decide)) _ _ _ _ (HSL.out.below hW) (HSL2.out.below hW)
    rw [hr] at this
    exact this)
  have HRH := Lib.hid (show ∀ W, Below w.heap.size w W → Calls Tryd.prog 15 #[.slice A q c, .slice A2 q2 c2] W fun e w' => e = .returned (.tuple #[.string x, .bool true]) ∧ W = w' from fun W hW => by
    have := RefChoose_any W _ _ _ _ (HSL.out.below hW) (HSL2.out.below hW)
    rw [hr] at this
    exact this)
  have HIN := Lib.hid (show ∀ W y, Below w.heap.size w W → Calls Tryd.prog 17 #[.slice A2 q2 c2, .string y] W fun e w' => e = .returned (.bool (Lib.containsS sl y)) ∧ W = w' from fun W y hW => in_any W _ sl y (HSL2.out.below hW))
  have HIC := Lib.hid (show ∀ W y, Below w.heap.size w W → Calls Tryd.prog 17 #[.slice A q c, .string y] W fun e w' => e = .returned (.bool (Lib.containsS cl y)) ∧ W = w' from fun W y hW => in_any W _ cl y (HSL.out.below hW))
  clear hE hT hR hR2 hc hc2 hm hm2 hn hn2 hcl hsl hll hsl2 hr hrs hq hq2
  go_enter Tryd.func4, Tryd.ntmps4
  go_upto_region 3 with (go_at_call 10; refine HAW.out.mono ?_; rintro e w1 ⟨rfl, hb1⟩; skip; have HW := Lib.hid hb1; clear hb1)
  refine RL.start (RL.Aft w1) (by kernel_rfl) (RL.Aft.drew (RL.Aft.refl w1)) ?_
  refine' RL.takeV (i := 0) (v := _) rfl (by kernel_rfl) (by kernel_rfl) (by kernel_rfl) (fun _ _ _ h => h) (by rfl) ?hk1 ?_
  case hk1 => (intro W hSW; go_simp; try with_reducible rfl)
  (try simp only [Act.put, List.setIfInBounds_toArray, List.set_cons_zero, List.set_cons_succ])
  refine' RL.takeV (i := 1) (v := _) rfl (by kernel_rfl) (by kernel_rfl) (by kernel_rfl) (fun _ _ _ h => h) (by rfl) ?hk2 ?_
  case hk2 => (intro W hSW; go_simp; try with_reducible rfl)
  (try simp only [Act.put, List.setIfInBounds_toArray, List.set_cons_zero, List.set_cons_succ])
  refine' RL.takeV (i := 2) (v := _) rfl (by kernel_rfl) (by kernel_rfl) (by kernel_rfl) (fun _ _ _ h => h) (by rfl) ?hk3 ?_
  case hk3 => (intro W hSW; go_simp; try with_reducible rfl)
  (try simp only [Act.put, List.setIfInBounds_toArray, List.set_cons_zero, List.set_cons_succ])
  refine' RL.takeV (i := 3) (v := _) rfl (by kernel_rfl) (by kernel_rfl) (by kernel_rfl) (fun _ _ _ h => h) (by rfl) ?hk4 ?_
  case hk4 => (intro W hSW; go_simp; try with_reducible rfl)
  (try simp only [Act.put, List.setIfInBounds_toArray, List.set_cons_zero, List.set_cons_succ])
  refine' RL.takeV (i := 4) (v := _) rfl (by kernel_rfl) (by kernel_rfl) (by kernel_rfl) (fun _ _ _ h => h) (by rfl) ?hk5 ?_
  case hk5 => (intro W hSW; go_simp; try with_reducible rfl)
  (try simp only [Act.put, List.setIfInBounds_toArray, List.set_cons_zero, List.set_cons_succ])
  refine' RL.takeV (i := 5) (v := _) rfl (by kernel_rfl) (by kernel_rfl) (by kernel_rfl) (fun _ _ _ h => h) (by rfl) ?hk6 ?_
  case hk6 => (intro W hSW; go_simp; try with_reducible rfl)
  (try simp only [Act.put, List.setIfInBounds_toArray, List.set_cons_zero, List.set_cons_succ])
  refine' RL.takeV (i := 6) (v := _) rfl (by kernel_rfl) (by kernel_rfl) (by kernel_rfl) (fun _ _ _ h => h) (by rfl) ?hk7 ?_
  case hk7 => (intro W hSW; go_simp; try with_reducible rfl)
  (try simp only [Act.put, List.setIfInBounds_toArray, List.set_cons_zero, List.set_cons_succ])
  refine' RL.takeV (i := 7) (v := _) rfl (by kernel_rfl) (by kernel_rfl) (by kernel_rfl) (fun _ _ _ h => h) (by rfl) ?hk8 ?_
  case hk8 => (intro W hSW; go_simp; try with_reducible rfl)
  (try simp only [Act.put, List.setIfInBounds_toArray, List.set_cons_zero, List.set_cons_succ])
  refine' RL.takeV (i := 8) (v := _) rfl (by kernel_rfl) (by kernel_rfl) (by kernel_rfl) (fun _ _ _ h => h) (by rfl) ?hk9 ?_
  case hk9 => (intro W hSW; go_simp; try with_reducible rfl)
  (try simp only [Act.put, List.setIfInBounds_toArray, List.set_cons_zero, List.set_cons_succ])
  refine' RL.takeV (i := 9) (v := _) rfl (by kernel_rfl) (by kernel_rfl) (by kernel_rfl) (fun _ _ _ h => h) (by rfl) ?hk10 ?_
  case hk10 => (intro W hSW; go_simp; try with_reducible rfl)
  (try simp only [Act.put, List.setIfInBounds_toArray, List.set_cons_zero, List.set_cons_succ])
  refine' RL.takeV (i := 10) (v := _) rfl (by kernel_rfl) (by kernel_rfl) (by kernel_rfl) (fun _ _ _ h => h) (by rfl) ?hk11 ?_
  case hk11 => (intro W hSW; go_simp; try with_reducible rfl)
  (try simp only [Act.put, List.setIfInBounds_toArray, List.set_cons_zero, List.set_cons_succ])
  refine' RL.takeV (i := 11) (v := _) rfl (by kernel_rfl) (by kernel_rfl) (by kernel_rfl) (fun _ _ _ h => h) (by rfl) ?hk12 ?_
  case hk12 => (intro W hSW; go_simp; try with_reducible rfl)
  (try simp only [Act.put, List.setIfInBounds_toArray, List.set_cons_zero, List.set_cons_succ])
  refine RL.done (by kernel_rfl) (fun wd hlwd hswd => ?_)
  have HWx := Lib.hid (HW.out.trans (Below.mono hswd HW.out.size)); clear HW; have HW := HWx; clear HWx
  clear hlwd hswd mN mN2 gn gn2 gq gq2 gc gc2
  go_wp2_with (first
    | (go_at_call 14; refine (HCH.out _ HW.out).mono ?_; rintro e w2 ⟨rfl, hb⟩; skip; have HWx := Lib.hid (HW.out.trans (hb.mono HW.out.size)); clear HW; have HW := HWx; clear HWx; clear hb)
    | (go_at_call 15; refine (HRH.out _ HW.out).mono ?_; rintro e w3 ⟨rfl, rfl⟩; skip))
  go_loop [55] (fun i => ∃ k : Nat, k ≤ q ∧ i = .int .i64 k ∧ Unlike cl x k) (fun i => 13 - (intOf i).toNat)
  case atStart => exact ⟨0, Nat.zero_le _, rfl, Unlike.zero _ _⟩
  case round =>
    obtain ⟨k, hk, rfl, hun⟩ := hrel
    have HU := Lib.hid hun
    clear hun
    by_cases hkn : k < q
    · have hki : (k : Int) < q := by omega
      have hkl : k < cl.length := by have := HLL.out; omega
      have hdk : decide (k < q) = true := by simp; exact hkn
      obtain ⟨y, hy⟩ : ∃ y, cl[k]? = .some y := ⟨_, List.getElem?_eq_getElem hkl⟩
      obtain ⟨A9, n9, c9, e9, _, hR9, _⟩ := HSL.out.below HW.out
      cases e9
      obtain ⟨b, o, rfl, hlt, c0⟩ := hR9 k (.string y) (by rw [List.getElem?_map, hy]; rfl)
      have HY := Lib.hid hy
      clear hy hR9 hlt
      have hcs := cS_true HX.out.1
      have hcc := cS_true HX.out.2
      by_cases hxy : y = x
      · subst hxy
        have tok := True.intro
        go_wp2_with (first | (have _t := tok; go_at_call 17; refine (HIN.out _ _ HW.out).mono ?_; rintro e w6 ⟨rfl, rfl⟩; clear _t tok) | (go_at_call 17; refine (HIC.out _ _ HW.out).mono ?_; rintro e w7 ⟨rfl, rfl⟩; skip))
        go_ret
        exact ⟨by simp, HW.out⟩
      · have hs1 : (y.toList == x.toList) = false := str_ne hxy
        have hni := cS_false (choose_ahead HRR.out k y HY.out (fun j z hj hz => HU.out j z hj hz) hxy)
        have HN := Lib.hid (HU.out.succ HY.out hxy)
        go_wp2_with (first | (go_at_call 17; refine (HIN.out _ _ HW.out).mono ?_; rintro e w6 ⟨rfl, rfl⟩; skip))
        go_round
        case rel => exact ⟨k + 1, by omega, by go_num, HN.out⟩
        case measure => simp [intOf]; omega
    · obtain rfl : k = q := by omega
      have hdk : decide (k < k) = false := by simp
      have hcs := cS_true HX.out.1
      have hcc := cS_true HX.out.2
      have tok := True.intro
      go_wp2_with (first | (have _t := tok; go_at_call 17; refine (HIN.out _ _ HW.out).mono ?_; rintro e w6 ⟨rfl, rfl⟩; clear _t tok) | (go_at_call 17; refine (HIC.out _ _ HW.out).mono ?_; rintro e w7 ⟨rfl, rfl⟩; skip))
      go_ret
      exact ⟨by simp, HW.out⟩
set_option maxRecDepth 20000 in
set_option maxHeartbeats 4000000 in
theorem chooses_b (w : World) (A : Option Addr) (c : Nat) (xs : List ByteArray) (hR : Rd w A (xs.map Value.string)) (hc : xs.length ≤ c) (hm : c ≤ maxLen) (A2 : Option Addr) (c2 : Nat) (ys : List ByteArray) (hR2 : Rd w A2 (ys.map Value.string)) (hc2 : ys.length ≤ c2) (hm2 : c2 ≤ maxLen) (a : Nat → Addr) (hE : Ei.ErrsAll w a) (hT : TabR w) (r : Option ByteArray) (hr : chooseL (xs.take 12) (ys.take 12) = r) (hrs : r.isSome = false) :
    Calls Tryd.prog 4 #[.slice A xs.length c, .slice A2 ys.length c2] w fun e w' => e = .returned (.bool true) ∧ Below w.heap.size w w' := by
  have HAW := Lib.hid (awake13 w a hE hT)
  have HE := Lib.hid hE
  obtain ⟨n, hn⟩ : ∃ n, xs.length = n := ⟨_, rfl⟩
  obtain ⟨n2, hn2⟩ : ∃ n2, ys.length = n2 := ⟨_, rfl⟩
  obtain ⟨q, hq⟩ : ∃ q, min n 12 = q := ⟨_, rfl⟩
  obtain ⟨q2, hq2⟩ : ∃ q2, min n2 12 = q2 := ⟨_, rfl⟩
  obtain ⟨cl, hcl⟩ : ∃ cl, xs.take 12 = cl := ⟨_, rfl⟩
  obtain ⟨sl, hsl⟩ : ∃ sl, ys.take 12 = sl := ⟨_, rfl⟩
  have hll : cl.length = q := by rw [← hcl, List.length_take, hn, ← hq]; omega
  have hsl2 : sl.length = q2 := by rw [← hsl, List.length_take, hn2, ← hq2]; omega
  have mN : min (n : Int) 12 = (q : Int) := by omega
  have mN2 : min (n2 : Int) 12 = (q2 : Int) := by omega
  have HSL := Lib.hid (show SL w (.slice A q c) (cl.map Value.string) by
    refine ⟨A, q, c, rfl, by rw [List.length_map]; exact hll, fun j x hx => hR j x ?_, by omega, hm⟩
    rw [← hcl, List.map_take, List.getElem?_take] at hx
    split at hx
    · exact hx
    · cases hx)
  have HSL2 := Lib.hid (show SL w (.slice A2 q2 c2) (sl.map Value.string) by
    refine ⟨A2, q2, c2, rfl, by rw [List.length_map]; exact hsl2, fun j x hx => hR2 j x ?_, by omega, hm2⟩
    rw [← hsl, List.map_take, List.getElem?_take] at hx
    split at hx
    · exact hx
    · cases hx)
  rw [hcl, hsl] at hr
  have HLL := Lib.hid hll
  unfold maxLen at hm hm2
  have gn : n ≤ 9223372036854775807 := by omega
  have gn2 : n2 ≤ 9223372036854775807 := by omega
  have gq : q ≤ n := by omega
  have gq2 : q2 ≤ n2 := by omega
  have gc : q ≤ c := by omega
  have gc2 : q2 ≤ c2 := by omega
  have hq12 : q ≤ 12 := by omega
  rw [hn, hn2]
  have HRR := Lib.hid hr
  obtain rfl : r = none := by cases r with
    | none => rfl
    | some x => cases hrs
  have HCH := Lib.hid (show ∀ W, Below w.heap.size w W → Calls Tryd.prog 14 #[.slice A q c, .slice A2 q2 c2] W fun e w' => e = .returned (.tuple #[.string ⟨#[]⟩, .iface 189 (.pointer (some (a 13)))]) ∧ Below W.heap.size W w' from fun W hW => by
    have := Choose_any W a ((HE.out.below hW).cell 12 (by decide)) _ _ _ _ (HSL.out.below hW) (HSL2.out.below hW)
    rw [hr] at this
    exact this)
  have HRH := Lib.hid (show ∀ W, Below w.heap.size w W → Calls Tryd.prog 15 #[.slice A q c, .slice A2 q2 c2] W fun e w' => e = .returned (.tuple #[.string ⟨#[]⟩, .bool false]) ∧ W = w' from fun W hW => by
    have := RefChoose_any W _ _ _ _ (HSL.out.below hW) (HSL2.out.below hW)
    rw [hr] at this
    exact this)
  have HIN := Lib.hid (show ∀ W y, Below w.heap.size w W → Calls Tryd.prog 17 #[.slice A2 q2 c2, .string y] W fun e w' => e = .returned (.bool (Lib.containsS sl y)) ∧ W = w' from fun W y hW => in_any W _ sl y (HSL2.out.below hW))
  have HIC := Lib.hid (show ∀ W y, Below w.heap.size w W → Calls Tryd.prog 17 #[.slice A q c, .string y] W fun e w' => e = .returned (.bool (Lib.containsS cl y)) ∧ W = w' from fun W y hW => in_any W _ cl y (HSL.out.below hW))
  have HCD := Lib.hid (show ∀ W : World, Below w.heap.size w W → Calls Tryd.prog 16 #[.iface 189 (.pointer (some (a 13)))] W fun e w' => e = .returned (.int .i64 13) ∧ W = w' from fun W hW => Ei.Code_any W a (HE.out.below hW) 13 (by decide))
  clear hE hT hR hR2 hc hc2 hm hm2 hn hn2 hcl hsl hll hsl2 hr hrs hq hq2
  go_enter Tryd.func4, Tryd.ntmps4
  go_upto_region 3 with (go_at_call 10; refine HAW.out.mono ?_; rintro e w1 ⟨rfl, hb1⟩; skip; have HW := Lib.hid hb1; clear hb1)
  refine RL.start (RL.Aft w1) (by kernel_rfl) (RL.Aft.drew (RL.Aft.refl w1)) ?_
  refine' RL.takeV (i := 0) (v := _) rfl (by kernel_rfl) (by kernel_rfl) (by kernel_rfl) (fun _ _ _ h => h) (by rfl) ?hk13 ?_
  case hk13 => (intro W hSW; go_simp; try with_reducible rfl)
  (try simp only [Act.put, List.setIfInBounds_toArray, List.set_cons_zero, List.set_cons_succ])
  refine' RL.takeV (i := 1) (v := _) rfl (by kernel_rfl) (by kernel_rfl) (by kernel_rfl) (fun _ _ _ h => h) (by rfl) ?hk14 ?_
  case hk14 => (intro W hSW; go_simp; try with_reducible rfl)
  (try simp only [Act.put, List.setIfInBounds_toArray, List.set_cons_zero, List.set_cons_succ])
  refine' RL.takeV (i := 2) (v := _) rfl (by kernel_rfl) (by kernel_rfl) (by kernel_rfl) (fun _ _ _ h => h) (by rfl) ?hk15 ?_
  case hk15 => (intro W hSW; go_simp; try with_reducible rfl)
  (try simp only [Act.put, List.setIfInBounds_toArray, List.set_cons_zero, List.set_cons_succ])
  refine' RL.takeV (i := 3) (v := _) rfl (by kernel_rfl) (by kernel_rfl) (by kernel_rfl) (fun _ _ _ h => h) (by rfl) ?hk16 ?_
  case hk16 => (intro W hSW; go_simp; try with_reducible rfl)
  (try simp only [Act.put, List.setIfInBounds_toArray, List.set_cons_zero, List.set_cons_succ])
  refine' RL.takeV (i := 4) (v := _) rfl (by kernel_rfl) (by kernel_rfl) (by kernel_rfl) (fun _ _ _ h => h) (by rfl) ?hk17 ?_
  case hk17 => (intro W hSW; go_simp; try with_reducible rfl)
  (try simp only [Act.put, List.setIfInBounds_toArray, List.set_cons_zero, List.set_cons_succ])
  refine' RL.takeV (i := 5) (v := _) rfl (by kernel_rfl) (by kernel_rfl) (by kernel_rfl) (fun _ _ _ h => h) (by rfl) ?hk18 ?_
  case hk18 => (intro W hSW; go_simp; try with_reducible rfl)
  (try simp only [Act.put, List.setIfInBounds_toArray, List.set_cons_zero, List.set_cons_succ])
  refine' RL.takeV (i := 6) (v := _) rfl (by kernel_rfl) (by kernel_rfl) (by kernel_rfl) (fun _ _ _ h => h) (by rfl) ?hk19 ?_
  case hk19 => (intro W hSW; go_simp; try with_reducible rfl)
  (try simp only [Act.put, List.setIfInBounds_toArray, List.set_cons_zero, List.set_cons_succ])
  refine' RL.takeV (i := 7) (v := _) rfl (by kernel_rfl) (by kernel_rfl) (by kernel_rfl) (fun _ _ _ h => h) (by rfl) ?hk20 ?_
  case hk20 => (intro W hSW; go_simp; try with_reducible rfl)
  (try simp only [Act.put, List.setIfInBounds_toArray, List.set_cons_zero, List.set_cons_succ])
  refine' RL.takeV (i := 8) (v := _) rfl (by kernel_rfl) (by kernel_rfl) (by kernel_rfl) (fun _ _ _ h => h) (by rfl) ?hk21 ?_
  case hk21 => (intro W hSW; go_simp; try with_reducible rfl)
  (try simp only [Act.put, List.setIfInBounds_toArray, List.set_cons_zero, List.set_cons_succ])
  refine' RL.takeV (i := 9) (v := _) rfl (by kernel_rfl) (by kernel_rfl) (by kernel_rfl) (fun _ _ _ h => h) (by rfl) ?hk22 ?_
  case hk22 => (intro W hSW; go_simp; try with_reducible rfl)
  (try simp only [Act.put, List.setIfInBounds_toArray, List.set_cons_zero, List.set_cons_succ])
  refine' RL.takeV (i := 10) (v := _) rfl (by kernel_rfl) (by kernel_rfl) (by kernel_rfl) (fun _ _ _ h => h) (by rfl) ?hk23 ?_
  case hk23 => (intro W hSW; go_simp; try with_reducible rfl)
  (try simp only [Act.put, List.setIfInBounds_toArray, List.set_cons_zero, List.set_cons_succ])
  refine' RL.takeV (i := 11) (v := _) rfl (by kernel_rfl) (by kernel_rfl) (by kernel_rfl) (fun _ _ _ h => h) (by rfl) ?hk24 ?_
  case hk24 => (intro W hSW; go_simp; try with_reducible rfl)
  (try simp only [Act.put, List.setIfInBounds_toArray, List.set_cons_zero, List.set_cons_succ])
  refine RL.done (by kernel_rfl) (fun wd hlwd hswd => ?_)
  have HWx := Lib.hid (HW.out.trans (Below.mono hswd HW.out.size)); clear HW; have HW := HWx; clear HWx
  clear hlwd hswd mN mN2 gn gn2 gq gq2 gc gc2
  go_wp2_with (first
    | (go_at_call 14; refine (HCH.out _ HW.out).mono ?_; rintro e w2 ⟨rfl, hb⟩; skip; have HWx := Lib.hid (HW.out.trans (hb.mono HW.out.size)); clear HW; have HW := HWx; clear HWx; clear hb)
    | (go_at_call 15; refine (HRH.out _ HW.out).mono ?_; rintro e w3 ⟨rfl, rfl⟩; skip)
    | (go_at_call 16; refine (HCD.out _ HW.out).mono ?_; rintro e w4 ⟨rfl, rfl⟩; skip))
  go_loop [55] (fun i => ∃ k : Nat, k ≤ q ∧ i = .int .i64 k ∧ True) (fun i => 13 - (intOf i).toNat)
  case atStart => exact ⟨0, Nat.zero_le _, rfl, trivial⟩
  case round =>
    obtain ⟨k, hk, rfl, hun⟩ := hrel
    have HU := Lib.hid hun
    clear hun
    by_cases hkn : k < q
    · have hki : (k : Int) < q := by omega
      have hkl : k < cl.length := by have := HLL.out; omega
      have hdk : decide (k < q) = true := by simp; exact hkn
      obtain ⟨y, hy⟩ : ∃ y, cl[k]? = .some y := ⟨_, List.getElem?_eq_getElem hkl⟩
      obtain ⟨A9, n9, c9, e9, _, hR9, _⟩ := HSL.out.below HW.out
      cases e9
      obtain ⟨b, o, rfl, hlt, c0⟩ := hR9 k (.string y) (by rw [List.getElem?_map, hy]; rfl)
      have HY := Lib.hid hy
      clear hy hR9 hlt
      have hni := cS_false (show y ∉ sl from fun h => by
        have h2 := HRR.out
        unfold chooseL at h2
        rw [List.find?_eq_none] at h2
        exact h2 y (List.mem_of_getElem? HY.out) (cS_true h))
      by_cases hxy : y.toList = []
      · have hs0 : (y.toList == []) = true := by rw [hxy]; rfl
        have hs2 : y.toList.isEmpty = true := by rw [hxy]; rfl
        have tok := True.intro
        go_wp2_with (first | (have _t := tok; go_at_call 17; refine (HIN.out _ _ HW.out).mono ?_; rintro e w6 ⟨rfl, rfl⟩; clear _t tok) | (go_at_call 17; refine (HIC.out _ _ HW.out).mono ?_; rintro e w7 ⟨rfl, rfl⟩; skip))
        go_ret
        exact ⟨by simp, HW.out⟩
      · have hs1 : (y.toList == []) = false := by rw [beq_eq_false_iff_ne]; exact hxy
        have hs2 : y.toList.isEmpty = false := by cases hl : y.toList with | nil => exact absurd hl hxy | cons _ _ => rfl
        go_wp2_with (first | (go_at_call 17; refine (HIN.out _ _ HW.out).mono ?_; rintro e w6 ⟨rfl, rfl⟩; skip))
        go_round
        case rel => exact ⟨k + 1, by omega, by go_num, trivial⟩
        case measure => simp [intOf]; omega
    · obtain rfl : k = q := by omega
      have hdk : decide (k < k) = false := by simp
      have tok := True.intro
      go_wp2_with (first | (have _t := tok; go_at_call 17; refine (HIN.out _ _ HW.out).mono ?_; rintro e w6 ⟨rfl, rfl⟩; clear _t tok) | (go_at_call 17; refine (HIC.out _ _ HW.out).mono ?_; rintro e w7 ⟨rfl, rfl⟩; skip))
      go_ret
      exact ⟨by simp, HW.out⟩
theorem law_OfferChooses (w : World) (A : Option Addr) (c : Nat) (xs : List ByteArray) (hR : Rd w A (xs.map Value.string)) (hc : xs.length ≤ c) (hm : c ≤ maxLen) (A2 : Option Addr) (c2 : Nat) (ys : List ByteArray) (hR2 : Rd w A2 (ys.map Value.string)) (hc2 : ys.length ≤ c2) (hm2 : c2 ≤ maxLen) (a : Nat → Addr) (hE : Ei.ErrsAll w a) (hT : TabR w) :
    Calls Tryd.prog 4 #[.slice A xs.length c, .slice A2 ys.length c2] w fun e w' => e = .returned (.bool true) ∧ Below w.heap.size w w' := by
  cases hrs : (chooseL (xs.take 12) (ys.take 12)).isSome with
  | true => exact chooses_a w A c xs hR hc hm A2 c2 ys hR2 hc2 hm2 a hE hT _ rfl hrs
  | false => exact chooses_b w A c xs hR hc hm A2 c2 ys hR2 hc2 hm2 a hE hT _ rfl hrs
end Go.Proofs.YtjfikbnfabdkoaaDoor.Of
