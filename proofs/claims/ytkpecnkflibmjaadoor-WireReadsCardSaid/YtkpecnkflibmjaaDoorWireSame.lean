/- The laws' same: are two lists of texts the same? -/
import Derived.Test.YtkpecnkflibmjaaDoorWireDec
set_option linter.unusedVariables false
set_option linter.unusedSimpArgs false
namespace Go.Proofs.YtkpecnkflibmjaaDoor.Wi
open Go.RowKit Go.Proofs.YtkpecnkflibmjaaDoor.Ow Go.Proofs.YtkpecnkflibmjaaDoor.Be
set_option maxRecDepth 20000 in
set_option maxHeartbeats 2000000 in
theorem same_any (w : World) (A B : Option Addr) (c d : Nat) (xs ys : List ByteArray) (hA : Rd w A (xs.map Value.string)) (hB : Rd w B (ys.map Value.string)) (hx : xs.length ≤ 9223372036854775807) :
    Calls Tryd.prog 28 #[.slice A xs.length c, .slice B ys.length d] w fun e w' => e = .returned (.bool (decide (xs = ys))) ∧ Below w.heap.size w w' := by
  have HA := Lib.hid hA
  have HB := Lib.hid hB
  by_cases hl : xs.length = ys.length
  · obtain ⟨n, hn⟩ : ∃ n, xs.length = n := ⟨_, rfl⟩
    rw [← hl, hn]
    have hn2 : ys.length = n := by omega
    have HN := Lib.hid hn
    have HN2 := Lib.hid hn2
    rw [hn] at hx
    have hs : ((n : Int) != n) = false := by simp
    clear hA hB hl hn hn2
    go_enter Tryd.func28, Tryd.ntmps28
    go_wp2_with fail
    go_loopw [13] (fun i wr => ∃ k : Nat, k ≤ n ∧ i = .int .i64 k ∧ xs.take k = ys.take k ∧ Below w.heap.size w wr) (fun i _ => n - (intOf i).toNat)
    case atStart => exact ⟨0, Nat.zero_le _, rfl, rfl, Below.refl _ _⟩
    case round =>
      obtain ⟨k, hk, rfl, heq, hb⟩ := hrel
      have HEQ := Lib.hid heq
      have HW := Lib.hid hb
      have hsz := hb.size
      clear heq hb
      by_cases hkn : k < n
      · have hd : decide (k < n) = true := by simp; exact hkn
        have hik : (k : Int) < n := by omega
        obtain ⟨b1, o1, rfl, hb1, hc1⟩ := HA.out.at_ (j := k) (by rw [List.length_map, HN.out]; exact hkn)
        obtain ⟨b2, o2, rfl, hb2, hc2⟩ := HB.out.at_ (j := k) (by rw [List.length_map, HN2.out]; exact hkn)
        rw [List.getElem_map] at hc1 hc2
        have hx1 : xs[k]? = some (xs[k]'(by rw [HN.out]; exact hkn)) := List.getElem?_eq_getElem _
        have hx2 : ys[k]? = some (ys[k]'(by rw [HN2.out]; exact hkn)) := List.getElem?_eq_getElem _
        generalize xs[k]'(by rw [HN.out]; exact hkn) = x at *
        generalize ys[k]'(by rw [HN2.out]; exact hkn) = y at *
        have HX1 := Lib.hid hx1
        have HX2 := Lib.hid hx2
        have f1 := fun t : Rg.Later wr.heap.size wr => (t.cell b1 (o1 + k) (by omega)).trans ((HW.out.cell (p := ⟨b1, o1 + k, none⟩) hb1).trans hc1)
        have f2 := fun t : Rg.Later wr.heap.size wr => (t.cell b2 (o2 + k) (by omega)).trans ((HW.out.cell (p := ⟨b2, o2 + k, none⟩) hb2).trans hc2)
        have F1 := Lib.hid f1
        have F2 := Lib.hid f2
        clear hx1 hx2 hc1 hc2 f1 f2
        by_cases hxy : x = y
        · subst hxy
          have hne : (x.toList != x.toList) = false := by simp
          have HT := Lib.hid (show xs.take (k + 1) = ys.take (k + 1) by rw [List.take_add_one, List.take_add_one, HX1.out, HX2.out, HEQ.out])
          go_wp2_with fail
          have f1 := F1.out
          have f2 := F2.out
          refine Rg.wp_region_later_all wr.heap.size (by kernel_rfl) (by kernel_rfl) ?_
          repeat (go_big_quiet_step (fail))
          refine wpQuiet_nil ?_
          rintro _ ⟨t, rfl⟩
          clear f1 f2
          first | (go_wp2_with fail; go_roundw) | go_roundw
          case rel =>
            have hb' := HW.out.trans (t.is.mono hsz)
            first
              | exact ⟨k + 1, by omega, by go_num, HT.out, hb'⟩
              | ((repeat apply Exists.intro); refine ⟨?_, rfl⟩; exact ⟨k + 1, by omega, by go_num, HT.out, hb'⟩)
          case measure => simp [intOf]; omega
        · have hne : (x.toList != y.toList) = true := by
            rw [bne_iff_ne]; intro e; apply hxy
            rw [ByteArray.toList_eq, ByteArray.toList_eq] at e
            exact ext_list _ _ e
          have hne2 : (x.toList == y.toList) = false := by simpa using hne
          have HF := Lib.hid (show decide (xs = ys) = false by
            rw [decide_eq_false_iff_not]; rintro rfl
            have := HX1.out.symm.trans HX2.out
            exact hxy (Option.some.inj this))
          go_wp2_with fail
          have f1 := F1.out
          have f2 := F2.out
          refine Rg.wp_region_later_all wr.heap.size (by kernel_rfl) (by kernel_rfl) ?_
          repeat (go_big_quiet_step (fail))
          refine wpQuiet_nil ?_
          rintro _ ⟨t, rfl⟩
          clear f1 f2
          go_wp2_with fail
          go_ret
          exact ⟨congrArg (fun z => Ending.returned (Value.bool z)) HF.out.symm, HW.out.trans (t.is.mono hsz)⟩
      · obtain rfl : k = n := by omega
        have hd : decide (k < k) = false := by simp
        have HT := Lib.hid (show decide (xs = ys) = true by
          rw [decide_eq_true_eq]
          have := HEQ.out
          rwa [List.take_of_length_le (Nat.le_of_eq HN.out), List.take_of_length_le (Nat.le_of_eq HN2.out)] at this)
        go_wp2_with fail
        go_ret
        exact ⟨congrArg (fun z => Ending.returned (Value.bool z)) HT.out.symm, HW.out⟩
  · have hs : ((xs.length : Int) != ys.length) = true := by rw [bne_iff_ne]; omega
    have HF := Lib.hid (show decide (xs = ys) = false by rw [decide_eq_false_iff_not]; rintro rfl; exact hl rfl)
    clear hA hB
    go_enter Tryd.func28, Tryd.ntmps28
    go_wp2_with fail
    go_ret
    exact ⟨congrArg (fun z => Ending.returned (Value.bool z)) HF.out.symm, Below.refl _ _⟩
end Go.Proofs.YtkpecnkflibmjaaDoor.Wi
