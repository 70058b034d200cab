/- Line: the reference's digits and written names. -/
import Derived.Test.YtonjgfbefhefjaaDoorLnC
import Derived.IntWalk
import Derived.Lib.SmallJoins
set_option linter.unusedVariables false
set_option linter.unusedSimpArgs false
namespace Go.Proofs.YtonjgfbefhefjaaDoor.Ln
open Go Go.RowKit Go.Proofs.YtonjgfbefhefjaaDoor.Ow
theorem strB_append (a b : List UInt8) : strB a ++ strB b = strB (a ++ b) := by
  apply ByteArray.ext
  simp [strB, ByteArray.data_append]
theorem app_list (s t : ByteArray) : (s ++ t).data.toList = s.data.toList ++ t.data.toList := by rw [ByteArray.data_append, Array.toList_append]
theorem list_inj {s t : ByteArray} (h : s.data.toList = t.data.toList) : s = t := by
  apply ByteArray.ext
  exact Array.toList_inj.1 h
theorem okB_may {l : List UInt8} (h : l ≠ []) : okB l = (!(l == [45]) && mayB l) := by
  have hp := List.length_pos_iff.2 h
  unfold okB mayB
  rw [Bool.eq_iff_iff, decide_eq_true_iff]
  simp only [okN, Bool.and_eq_true, decide_eq_true_iff, Bool.not_eq_true', beq_eq_false_iff_ne]
  constructor
  · rintro ⟨h1, h2, h3⟩; exact ⟨h3, ⟨h1, by omega⟩, h2⟩
  · rintro ⟨h3, ⟨h1, _⟩, h2⟩; exact ⟨h1, h2, h3⟩
/-- a name written, and whether it may be -/
def wrV (l : List UInt8) : List UInt8 × Bool := if l = [] then ([32, 45], true) else (32 :: l, okB l)
theorem wrV_eq (l : List UInt8) : wrV l = (32 :: wn l, okB l) := by
  unfold wrV wn
  by_cases h : l = []
  · rw [if_pos h, if_pos h, h]; rfl
  · rw [if_neg h, if_neg h]
set_option maxHeartbeats 2000000 in
theorem Write_any (S : ByteArray) (w : World) (hs : S.size ≤ 1000000) :
    Calls Tryd.prog 33 #[.string S] w fun e w' => e = .returned (.tuple #[.string (strB (32 :: wn S.data.toList)), .bool (okB S.data.toList)]) ∧ w = w' := by
  by_cases h0 : S.data.toList = []
  · have HV := Lib.hid (show (32 :: wn S.data.toList, okB S.data.toList) = (([32, 45], true) : List UInt8 × Bool) by rw [h0]; rfl)
    have he := beq_lit h0
    clear h0
    go_enter Tryd.func33, Tryd.ntmps33
    go_wp2
    go_ret2
    exact ⟨by rw [(Prod.mk.inj HV.out).1, (Prod.mk.inj HV.out).2]; rfl, rfl⟩
  · have he := bne_lit h0
    have HM := Lib.hid (okB_may h0)
    have HW := Lib.hid (show (⟨#[32]⟩ : ByteArray) ++ S = strB (32 :: wn S.data.toList) by
      apply list_inj
      rw [app_list]; unfold wn; rw [if_neg h0]; rfl)
    clear h0
    by_cases hd : S.data.toList = [45]
    · have h2 := beq_lit hd
      have HD := Lib.hid (show (S.data.toList == [45]) = true by rw [beq_iff_eq]; exact hd)
      clear hd
      go_enter Tryd.func33, Tryd.ntmps33
      go_wp2
      go_ret2
      exact ⟨by rw [HM.out, HD.out, ← HW.out]; rfl, rfl⟩
    · have h2 := bne_lit hd
      have HD := Lib.hid (show (S.data.toList == [45]) = false by rw [beq_eq_false_iff_ne]; exact hd)
      clear hd
      go_enter Tryd.func33, Tryd.ntmps33
      go_wp2_with (go_at_call 25; refine (may_any _ _ hs).mono ?_; rintro e w' ⟨rfl, rfl⟩)
      go_ret2
      exact ⟨by rw [HM.out, HD.out, ← HW.out]; rfl, rfl⟩
theorem digs_at (d : Nat) (h : d < 16) : (⟨#[48, 49, 50, 51, 52, 53, 54, 55, 56, 57, 97, 98, 99, 100, 101, 102]⟩ : ByteArray).extract d (d + 1) = strB [hxd d] := by
  have : ∀ i : Fin 16, ((⟨#[48, 49, 50, 51, 52, 53, 54, 55, 56, 57, 97, 98, 99, 100, 101, 102]⟩ : ByteArray).extract i.val (i.val + 1)).data = #[hxd i.val] := by decide
  apply ByteArray.ext
  exact this ⟨d, h⟩
theorem digs_slice (d : Nat) (h : d < 16) (W : World) : (Instr.slice 9 (.string ⟨#[48, 49, 50, 51, 52, 53, 54, 55, 56, 57, 97, 98, 99, 100, 101, 102]⟩) (some (.int .i64 (d : Int))) (some (.int .i64 ((d : Int) + 1))) none).run Tryd.prog W = .ok (.string (strB [hxd d])) W := by
  rw [run_slice_string (P := Tryd.prog) (w := W) 9 ⟨#[48, 49, 50, 51, 52, 53, 54, 55, 56, 57, 97, 98, 99, 100, 101, 102]⟩ .i64 .i64 (d : Int) ((d : Int) + 1) Tryd.underlying9 (by omega) (by omega) (by show (d : Int) + 1 ≤ ((16 : Nat) : Int); omega)]
  rw [show ((d : Int)).toNat = d by omega, show ((d : Int) + 1).toNat = d + 1 by omega, digs_at d h]
set_option maxRecDepth 20000 in
set_option maxHeartbeats 4000000 in
theorem RefHex_any (S : ByteArray) (w : World) (hs : S.size ≤ 100000) :
    Calls Tryd.prog 32 #[.string S] w fun e w' => e = .returned (.string (strB (hexL S.data.toList))) ∧ Below w.heap.size w w' := by
  have HL := Lib.hid (show S.data.toList.length = S.size from Array.length_toList)
  go_enter Tryd.func32, Tryd.ntmps32
  go_wp2
  go_loopw [3, 4] (fun v i wr => ∃ (k : Nat) (o : ByteArray), k ≤ S.size ∧ i = .int .i64 k ∧ v = .string o ∧ o.data.toList = hex2 (S.data.toList.take k) ∧ Below w.heap.size w wr) (fun _ i _ => S.size - (intOf i).toNat)
  case atStart => exact ⟨0, ⟨#[]⟩, Nat.zero_le _, rfl, rfl, rfl, Below.refl _ _⟩
  case round =>
    obtain ⟨k, o, hk, rfl, rfl, ho, hB⟩ := hrel
    have HO := Lib.hid ho
    have HB := Lib.hid hB
    have hos : o.size ≤ 200000 := by
      have h1 : o.data.toList.length = o.size := Array.length_toList
      rw [ho, hex2_len, List.length_take] at h1
      omega
    clear ho hB
    by_cases hlt : k < S.size
    · have hik : (k : Int) < S.size := by omega
      have hdl : decide ((k : Int) < (S.size : Int)) = true := by rw [decide_eq_true_iff]; omega
      have HX := Lib.hid (get_list S k hlt)
      have hx0 := S[k].toNat_lt
      obtain ⟨hi, hhi⟩ : ∃ hi, hi = S[k].toNat / 16 := ⟨_, rfl⟩
      obtain ⟨lo, hlo⟩ : ∃ lo, lo = S[k].toNat % 16 := ⟨_, rfl⟩
      have q1 : (S[k].toNat : Int) / 16 = (hi : Int) := by omega
      have q2 : (S[k].toNat : Int) % 16 = (lo : Int) := by omega
      have q3 : (S[k].toNat : Int).tdiv 16 = (hi : Int) := by rw [Int.tdiv_eq_ediv_of_nonneg (by omega)]; exact q1
      have q4 : (S[k].toNat : Int).tmod 16 = (lo : Int) := by rw [Int.tmod_eq_emod_of_nonneg (by omega)]; exact q2
      have q5 : IntKind.i64.wrap (S[k].toNat : Int) = (S[k].toNat : Int) := IntWalk.i64_in _ (by omega)
      have q6 : IntKind.i64.wrap (hi : Int) = (hi : Int) := IntWalk.i64_in _ (by omega)
      have q7 : IntKind.i64.wrap (lo : Int) = (lo : Int) := IntWalk.i64_in _ (by omega)
      have hi16 : hi < 16 := by omega
      have lo16 : lo < 16 := by omega
      have HN := Lib.hid (show hex2 (S.data.toList.take (k + 1)) = hex2 (S.data.toList.take k) ++ [hxd hi, hxd lo] by rw [List.take_add_one, HX.out, hhi, hlo]; exact hex2_snoc _ _)
      clear hhi hlo
      go_wp2_with fail
      refine RL.start (fun W => RL.Aft wr W) (by kernel_rfl) (RL.Aft.drew (RL.Aft.refl wr)) ?_
      refine' RL.takeV (i := 0) (v := _) rfl (by kernel_rfl) (by kernel_rfl) (by kernel_rfl) (fun _ _ _ h => h) (by rfl) ?hk1 ?_
      case hk1 => (intro W hSW; go_simp; try with_reducible rfl)
      (try simp only [Act.put, List.setIfInBounds_toArray, List.set_cons_zero, List.set_cons_succ])
      refine' RL.takeV (i := 1) (v := _) rfl (by kernel_rfl) (by kernel_rfl) (by kernel_rfl) (fun _ _ _ h => h) (by rfl) ?hk2 ?_
      case hk2 => (intro W hSW; go_simp; try with_reducible rfl)
      (try simp only [Act.put, List.setIfInBounds_toArray, List.set_cons_zero, List.set_cons_succ])
      refine' RL.takeV (i := 2) (v := _) rfl (by kernel_rfl) (by kernel_rfl) (by kernel_rfl) (fun _ _ _ h => h) (by rfl) ?hk3 ?_
      case hk3 => (intro W hSW; go_simp; try with_reducible rfl)
      (try simp only [Act.put, List.setIfInBounds_toArray, List.set_cons_zero, List.set_cons_succ])
      refine' RL.takeV (i := 3) (v := _) rfl (by kernel_rfl) (by kernel_rfl) (by kernel_rfl) (fun _ _ _ h => h) (by rfl) ?hk4 ?_
      case hk4 => (intro W hSW; go_simp; try with_reducible rfl)
      (try simp only [Act.put, List.setIfInBounds_toArray, List.set_cons_zero, List.set_cons_succ])
      refine' RL.takeV (i := 4) (v := _) rfl (by kernel_rfl) (by kernel_rfl) (by kernel_rfl) (fun _ _ _ h => h) (by rfl) ?hk5 ?_
      case hk5 => (intro W hSW; go_simp; try with_reducible rfl)
      (try simp only [Act.put, List.setIfInBounds_toArray, List.set_cons_zero, List.set_cons_succ])
      refine' RL.takeV (i := 5) (v := _) rfl (by kernel_rfl) (by kernel_rfl) (by kernel_rfl) (fun _ _ _ h => h) (by rfl) ?hk6 ?_
      case hk6 => (intro W hSW; go_simp; try with_reducible rfl)
      (try simp only [Act.put, List.setIfInBounds_toArray, List.set_cons_zero, List.set_cons_succ])
      refine' RL.takeV (i := 6) (v := _) rfl (by kernel_rfl) (by kernel_rfl) (by kernel_rfl) (fun _ _ _ h => h) (by rfl) ?hk7 ?_
      case hk7 => (intro W hSW; go_simp; try with_reducible rfl)
      (try simp only [Act.put, List.setIfInBounds_toArray, List.set_cons_zero, List.set_cons_succ])
      refine' RL.takeV (i := 7) (v := _) rfl (by kernel_rfl) (by kernel_rfl) (by kernel_rfl) (fun _ _ _ h => h) (by rfl) ?hk8 ?_
      case hk8 => (intro W hSW; go_simp; try with_reducible rfl)
      (try simp only [Act.put, List.setIfInBounds_toArray, List.set_cons_zero, List.set_cons_succ])
      refine' RL.takeV (i := 8) (v := _) rfl (by kernel_rfl) (by kernel_rfl) (by kernel_rfl) (fun _ _ _ h => h) (by rfl) ?hk9 ?_
      case hk9 => (intro W hSW; go_simp; try with_reducible rfl)
      (try simp only [Act.put, List.setIfInBounds_toArray, List.set_cons_zero, List.set_cons_succ])
      refine' RL.takeV (i := 9) (v := _) rfl (by kernel_rfl) (by kernel_rfl) (by kernel_rfl) (fun _ _ _ h => h) (by rfl) ?hk10 ?_
      case hk10 => (intro W hSW; go_simp; try with_reducible rfl)
      (try simp only [Act.put, List.setIfInBounds_toArray, List.set_cons_zero, List.set_cons_succ])
      refine' RL.takeV (i := 12) (v := _) rfl (by kernel_rfl) (by kernel_rfl) (by kernel_rfl) (fun _ _ _ h => h) (by rfl) ?hk11 ?_
      case hk11 => (intro W hSW; go_simp; try with_reducible rfl)
      (try simp only [Act.put, List.setIfInBounds_toArray, List.set_cons_zero, List.set_cons_succ])
      refine RL.stepK (i := 10) rfl (by kernel_rfl) (by rfl) (fun w1 hlw1 hsw1 K hK => ?_)
      go_simp
      refine hK.out _ _ (RL.Aft.alloc hsw1 _) ?_
      clear hK
      (try simp only [Act.put, List.setIfInBounds_toArray, List.set_cons_zero, List.set_cons_succ])
      refine' RL.takeV (i := 11) (v := _) rfl (by kernel_rfl) (by kernel_rfl) (by kernel_rfl) (fun _ _ _ h => h) (by rfl) ?hk12 ?_
      case hk12 => (intro W hSW; go_simp; try with_reducible rfl)
      (try simp only [Act.put, List.setIfInBounds_toArray, List.set_cons_zero, List.set_cons_succ])
      refine RL.done (by kernel_rfl) (fun w2 hlw2 hsw2 => ?_)
      clear q3 q4 q5 q6 q7 q1 q2
      have HBK := Lib.hid ((Rg.Blk.new w1 #[.int .i64 (hi : Int), .int .i64 (lo : Int)] 3).below hlw2 (by simp))
      have HB2 := Lib.hid (HB.out.trans (Below.mono hsw2 HB.out.size))
      clear hlw2 hsw2 hlw1 hsw1
      go_wp2_with fail
      go_loopw [3, 25] (fun v i wx => ∃ (m : Nat) (o2 : ByteArray), m ≤ 2 ∧ i = .int .i64 m ∧ v = .string o2 ∧ o2.data.toList = hex2 (S.data.toList.take k) ++ [hxd hi, hxd lo].take m ∧ SameW w2 wx) (fun _ i _ => 3 - (intOf i).toNat)
      case atStart => exact ⟨0, o, by omega, rfl, rfl, by rw [HO.out]; simp, (rfl : w2 = w2)⟩
      case round =>
        obtain ⟨m, o2, hm, rfl, rfl, ho2, hsw⟩ := hrel
        obtain rfl : w2 = wr := hsw
        have HO2 := Lib.hid ho2
        have hos2 : o2.size ≤ 200002 := by
          have h1 : o2.data.toList.length = o2.size := Array.length_toList
          rw [ho2, List.length_append, hex2_len, List.length_take, List.length_take] at h1
          simp at h1
          omega
        clear ho2
        by_cases hm2 : m < 2
        · have him : (m : Int) < 2 := by omega
          obtain ⟨d, hd16, hcell, hlist⟩ : ∃ d : Nat, d < 16 ∧ w2.cell? ⟨w1.heap.size, m, none⟩ = some (.int .i64 (d : Int)) ∧ [hxd hi, hxd lo].take (m + 1) = [hxd hi, hxd lo].take m ++ [hxd d] := by
            match m, hm2 with
            | 0, _ => exact ⟨hi, hi16, HBK.out.cell 0 (v := .int .i64 (hi : Int)) rfl, rfl⟩
            | 1, _ => exact ⟨lo, lo16, HBK.out.cell 1 (v := .int .i64 (lo : Int)) rfl, rfl⟩
          have hsl := digs_slice d hd16
          have HLi := Lib.hid hlist
          have hd1 : (d : Int) + 1 ≤ 16 := by omega
          have hos3 : (strB [hxd d]).size = 1 := rfl
          clear hlist
          go_wp2_with fail
          go_roundw
          case rel =>
            have REL := Lib.hid (show ∃ (m' : Nat) (o3 : ByteArray), m' ≤ 2 ∧ Value.int .i64 ((m : Int) + 1) = .int .i64 m' ∧ Value.string (o2 ++ strB [hxd d]) = .string o3 ∧ o3.data.toList = hex2 (S.data.toList.take k) ++ [hxd hi, hxd lo].take m' ∧ SameW w2 w2 from ⟨m + 1, _, by omega, by go_num, rfl, by rw [app_list, HO2.out, HLi.out, List.append_assoc]; rfl, rfl⟩)
            first
              | exact REL.out
              | ((repeat apply Exists.intro); refine ⟨?_, rfl⟩; exact REL.out)
          case measure => (first | (simp [intOf]; done) | (simp [intOf]; omega))
        · obtain rfl : m = 2 := by omega
          go_wp2_with fail
          go_roundw
          case rel =>
            have REL := Lib.hid (show ∃ (k' : Nat) (o3 : ByteArray), k' ≤ S.size ∧ Value.int .i64 ((k : Int) + 1) = .int .i64 k' ∧ Value.string o2 = .string o3 ∧ o3.data.toList = hex2 (S.data.toList.take k') ∧ Below w.heap.size w w2 from ⟨k + 1, o2, by omega, by go_num, rfl, by rw [HO2.out, HN.out]; rfl, HB2.out⟩)
            first
              | exact REL.out
              | ((repeat apply Exists.intro); refine ⟨?_, rfl⟩; exact REL.out)
          case measure => (first | (simp [intOf]; done) | (simp [intOf]; omega))
    · obtain rfl : k = S.size := by omega
      have HA := Lib.hid (show o.data.toList = hex2 S.data.toList by rw [HO.out, ← HL.out, List.take_length])
      have hdl : decide ((S.size : Int) < (S.size : Int)) = false := by rw [decide_eq_false_iff_not]; omega
      by_cases h0 : S.data.toList = []
      · have HV := Lib.hid (show hexL S.data.toList = [45] by rw [h0]; rfl)
        have he := beq_lit (S := o) (l := []) (by rw [HA.out, h0]; rfl)
        clear h0
        go_wp2_with fail
        go_ret
        exact ⟨by rw [HV.out]; rfl, HB.out⟩
      · have HV := Lib.hid (show o = strB (hexL S.data.toList) by
          apply list_inj
          rw [HA.out]; unfold hexL; rw [if_neg h0]; rfl)
        have he := bne_lit (S := o) (l := []) (by
          rw [HA.out]
          intro e
          have := hex2_len S.data.toList
          rw [e] at this
          exact h0 (List.eq_nil_of_length_eq_zero (by have h1 := HL.out; rw [List.length_nil] at this; omega)))
        clear h0
        go_wp2_with fail
        go_ret
        exact ⟨by rw [← HV.out]; rfl, HB.out⟩
end Go.Proofs.YtonjgfbefhefjaaDoor.Ln
