/- A block goes into the words: the reference, words of 64 bits. -/
import Derived.Test.YtfaeigbfnjkojaaGreatDoorRefA
set_option linter.unusedVariables false
set_option linter.unusedSimpArgs false
namespace Go.Proofs.YtfaeigbfnjkojaaGreatDoor.Sha
open Go.RowKit Go.Proofs.YtfaeigbfnjkojaaGreatDoor.Cl Go.Proofs.YtfaeigbfnjkojaaGreatDoor.Ws
attribute [local go_sem] wrap_add64

set_option maxRecDepth 100000 in
set_option maxHeartbeats 4000000 in
theorem refblock64 (w : World) (v : Value) (hh : List Nat) (s : ByteArray) (hs : s.size = 128) (hV : Words w v hh) (hl : hh.length = 8) (hlt : ∀ i, nth hh i < 18446744073709551616) :
    Calls Tryz.prog 74 #[v, .string s, .int .i64 64] w fun e w' => ∃ v', e = .returned v' ∧ Words w' v' (mixed 64 s.data.toList hh) ∧ Below w.heap.size w w' := by
  have hlen : s.data.toList.length = 128 := by simpa using hs
  obtain ⟨i0, hi, hz0, hz1, hz2⟩ := info_parts infoU64
  obtain ⟨vb, vc, rfl, hvc, hvb, hvx⟩ := hV
  rw [hl] at hvx hvc ⊢
  have HVX := Lib.hid hvx
  have HLT := Lib.hid hlt
  have HHL := Lib.hid hl
  clear hvx hlt hl
  go_enter Tryz.func74, Tryz.ntmps74
  go_wp2_with fail
  have HO0 := Lib.hid (show Own (w.alloc (.cells #[] 50)) w.heap.size 50 w.heap.size 0 (sched 64 s.data.toList 0) from Own.new w 50 w.heap.size [] (Nat.le_refl _) (by decide))
  have HB0 := Lib.hid (show Below w.heap.size w (w.alloc (.cells #[] 50)) from (Below.refl _ _).alloc (Nat.le_refl _) _)
  go_loopw [9, 10] (fun v9 i wr => ∃ k g cap : Nat, k ≤ 80 ∧ i = .int .i64 k ∧ v9 = .slice (some ⟨g, 0, none⟩) k cap ∧ Own wr w.heap.size 50 g cap (sched 64 s.data.toList k) ∧ Below w.heap.size w wr) (fun _ i _ => 80 - (intOf i).toNat)
  case atStart => exact ⟨0, w.heap.size, 0, by decide, rfl, rfl, HO0.out, HB0.out⟩
  case round =>
    obtain ⟨k, g, cap, hk, rfl, rfl, hO, hb⟩ := hrel
    have HO := Lib.hid hO
    have HB := Lib.hid hb
    have hcap : k ≤ cap := by have := hO.cap; rwa [sched_length] at this
    clear hO hb HO0 HB0
    by_cases hlt : k < 80
    · have hd : decide ((k : Int) < 80) = true := by simp; omega
      by_cases h16 : k < 16
      · have hd2 : decide ((k : Int) < 16) = true := by simp; omega
        go_wp2_with fail
        clear hd hd2
        go_loop [11, 12] (fun x i => ∃ j : Nat, j ≤ 8 ∧ i = .int .i64 j ∧ x = .int .u64 (part 64 s.data.toList k j : Nat)) (fun _ i => 8 - (intOf i).toNat)
        case atStart => exact ⟨0, by decide, rfl, rfl⟩
        case round =>
          obtain ⟨j, hj, rfl, rfl⟩ := hrel
          by_cases hjn : j < 8
          · have hi0 : 0 ≤ (k : Int) * 8 + j := by omega
            have hi1 : (k : Int) * 8 + j < 128 := by omega
            go_wp2_with fail
            go_round
            case rel =>
              have hb : k * (64 / 8) + j < s.data.toList.length := by rw [hlen]; omega
              have hv := part_next 64 s.data.toList k j s[k * 8 + j] (by omega) hb rfl
              exact ⟨j + 1, by omega, by go_num, congrArg (Value.int .u64) hv⟩
            case measure => simp [intOf]; omega
          · obtain rfl : j = 8 := by omega
            have hy := Lib.hid (show part 64 s.data.toList k 8 = part 64 s.data.toList k 8 from rfl)
            have hrow := Lib.hid (HO.out.row (sched_length 64 s.data.toList k))
            go_wp2_with (first
              | (go_at_call 90; refine (refcut64y _ _ _ hy.out).mono ?_; rintro e w2 ⟨rfl, rfl⟩)
              | (at_builtin; refine wpList_append_own _ rfl _ _ 144 rfl w.heap.size 50 i0 (.int .u64 0) 1 8 Tryz.underlying144 hi hz0 hz1 hz2 rfl (by decide) _ _ _ rfl (hrow.out.alloc _) ⟨wr.heap.size, 0, none⟩ 1 1 [.int .u64 (part 64 s.data.toList k 8 : Nat)] rfl rfl (one_src _ _ _) (by intro u hu; simp at hu; subst hu; rfl) (by unfold maxLen; omega) (by omega) (by have := HB.out.size; simp; omega) ?_
                 intro v' w3 hown' hgrow _
                 obtain ⟨g', cap', rfl, hO'⟩ := append_at (sched_length 64 s.data.toList k) hown'
                 rw [← sched_succ16 _ _ _ h16] at hO'
                 have HO' := Lib.hid hO'
                 have HB' := Lib.hid ((HB.out.alloc (by have := HB.out.size; omega) _).grown hgrow (by have := HB.out.size; simp; omega) (fun k hk => (hrow.out.lt k hk).1))
                 clear hO' hown' hgrow))
            go_roundw
            case rel => exact ⟨k + 1, g', cap', by omega, by go_num, rfl, HO'.out, HB'.out⟩
            case measure => simp [intOf]; omega
      · have hd2 : decide ((k : Int) < 16) = false := by simp; omega
        have hg := Lib.hid (show ∀ i, nth (sched 64 s.data.toList k) i < 18446744073709551616 from fun i => getD_lt (sched_lt 64 (by decide) s.data.toList k) (Nat.two_pow_pos 64) i)
        go_wp2_with fail
        clear hd hd2
        have f2 := HO.out.cell (k - 2) (by rw [sched_length]; omega)
        have f7 := HO.out.cell (k - 7) (by rw [sched_length]; omega)
        have f15 := HO.out.cell (k - 15) (by rw [sched_length]; omega)
        have f16 := HO.out.cell (k - 16) (by rw [sched_length]; omega)
        have i2 : (2 : Int) ≤ k ∧ (k : Int) - 2 < k := by omega
        have i7 : (7 : Int) ≤ k ∧ (k : Int) - 7 < k := by omega
        have i15 : (15 : Int) ≤ k ∧ (k : Int) - 15 < k := by omega
        have i16 : (16 : Int) ≤ k ∧ (k : Int) - 16 < k := by omega
        have h16' : 16 ≤ k := by omega
        go_quiet ((go_at_call 89; exact Calls.quiet_of (refthreeS64 _ _ _ _ _ (hg.out _) (by decide) (by decide) (by decide) (by decide) (by decide) (by decide))))
        clear f2 f7 f15 f16 i2 i7 i15 i16
        have hbq : Below wr.heap.size wr (wr.drewN nq) := (Below.refl _ _).drewN' nq
        generalize wr.drewN nq = wq at *
        have HOq := Lib.hid (HO.out.below hbq)
        have HBq := Lib.hid (HB.out.trans (hbq.mono HB.out.size))
        clear hbq
        have hrow := Lib.hid (HOq.out.row (sched_length 64 s.data.toList k))
        obtain ⟨y, hy⟩ : ∃ y, y = (sg1 64 (nth (sched 64 s.data.toList k) (k - 2)) + nth (sched 64 s.data.toList k) (k - 7) + sg0 64 (nth (sched 64 s.data.toList k) (k - 15)) + nth (sched 64 s.data.toList k) (k - 16)) % 2 ^ 64 := ⟨_, rfl⟩
        have Hsu := Lib.hid (show sched 64 s.data.toList (k + 1) = sched 64 s.data.toList k ++ [y] by rw [hy]; exact sched_succ _ _ _ h16)
        have Hy := Lib.hid hy
        clear hy
        go_wp2_with (first
          | (go_at_call 90; refine (refcut64y _ _ y (by rw [Hy.out]; simp only [sg0, sg1, Nat.reduceEqDiff, if_false, add64]; omega)).mono ?_; rintro e w2 ⟨rfl, rfl⟩)
          | (at_builtin; refine wpList_append_own _ rfl _ _ 144 rfl w.heap.size 50 i0 (.int .u64 0) 1 8 Tryz.underlying144 hi hz0 hz1 hz2 rfl (by decide) _ _ _ rfl (hrow.out.alloc _) ⟨wq.heap.size, 0, none⟩ 1 1 [.int .u64 (y : Nat)] rfl rfl (one_src _ _ _) (by intro u hu; simp at hu; subst hu; rfl) (by unfold maxLen; omega) (by omega) (by have := HBq.out.size; simp; omega) ?_
             intro v' w3 hown' hgrow _
             obtain ⟨g', cap', rfl, hO'⟩ := append_at (sched_length 64 s.data.toList k) hown'
             rw [← Hsu.out] at hO'
             have HO' := Lib.hid hO'
             have HB' := Lib.hid ((HBq.out.alloc (by have := HBq.out.size; omega) _).grown hgrow (by have := HBq.out.size; simp; omega) (fun k hk => (hrow.out.lt k hk).1))
             clear hO' hown' hgrow))
        go_roundw
        case rel => exact ⟨k + 1, g', cap', by omega, by go_num, rfl, HO'.out, HB'.out⟩
        case measure => simp [intOf]; omega
    · obtain rfl : k = 80 := by omega
      have HSch := Lib.hid (sched_length 64 s.data.toList 80)
      have HSlt := Lib.hid (fun i => getD_lt (sched_lt 64 (by decide) s.data.toList 80) (Nat.two_pow_pos 64) i)
      have HMX := Lib.hid (show ∀ i, i < 80 → nth (msg 64 s.data.toList) i = nth (sched 64 s.data.toList 80) i from fun i hi => by rw [msg64]; exact pad_get _ _ _ _ hi)
      generalize sched 64 s.data.toList 80 = ws at *
      have hsz := HB.out.size
      have HE := Lib.hid (show Own (wr.alloc (.cells #[] 50)) w.heap.size 50 wr.heap.size 0 [] from Own.new wr 50 w.heap.size [] hsz (by decide))
      have HBE := Lib.hid (HB.out.alloc hsz (.cells #[] 50))
      go_wp2_with (first
        | (at_builtin; refine wpList_append_own _ rfl _ _ 144 rfl w.heap.size 50 i0 (.int .u64 0) 1 8 Tryz.underlying144 hi hz0 hz1 hz2 rfl (by decide) _ _ _ rfl (HE.out.row rfl) ⟨vb, 0, none⟩ 8 vc (vals hh) rfl (by simp [vals, HHL.out]) (by
              intro j u hj
              have hj' : j < hh.length := by have := (List.getElem?_eq_some_iff.1 hj).1; simpa [vals] using this
              have hadd : (⟨vb, 0, none⟩ : Addr).add j = ⟨vb, j, none⟩ := by unfold Addr.add; split <;> simp_all
              rw [hadd, HBE.out.cell (p := ⟨vb, j, none⟩) hvb, HVX.out j (by rw [← HHL.out]; exact hj'), ← hj]
              simp [vals, nth, hj']) (by intro u hu; obtain ⟨x, _, rfl⟩ := List.mem_map.1 hu; rfl) (by unfold maxLen; omega) (by omega) (by simp; omega) ?_))
      intro v' w3 hown' hgrow _
      obtain ⟨g2, cap2, rfl, hO2⟩ := own_of_row HHL.out (by decide) hown'
      have hg2 := hO2.lt.1
      have HA := Lib.hid (hO2.at8 HHL.out)
      have HB3 := Lib.hid (HBE.out.grown hgrow (by simp; omega) (fun k hk => (World.ownsRow.lt (HE.out.row rfl) k hk).1))
      have HO3 := Lib.hid (show Own w3 w.heap.size 50 g cap ws from World.ownsRow.kept ((HO.out.below ((Below.refl _ _).alloc (Nat.le_refl _) (.cells #[] 50)))) hgrow (.inr (by have := HO.out.lt.2; intro e; simp [Value.ownBlock] at e; omega)))
      clear hO2 hown' hgrow
      go_wp2_with fail
      have hsz3 := HB3.out.size
      go_loopw [13, 14] (fun v13 i wr => ∃ k g2 cap2 : Nat, k ≤ 80 ∧ i = .int .i64 k ∧ v13 = .slice (some ⟨g2, 0, none⟩) 8 cap2 ∧ At8 wr g2 (mixTo 64 (msg 64 s.data.toList) hh k) ∧ Own wr w.heap.size 50 g cap ws ∧ Below w.heap.size w wr) (fun _ i _ => 80 - (intOf i).toNat)
      case atStart => exact ⟨0, g2, cap2, by decide, rfl, rfl, HA.out, HO3.out, HB3.out⟩
      case round =>
        clear hsz hsz3 hg2 hcap
        obtain ⟨k, g2, cap2, hk, rfl, rfl, hA, hO, hb⟩ := hrel
        have HA4 := Lib.hid hA
        have HO4 := Lib.hid hO
        have HB4 := Lib.hid hb
        clear hA hO hb HA HO3 HB3 HE HBE HO HB
        by_cases hlt : k < 80
        · have hd : decide ((k : Int) < 80) = true := by simp; omega
          have hg := mixTo_lt 64 (msg 64 s.data.toList) hh HLT.out k
          have HEq := Lib.hid (show mixTo 64 (msg 64 s.data.toList) hh (k + 1) = mixRound 64 (mixTo 64 (msg 64 s.data.toList) hh k) (kw 64 k) (nth ws k) by rw [← HMX.out k hlt]; rfl)
          generalize mixTo 64 (msg 64 s.data.toList) hh k = xs at *
          have Hg := Lib.hid (show ∀ i, nth xs i < 18446744073709551616 from hg)
          clear hg
          go_wp2_with fail
          clear hd
          have x0 := HA4.out.2 0 (by decide)
          have x1 := HA4.out.2 1 (by decide)
          have x2 := HA4.out.2 2 (by decide)
          have x4 := HA4.out.2 4 (by decide)
          have x5 := HA4.out.2 5 (by decide)
          have x6 := HA4.out.2 6 (by decide)
          go_quiet (fail)
          clear x0 x1 x2 x4 x5 x6
          have hbq : Below wr.heap.size wr (wr.drewN nq) := (Below.refl _ _).drewN' nq
          generalize wr.drewN nq = wq at *
          have HAq := Lib.hid (HA4.out.below hbq)
          have HOq := Lib.hid (HO4.out.below hbq)
          have HBq := Lib.hid (HB4.out.trans (hbq.mono HB4.out.size))
          clear hbq
          have b0 : ∀ i, nth xs i < 18446744073709551616 := fun i => Nat.lt_of_lt_of_le (Hg.out i) (by decide)
          have HB64 := Lib.hid b0
          clear b0
          have tokA := True.intro
          have HRun := Lib.hid (Below.refl wq.heap.size wq)
          go_wp2_with (first
            | (have _t := tokA; go_at_call 89; refine (refthree64b _ _ _ _ _ (HB64.out _) (by decide) (by decide) (by decide) (by decide) (by decide) (by decide)).mono ?_; rintro e wz ⟨rfl, hbz⟩; skip; clear _t; have HRun := Lib.hid (HRun.out.trans (hbz.mono HRun.out.size)); clear hbz)
            | (go_at_call 91; refine (refk _ k (by omega)).mono ?_; rintro e wz ⟨rfl, hbz⟩; skip; clear tokA; have tokB := True.intro; have HRun := Lib.hid (HRun.out.trans (hbz.mono HRun.out.size)); clear hbz)
            )
          have HA5 := Lib.hid (HAq.out.below HRun.out)
          have HO5 := Lib.hid (HOq.out.below HRun.out)
          have HB5 := Lib.hid (HBq.out.trans (HRun.out.mono HBq.out.size))
          have x7 := HA5.out.2 7 (by decide)
          have fk := HO5.out.cell k (by rw [HSch.out]; exact hlt)
          have ik : (k : Int) < 80 := by omega
          have hsg : IntKind.u64.signed = false := rfl
          have e1 := ch_e1 (nth xs 4) (nth xs 5) (HB64.out 4) (HB64.out 5)
          have e2 := not_u64 (nth xs 4) (HB64.out 4)
          have e3 := ch_e3 (nth xs 4) (nth xs 6) (HB64.out 6)
          have e4 := ch_e4 (nth xs 4) (nth xs 5) (nth xs 6) (HB64.out 4)
          have e5 := ch_e1 (nth xs 0) (nth xs 1) (HB64.out 0) (HB64.out 1)
          have e6 := ch_e1 (nth xs 0) (nth xs 2) (HB64.out 0) (HB64.out 2)
          have e7 := ch_e1 (nth xs 1) (nth xs 2) (HB64.out 1) (HB64.out 2)
          have e8 := mj_e1 (nth xs 0) (nth xs 1) (nth xs 2) (HB64.out 0)
          have e9 := mj_e2 (nth xs 0) (nth xs 1) (nth xs 2) (HB64.out 0) (HB64.out 1)
          obtain ⟨y1, hy1⟩ : ∃ y1, y1 = add64 (add64 (add64 (add64 (nth xs 7) (three 64 (nth xs 4) 14 18 41)) (ch (nth xs 4) (nth xs 5) (nth xs 6))) (nth wordsL k)) (nth ws k) := ⟨_, rfl⟩
          obtain ⟨y2, hy2⟩ : ∃ y2, y2 = add64 (three 64 (nth xs 0) 28 34 39) (mj (nth xs 0) (nth xs 1) (nth xs 2)) := ⟨_, rfl⟩
          have HY1 := Lib.hid hy1
          have HY2 := Lib.hid hy2
          clear hy1 hy2
          go_quiet ((go_at_call 90; exact Calls.quiet_of_same ((refcut64y _ _ y1 HY1.out).mono fun _ _ ⟨h1, h2⟩ => ⟨h1, h2.symm⟩)))
          clear x7 fk ik e1 e2 e3 e4 hsg
          have hbq : Below wz.heap.size wz (wz.drewN nq) := (Below.refl _ _).drewN' nq
          generalize wz.drewN nq = wu at *
          have HA6 := Lib.hid (HA5.out.below hbq)
          have HO6 := Lib.hid (HO5.out.below hbq)
          have HB6 := Lib.hid (HB5.out.trans (hbq.mono HB5.out.size))
          clear hbq
          go_wp2_with (go_at_call 90; refine (refcut64y _ _ y2 HY2.out).mono ?_; rintro e wy ⟨rfl, rfl⟩)
          clear e5 e6 e7 e8 e9
          have x3 := fun s : Rg.Later wu.heap.size wu => (s.cell g2 3 HA6.out.1).trans (HA6.out.2 3 (by decide))
          obtain ⟨z0, hz0'⟩ : ∃ z0, z0 = (add64 (add64 (add64 (add64 (nth xs 7) (three 64 (nth xs 4) 14 18 41)) (ch (nth xs 4) (nth xs 5) (nth xs 6))) (nth wordsL k)) (nth ws k) + add64 (three 64 (nth xs 0) 28 34 39) (mj (nth xs 0) (nth xs 1) (nth xs 2))) % 2 ^ 64 := ⟨_, rfl⟩
          obtain ⟨z4, hz4'⟩ : ∃ z4, z4 = (nth xs 3 + add64 (add64 (add64 (add64 (nth xs 7) (three 64 (nth xs 4) 14 18 41)) (ch (nth xs 4) (nth xs 5) (nth xs 6))) (nth wordsL k)) (nth ws k)) % 2 ^ 64 := ⟨_, rfl⟩
          have HZ0 := Lib.hid hz0'
          have HZ4 := Lib.hid hz4'
          have HEq2 := Lib.hid (show mixTo 64 (msg 64 s.data.toList) hh (k + 1) = [z0, nth xs 0, nth xs 1, nth xs 2, z4, nth xs 4, nth xs 5, nth xs 6] by rw [HEq.out, hz0', hz4']; rfl)
          clear hz0' hz4'
          refine Rg.wp_region_later wu.heap.size 18 (by kernel_rfl) (by kernel_rfl) ?_
          simp only [List.take_succ_cons, List.take_zero, List.drop_succ_cons, List.drop_zero]
          have tokC := True.intro
          repeat (go_big_quiet_step (first
            | (go_at_call_of 90 (Value.int .u64 ((add64 y1 y2 : Nat) : Int)); exact Rg.later_same (refcut64y _ _ z0 (by rw [HZ0.out, HY1.out, HY2.out]; rfl)))
            | (go_at_call_of 90 (Value.int .u64 ((add64 (nth xs 3) y1 : Nat) : Int)); exact Rg.later_same (refcut64y _ _ z4 (by rw [HZ4.out, HY1.out]; rfl)))))
          refine wpQuiet_nil ?_
          rintro _ ⟨s8, rfl⟩
          clear x3
          have hs8 := s8.is.size
          have h8 := HB6.out.size
          go_wp2_with fail
          have hAt := Lib.hid (show At8 (s8.val.alloc (.cells (u64s [z0, nth xs 0, nth xs 1, nth xs 2, z4, nth xs 4, nth xs 5, nth xs 6]) 50)) s8.val.heap.size (mixTo 64 (msg 64 s.data.toList) hh (k + 1)) by
            rw [HEq2.out]
            exact ⟨by simp, fun j hj => Row.cell (show Row _ _ 50 _ from Rg.Blk.new _ _ _) j hj⟩)
          have HO8 := Lib.hid ((HO6.out.below s8.is).below ((Below.refl _ _).alloc (Nat.le_refl _) (.cells (u64s [z0, nth xs 0, nth xs 1, nth xs 2, z4, nth xs 4, nth xs 5, nth xs 6]) 50)))
          have HB8 := Lib.hid ((HB6.out.trans (s8.is.mono h8)).alloc (by omega) (.cells (u64s [z0, nth xs 0, nth xs 1, nth xs 2, z4, nth xs 4, nth xs 5, nth xs 6]) 50))
          go_roundw
          case rel =>
            first
              | exact ⟨k + 1, s8.val.heap.size, 8, by omega, by go_num, rfl, hAt.out, HO8.out, HB8.out⟩
              | ((repeat apply Exists.intro); refine ⟨?_, rfl⟩; exact ⟨k + 1, s8.val.heap.size, 8, by omega, by go_num, rfl, hAt.out, HO8.out, HB8.out⟩)
          case measure => simp [intOf]; omega
        · obtain rfl : k = 80 := by omega
          go_wp2_with fail
          have hsz4 := HB4.out.size
          have hg2l := HA4.out.1
          obtain ⟨wb, hwb⟩ : ∃ wb, wb = wr.heap.size := ⟨_, rfl⟩
          have HWB := Lib.hid hwb
          clear hwb
          have HO9 := Lib.hid (show Own (wr.alloc (.cells #[] 50)) wb 50 wr.heap.size 0 ((mixed 64 s.data.toList hh).take 0) from Own.new wr 50 wb [] (by rw [HWB.out]; exact Nat.le_refl _) (by decide))
          have HB9 := Lib.hid (HB4.out.alloc hsz4 (.cells #[] 50))
          have HA9 := Lib.hid (show At8 (wr.alloc (.cells #[] 50)) g2 (mixAll 64 s.data.toList hh) by rw [mixAll64]; exact HA4.out.below ((Below.refl _ _).alloc (Nat.le_refl _) _))
          have HTK := Lib.hid (fun j hj => mixed_take 64 s.data.toList hh j hj)
          have HML := Lib.hid (mixed_length 64 s.data.toList hh)
          obtain ⟨mx, hmx⟩ : ∃ mx, mixed 64 s.data.toList hh = mx := ⟨_, rfl⟩
          rw [hmx] at HO9 HTK HML
          have HMX2 := Lib.hid hmx
          clear hmx
          generalize mixAll 64 s.data.toList hh = xa at *
          have hgb : g2 < wb := by rw [HWB.out]; exact hg2l
          have hwb0 : w.heap.size ≤ wb := by rw [HWB.out]; exact hsz4
          clear hk hsz4 hg2l
          go_loopw [26, 212] (fun v26 i wr => ∃ j g3 cap3 : Nat, j ≤ 8 ∧ i = .int .i64 j ∧ v26 = .slice (some ⟨g3, 0, none⟩) j cap3 ∧ Own wr wb 50 g3 cap3 (mx.take j) ∧ wb ≤ wr.heap.size ∧ At8 wr g2 xa ∧ Below w.heap.size w wr) (fun _ i _ => 8 - (intOf i).toNat)
          case atStart => exact ⟨0, wr.heap.size, 0, by decide, rfl, rfl, HO9.out, by rw [HWB.out]; simp, HA9.out, HB9.out⟩
          case round =>
            obtain ⟨j, g3, cap3, hj, rfl, rfl, hO, hwbr, hA, hb⟩ := hrel
            have HO10 := Lib.hid hO
            have HA10 := Lib.hid hA
            have HB10 := Lib.hid hb
            have hszb := hb.size
            have hjl : (mx.take j).length = j := by rw [List.length_take, HML.out]; omega
            have HJL := Lib.hid hjl
            clear hO hA hb hjl
            by_cases hj8 : j < 8
            · have hd : decide ((j : Int) < 8) = true := by simp; omega
              go_wp2_with fail
              clear hd
              have f1 := fun s : Rg.Later wr.heap.size wr => ((s.cell vb j (by omega)).trans (HB10.out.cell (p := ⟨vb, j, none⟩) hvb)).trans (HVX.out j hj8)
              have f2 := fun s : Rg.Later wr.heap.size wr => (s.cell g2 j HA10.out.1).trans (HA10.out.2 j hj8)
              have ij : (j : Int) < 8 := by omega
              obtain ⟨y, hy⟩ : ∃ y, y = (nth hh j + nth xa j) % 2 ^ 64 := ⟨_, rfl⟩
              have HYY := Lib.hid hy
              have HTJ := Lib.hid (show mx.take (j + 1) = mx.take j ++ [y] by rw [hy]; exact HTK.out j hj8)
              clear hy
              refine Rg.wp_region_move_later wr.heap.size 12 _ (by kernel_rfl) rfl rfl (by kernel_rfl) (fun _ _ _ _ h => h) ?_
              simp only [Nat.reduceSub, List.take_succ_cons, List.take_zero, List.drop_succ_cons, List.drop_zero, Act.put, Act.eval, List.setIfInBounds_toArray, List.set_cons_succ, List.set_cons_zero, Array.getD_eq_getD_getElem?, List.getElem?_toArray, List.getElem?_cons_succ, List.getElem?_cons_zero, Option.getD_some]
              repeat (go_big_quiet_step ((go_at_call 90; exact Rg.later_same (refcut64y _ _ y (by rw [HYY.out]; rfl)))))
              refine wpQuiet_nil ?_
              rintro _ ⟨s11, rfl⟩
              clear f1 f2
              have hs11 := s11.is.size
              have hrow := Lib.hid ((HO10.out.below s11.is).row HJL.out)
              go_wp2_with ((at_builtin; refine wpList_append_own _ rfl _ _ 144 rfl wb 50 i0 (.int .u64 0) 1 8 Tryz.underlying144 hi hz0 hz1 hz2 rfl (by decide) _ _ _ rfl (hrow.out.alloc _) ⟨s11.val.heap.size, 0, none⟩ 1 1 [.int .u64 (y : Nat)] rfl rfl (one_src _ _ _) (by intro u hu; simp at hu; subst hu; rfl) (by unfold maxLen; omega) (by omega) (by simp; omega) ?_))
              intro v' w12 hown' hgrow _
              obtain ⟨g', cap', rfl, hO'⟩ := append_at HJL.out hown'
              rw [← HTJ.out] at hO'
              have HO' := Lib.hid hO'
              have HWB12 := Lib.hid (show wb ≤ w12.heap.size by have := hgrow.size; simp at this; omega)
              have HA12 := Lib.hid (show At8 w12 g2 xa from At8.grown ((HA10.out.below s11.is).below ((Below.refl _ _).alloc (Nat.le_refl _) _)) hgrow (by have h1 : wb ≤ g3 := (World.ownsRow.lt hrow.out g3 rfl).1; intro e; have e2 : g2 = g3 := Option.some.inj e; omega))
              have HB' := Lib.hid (((HB10.out.trans (s11.is.mono hszb)).alloc (by omega) _).grown hgrow (by simp; omega) (fun k hk => Nat.le_trans hwb0 (World.ownsRow.lt hrow.out k hk).1))
              go_wp2_with fail
              go_roundw
              case rel =>
                first
                  | exact ⟨j + 1, g', cap', by omega, by go_num, rfl, HO'.out, HWB12.out, HA12.out, HB'.out⟩
                  | ((repeat apply Exists.intro); refine ⟨?_, rfl⟩; exact ⟨j + 1, g', cap', by omega, by go_num, rfl, HO'.out, HWB12.out, HA12.out, HB'.out⟩)
              case measure => simp [intOf]; omega
            · obtain rfl : j = 8 := by omega
              go_wp2_with fail
              go_ret
              refine ⟨_, rfl, ?_, HB10.out⟩
              have := HO10.out.words
              rw [List.take_of_length_le (by rw [HML.out]; exact Nat.le_refl _), HML.out] at this
              rw [HMX2.out]
              exact this
end Go.Proofs.YtfaeigbfnjkojaaGreatDoor.Sha
