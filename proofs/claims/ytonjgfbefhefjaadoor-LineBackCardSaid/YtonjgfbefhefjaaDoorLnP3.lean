/- Line's Parse: the walk with words. -/
import Derived.Test.YtonjgfbefhefjaaDoorLnP2
set_option linter.unusedVariables false
set_option linter.unusedSimpArgs false
namespace Go.Proofs.YtonjgfbefhefjaaDoor.Ln
open Go Go.RowKit Go.Proofs.YtonjgfbefhefjaaDoor.Ow
attribute [local go_sem] Oper.semAt_some
theorem SplitSeq_any (r : List UInt8) (w : World) :
    Calls Tryd.prog 19 #[.string (strB r), .string ⟨#[32]⟩] w fun e w' => e = .returned (.func (.func 54) #[] #[.pointer (some ⟨w.heap.size + 1, 0, none⟩), .pointer (some ⟨w.heap.size, 0, none⟩), .pointer (some ⟨w.heap.size + 2, 0, none⟩)]) ∧
      w' = ((w.alloc (.cells #[.string (strB r)] 9)).alloc (.cells #[.string ⟨#[32]⟩] 9)).alloc (.cells #[.int .i64 0] 3) := by
  have H1 : ∀ w : World, Calls Tryd.prog 36 #[.string (strB r), .string ⟨#[32]⟩, .int .i64 0] w fun e w' => e = .returned (.func (.func 54) #[] #[.pointer (some ⟨w.heap.size + 1, 0, none⟩), .pointer (some ⟨w.heap.size, 0, none⟩), .pointer (some ⟨w.heap.size + 2, 0, none⟩)]) ∧
      w' = ((w.alloc (.cells #[.string (strB r)] 9)).alloc (.cells #[.string ⟨#[32]⟩] 9)).alloc (.cells #[.int .i64 0] 3) := by
    intro w
    go_enter Tryd.func36, Tryd.ntmps36
    go_wp2
    go_ret
    exact ⟨rfl, rfl⟩
  have H2 := Lib.hid H1
  clear H1
  go_enter Tryd.func19, Tryd.ntmps19
  go_wp2_with (go_at_call 36; refine (H2.out _).mono ?_; rintro e w1 ⟨rfl, rfl⟩)
  go_ret
  exact ⟨rfl, rfl⟩
set_option maxRecDepth 100000 in
set_option maxHeartbeats 8000000 in
theorem Parse_loop (w : World) (a : Nat → Addr) (hX : Ctx w a) (S : ByteArray) (hs : S.size ≤ 2000) (w0 r : List UInt8) (hC : CutAs S w0 (strB r) true) (hsp : sp S.data.toList = w0 :: sp r) (hr : r.length ≤ 2000) (sh : List UInt8) (hsh : shp w0 = some sh) :
    Calls Tryd.prog 9 #[.string S] w (PPost a S.data.toList w) := by
  have HP := Lib.hid (show parse S.data.toList = if (sp r).length < (stem sh).length then .error 3 else match go (letters sh) (sp r) ⟨w0, [], [], []⟩ with
      | none => .error 3
      | some c => .ok c by
    rw [parse_at (by rw [Array.length_toList]; exact hs) hsp, hsh]; rfl)
  have ec : w.cell? ⟨2, 0, none⟩ = some (.iface 124 (.pointer (some (a 3)))) := hX.errs.cell 2 (by decide)
  have hgl : 2 < w.heap.size := World.block_lt_of_cell? w _ ec
  have HTW := Lib.hid (TwoAt.new w)
  have HEC := Lib.hid ec
  have HX := Lib.hid hX
  have HC := Lib.hid hC
  have HSV := Lib.hid (show shpV w0 = (sh, true) by unfold shpV; rw [hsh])
  have hshl : sh.length ≤ 1000 ∧ (stem sh).length ≤ 1000 := by
    have : ∀ r ∈ tab, r.2.length ≤ 1000 ∧ (stem r.2).length ≤ 1000 := by decide +kernel
    exact this _ (shp_mem hsh)
  have HSH := Lib.hid (show ∀ W : World, TabR W → Calls Tryd.prog 17 #[.string (strB w0)] W fun e w' => e = .returned (.tuple #[.string (strB sh), .bool true]) ∧ Below W.heap.size W w' from fun W hT => by
    have := Shape_any (strB w0) W hT
    rw [show (strB w0).data.toList = w0 from rfl, HSV.out] at this
    exact this)
  have HCS := Lib.hid (CutSuffix_any sh (by omega))
  have HSS := Lib.hid (SplitSeq_any r)
  have hsts : (strB (stem sh)).size = (stem sh).length := strB_size _
  obtain ⟨_, hstl⟩ := hshl
  have h1 : decide (2000 < (S.size : Int)) = false := by rw [decide_eq_false_iff_not]; omega
  have HLT0 := Lib.hid (lets_letters hsh)
  clear hX hC hsp hsh ec
  refine (callsIn_wide (n := 3)).1 ?_
  refine callsIn_of_wp_marks Tryd.func9 rfl trivial ?_ rfl
  simp only [Tryd.ntmps9, List.size_toArray, List.length_cons, List.length_nil, Nat.reduceAdd, Nat.reduceSub, Array.replicate_succ, Array.replicate_zero, List.push_toArray, List.append_toArray, List.nil_append, List.cons_append]
  refine wpIn_wide.2 ?_
  go_wp2_with fail
  generalize (w.alloc (.cells #[.string ⟨#[]⟩, .slice none 0 0, .slice none 0 0, .string ⟨#[]⟩] 27)).alloc (.cells #[.nilIface] 29) = X at *
  go_wp2_with (first
    | (go_at_call 16; refine (HC.out _ (HX.out.below HTW.out.2.2).maxl).mono ?_; rintro e w1 ⟨rfl, hb1⟩; skip; have HT1 := Lib.hid (HTW.out.below hb1); clear hb1)
    | (go_at_call 17; refine (HSH.out _ (HX.out.below HT1.out.2.2).tabR).mono ?_; rintro e w2 ⟨rfl, hb2⟩; skip; have HT2 := Lib.hid (HT1.out.below hb2); clear hb2)
    | (go_at_call 18; refine (HCS.out _).mono ?_; rintro e w3 ⟨rfl, rfl⟩)
    | (go_at_call 19; refine (HSS.out _).mono ?_; rintro e w4 ⟨rfl, rfl⟩))
  have HB3 := Lib.hid (show Below w2.heap.size w2 (((((((w2.alloc (.cells #[.string (strB (stem sh))] 9)).alloc (.cells #[.string (strB w0), .slice none 0 0, .slice none 0 0, .string ⟨#[]⟩] 27)).alloc (.cells #[.bool (opn sh)] 4)).alloc (.cells #[.int .i64 0] 3)).alloc (.cells #[.string (strB r)] 9)).alloc (.cells #[.string ⟨#[32]⟩] 9)).alloc (.cells #[.int .i64 0] 3)) from (((((((Below.refl _ _).alloc (Nat.le_refl _) _).alloc (by simp) _).alloc (by simp; omega) _).alloc (by simp; omega) _).alloc (by simp; omega) _).alloc (by simp; omega) _).alloc (by simp; omega) _)
  have HT3 := Lib.hid (HT2.out.below HB3.out)
  have hY7 := Lib.hid (show (((((((w2.alloc (.cells #[.string (strB (stem sh))] 9)).alloc (.cells #[.string (strB w0), .slice none 0 0, .slice none 0 0, .string ⟨#[]⟩] 27)).alloc (.cells #[.bool (opn sh)] 4)).alloc (.cells #[.int .i64 0] 3)).alloc (.cells #[.string (strB r)] 9)).alloc (.cells #[.string ⟨#[32]⟩] 9)).alloc (.cells #[.int .i64 0] 3)).heap.size = w2.heap.size + 7 by simp)
  have K0 := Lib.hid (show Rg.Blk (((((((w2.alloc (.cells #[.string (strB (stem sh))] 9)).alloc (.cells #[.string (strB w0), .slice none 0 0, .slice none 0 0, .string ⟨#[]⟩] 27)).alloc (.cells #[.bool (opn sh)] 4)).alloc (.cells #[.int .i64 0] 3)).alloc (.cells #[.string (strB r)] 9)).alloc (.cells #[.string ⟨#[32]⟩] 9)).alloc (.cells #[.int .i64 0] 3)) (w2.heap.size + 0) 9 #[.string (strB (stem sh))] from ((((((Rg.Blk.newAt (by simp) _ _).alloc _).alloc _).alloc _).alloc _).alloc _).alloc _)
  have K1 := Lib.hid (show Rg.Blk (((((((w2.alloc (.cells #[.string (strB (stem sh))] 9)).alloc (.cells #[.string (strB w0), .slice none 0 0, .slice none 0 0, .string ⟨#[]⟩] 27)).alloc (.cells #[.bool (opn sh)] 4)).alloc (.cells #[.int .i64 0] 3)).alloc (.cells #[.string (strB r)] 9)).alloc (.cells #[.string ⟨#[32]⟩] 9)).alloc (.cells #[.int .i64 0] 3)) (w2.heap.size + 1) 27 #[.string (strB w0), .slice none 0 0, .slice none 0 0, .string ⟨#[]⟩] from (((((Rg.Blk.newAt (by simp) _ _).alloc _).alloc _).alloc _).alloc _).alloc _)
  have K2 := Lib.hid (show Rg.Blk (((((((w2.alloc (.cells #[.string (strB (stem sh))] 9)).alloc (.cells #[.string (strB w0), .slice none 0 0, .slice none 0 0, .string ⟨#[]⟩] 27)).alloc (.cells #[.bool (opn sh)] 4)).alloc (.cells #[.int .i64 0] 3)).alloc (.cells #[.string (strB r)] 9)).alloc (.cells #[.string ⟨#[32]⟩] 9)).alloc (.cells #[.int .i64 0] 3)) (w2.heap.size + 2) 4 #[.bool (opn sh)] from ((((Rg.Blk.newAt (by simp) _ _).alloc _).alloc _).alloc _).alloc _)
  have K3 := Lib.hid (show Rg.Blk (((((((w2.alloc (.cells #[.string (strB (stem sh))] 9)).alloc (.cells #[.string (strB w0), .slice none 0 0, .slice none 0 0, .string ⟨#[]⟩] 27)).alloc (.cells #[.bool (opn sh)] 4)).alloc (.cells #[.int .i64 0] 3)).alloc (.cells #[.string (strB r)] 9)).alloc (.cells #[.string ⟨#[32]⟩] 9)).alloc (.cells #[.int .i64 0] 3)) (w2.heap.size + 3) 3 #[.int .i64 0] from (((Rg.Blk.newAt (by simp) _ _).alloc _).alloc _).alloc _)
  have KS := Lib.hid (show SqAt (((((((w2.alloc (.cells #[.string (strB (stem sh))] 9)).alloc (.cells #[.string (strB w0), .slice none 0 0, .slice none 0 0, .string ⟨#[]⟩] 27)).alloc (.cells #[.bool (opn sh)] 4)).alloc (.cells #[.int .i64 0] 3)).alloc (.cells #[.string (strB r)] 9)).alloc (.cells #[.string ⟨#[32]⟩] 9)).alloc (.cells #[.int .i64 0] 3)) (w2.heap.size + 5) (w2.heap.size + 4) (w2.heap.size + 6) r from ⟨(Rg.Blk.newAt (by simp) _ _).alloc _, ((Rg.Blk.newAt (by simp) _ _).alloc _).alloc _, Rg.Blk.newAt (by simp) _ _, by omega, by omega⟩)
  have hz2 := HT2.out.2.1.lt
  generalize ((((((w2.alloc (.cells #[.string (strB (stem sh))] 9)).alloc (.cells #[.string (strB w0), .slice none 0 0, .slice none 0 0, .string ⟨#[]⟩] 27)).alloc (.cells #[.bool (opn sh)] 4)).alloc (.cells #[.int .i64 0] 3)).alloc (.cells #[.string (strB r)] 9)).alloc (.cells #[.string ⟨#[32]⟩] 9)).alloc (.cells #[.int .i64 0] 3) = Y at *
  obtain ⟨z, hz⟩ : ∃ z, z = w2.heap.size := ⟨_, rfl⟩
  rw [← hz] at hY7 K0 K1 K2 K3 KS hz2 ⊢
  simp only [Nat.add_assoc, Nat.reduceAdd]
  have hI0 : LInv w z w0 sh [] Y := ⟨⟨w0, [], [], []⟩, .slice none 0 0, .slice none 0 0, ⟨by cases letters sh <;> rfl, ⟨K1.out, Owns.nil _ _ _, Owns.nil _ _ _, by omega, by rw [hY7.out]; exact Nat.le_refl _⟩, K0.out, K2.out, K3.out, HT3.out, by omega⟩⟩
  have HI0 := Lib.hid hI0
  have HZ2 := Lib.hid hz2
  clear hI0 hz2 hz
  have HLT := Lib.hid HLT0.out
  refine (wpIn_wide (n := 3)).1 ?_
  refine range_split 3 (by omega) (z + 5) (z + 4) (z + 6) r (by omega) rfl KS.out rfl (LInv w z w0 sh) (LX w z w0 sh (.iface 124 (.pointer (some (a 3))))) (LInv.abs w z w0 sh _ HT3.out.2.2.size) (LX.abs w z w0 sh _ _ HT3.out.2.2.size) HI0.out ?a1 ?assign ?body ?done ?stop
  case assign =>
    intro l x W K hK
    gi_wp2
    exact hK
  case body =>
    rintro l pre x W ⟨c, vN, vK, hi⟩ hpre
    have HI := Lib.hid hi
    have hk1 : pre.length ≤ 2001 := by
      have h1 := hpre.length_le
      rw [List.length_append] at h1
      have h2 := sp_len r
      omega
    have HNM := Lib.hid (show c.names.length ≤ 100000 ∧ c.nums.length ≤ 100000 by
      obtain ⟨ns, ks, ts, e, hrel, _⟩ := go_rel _ _ _ _ HLT.out hi.go
      obtain ⟨f1, f2, _⟩ := hrel.facts
      have g1 := List.count_le_length (a := (110 : UInt8)) (l := (letters sh).take pre.length)
      have g2 := List.count_le_length (a := (35 : UInt8)) (l := (letters sh).take pre.length)
      have g3 : ((letters sh).take pre.length).length ≤ pre.length := List.length_take_le _ _
      rw [e]
      simp only [List.nil_append]
      omega)
    have HXS := Lib.hid (show (strB x).size ≤ 1000000 by
      have h1 := sp_size r x (hpre.subset (by simp))
      rw [strB_size]; omega)
    have HTP := Lib.hid ((HX.out.below hi.two.2.2).tabP)
    have hz := hi.lo
    have c7 := hi.s.cell 0 (v := .string (strB (stem sh))) rfl
    have c10 := hi.o.cell 0 (v := .bool (opn sh)) rfl
    have c11 := hi.n.cell 0 (v := .int .i64 (pre.length : Int)) rfl
    have HPO := Lib.hid (show Rg.Blk W w.heap.size 27 ZC ∧ Rg.Blk W (w.heap.size + 1) 29 #[.nilIface] from ⟨hi.two.1, hi.two.2.1⟩)
    have HBE := Lib.hid hi.two.2.2
    have HPR := Lib.hid hpre
    clear hi hpre
    obtain ⟨k, hkd⟩ : ∃ k, k = pre.length := ⟨_, rfl⟩
    have HK := Lib.hid hkd
    rw [← hkd] at hk1 c11
    clear hkd
    have hmx : Tryd.prog.follows .mixedOrders = true := by kernel_rfl
    by_cases hlt : k < (stem sh).length
    · have hd1 : decide (k < (stem sh).length) = true := decide_eq_true hlt
      have hlt2 : k < (strB (stem sh)).size := by rw [strB_size]; exact hlt
      have HY := Lib.hid (show (letters sh)[pre.length]? = some (strB (stem sh))[k] by
        rw [← HK.out, letters_lo hlt]; exact get_list (strB (stem sh)) k hlt2)
      cases hput : put (strB (stem sh))[k] x c with
      | none =>
        have HPU := Lib.hid (put_no (S := strB x) hput HXS.out HI.out.cmd HNM.out.1 HNM.out.2 HTP.out)
        have HGN := Lib.hid (show go (letters sh) (pre ++ [x]) ⟨w0, [], [], []⟩ = none by rw [go_snoc, HI.out.go]; simp only [Option.bind_some]; rw [HY.out]; exact hput)
        clear hput
        gi_wp2_with (refine ⟨trivial, ?_⟩; refine (CallsIn.inRound l (callsIn_wide.2 HPU.out)).mono ?_; rintro e W1 ⟨rfl, hF⟩; skip; have HF := Lib.hid hF; clear hF)
        have HR1 := Lib.hid (HF.out.blk HPO.out.1 (by omega) (by omega)); have HR2 := Lib.hid (HF.out.blk HPO.out.2 (by omega) (by omega)); have HBW := Lib.hid (HBE.out.trans (HF.out.bel (by omega) (by omega)))
        have ec : W1.cell? ⟨2, 0, none⟩ = some (.iface 124 (.pointer (some (a 3)))) := (HBW.out.cell hgl).trans HEC.out
        have hg1 : ¬ 2 = w.heap.size := by omega
        have hg2 : ¬ w.heap.size = 2 := by omega
        have z0 := HR1.out.cell 0 (v := .string ⟨#[]⟩) rfl; have z1 := HR1.out.cell 1 (v := .slice none 0 0) rfl; have z2 := HR1.out.cell 2 (v := .slice none 0 0) rfl; have z3 := HR1.out.cell 3 (v := .string ⟨#[]⟩) rfl
        have f0 := HR1.out.frozen 0; have f1 := HR1.out.frozen 1; have f2 := HR1.out.frozen 2; have f3 := HR1.out.frozen 3
        have y0 := HR2.out.cell 0 (v := .nilIface) rfl; have g0 := HR2.out.frozen 0
        gi_region_with_o (fail)
        all_goals gi_wp2
        all_goals
          have HW := errw (ev := .iface 124 (.pointer (some (a 3)))) HR1.out HR2.out HBW.out
          exact ⟨(HF.out.from _).trans (HW.1.from _), ⟨HGN.out, HW.2.1, HW.2.2.1, HW.2.2.2, hz⟩⟩
      | some d =>
        have HPU := Lib.hid (put_yes (S := strB x) hput HXS.out HI.out.cmd HNM.out.1 HNM.out.2 HTP.out)
        have HPT := Lib.hid hput
        clear hput
        gi_wp2_with (refine ⟨trivial, ?_⟩; refine (CallsIn.inRound l (callsIn_wide.2 HPU.out)).mono ?_; rintro e W1 ⟨rfl, hF, vN', vK', hd'⟩; skip; have HF := Lib.hid hF; have HD := Lib.hid hd'; have hN1 := HF.out.blk HI.out.n (by omega) (by omega); have d11 := hN1.cell 0 (v := .int .i64 (pre.length : Int)) rfl; rw [← HK.out] at d11; have e11 := hN1.frozen 0; clear hF hd' hN1)
        exact ⟨(HF.out.from _).trans ((KeepsOthers.setCell _ _ _).from _), kp_set (kp_frm HF.out), HI.out.next HY.out HPT.out HF.out HD.out (by rw [List.length_append, ← HK.out]; simp)⟩
    · have hd1 : decide (k < (stem sh).length) = false := decide_eq_false hlt
      cases ho : opn sh
      · have HY := Lib.hid (show (letters sh)[pre.length]? = none from letters_hi (by rw [← HK.out]; exact hlt) (.inl ho))
        rw [ho] at c10
        have HR1 := Lib.hid HPO.out.1; have HR2 := Lib.hid HPO.out.2
        have HGN := Lib.hid (show go (letters sh) (pre ++ [x]) ⟨w0, [], [], []⟩ = none by rw [go_snoc, HI.out.go]; simp only [Option.bind_some]; rw [HY.out]; rfl)
        gi_wp2
        have ec : W.cell? ⟨2, 0, none⟩ = some (.iface 124 (.pointer (some (a 3)))) := (HBE.out.cell hgl).trans HEC.out
        have hg1 : ¬ 2 = w.heap.size := by omega
        have hg2 : ¬ w.heap.size = 2 := by omega
        have z0 := HR1.out.cell 0 (v := .string ⟨#[]⟩) rfl; have z1 := HR1.out.cell 1 (v := .slice none 0 0) rfl; have z2 := HR1.out.cell 2 (v := .slice none 0 0) rfl; have z3 := HR1.out.cell 3 (v := .string ⟨#[]⟩) rfl
        have f0 := HR1.out.frozen 0; have f1 := HR1.out.frozen 1; have f2 := HR1.out.frozen 2; have f3 := HR1.out.frozen 3
        have y0 := HR2.out.cell 0 (v := .nilIface) rfl; have g0 := HR2.out.frozen 0
        gi_region_with_o (fail)
        all_goals gi_wp2
        all_goals
          have HW := errw (ev := .iface 124 (.pointer (some (a 3)))) HR1.out HR2.out HBE.out
          exact ⟨HW.1.from _, ⟨HGN.out, HW.2.1, HW.2.2.1, HW.2.2.2, hz⟩⟩
      · rw [ho] at c10
        by_cases h16 : (stem sh).length + 16 ≤ k
        · have HY := Lib.hid (show (letters sh)[pre.length]? = none from letters_hi (by rw [← HK.out]; exact hlt) (.inr (by rw [← HK.out]; exact h16)))
          have hd2 : decide ((stem sh).length + 16 ≤ k) = true := decide_eq_true h16
          have hd3 : decide (((stem sh).length : Int) + 16 ≤ (k : Int)) = true := by rw [decide_eq_true_iff]; omega
          have HR1 := Lib.hid HPO.out.1; have HR2 := Lib.hid HPO.out.2
          have HGN := Lib.hid (show go (letters sh) (pre ++ [x]) ⟨w0, [], [], []⟩ = none by rw [go_snoc, HI.out.go]; simp only [Option.bind_some]; rw [HY.out]; rfl)
          gi_wp2
          have ec : W.cell? ⟨2, 0, none⟩ = some (.iface 124 (.pointer (some (a 3)))) := (HBE.out.cell hgl).trans HEC.out
          have hg1 : ¬ 2 = w.heap.size := by omega
          have hg2 : ¬ w.heap.size = 2 := by omega
          have z0 := HR1.out.cell 0 (v := .string ⟨#[]⟩) rfl; have z1 := HR1.out.cell 1 (v := .slice none 0 0) rfl; have z2 := HR1.out.cell 2 (v := .slice none 0 0) rfl; have z3 := HR1.out.cell 3 (v := .string ⟨#[]⟩) rfl
          have f0 := HR1.out.frozen 0; have f1 := HR1.out.frozen 1; have f2 := HR1.out.frozen 2; have f3 := HR1.out.frozen 3
          have y0 := HR2.out.cell 0 (v := .nilIface) rfl; have g0 := HR2.out.frozen 0
          gi_region_with_o (fail)
          all_goals gi_wp2
          all_goals
            have HW := errw (ev := .iface 124 (.pointer (some (a 3)))) HR1.out HR2.out HBE.out
            exact ⟨HW.1.from _, ⟨HGN.out, HW.2.1, HW.2.2.1, HW.2.2.2, hz⟩⟩
        · have HY := Lib.hid (show (letters sh)[pre.length]? = some 110 from letters_mid (by rw [← HK.out]; exact hlt) ho (by rw [← HK.out]; omega))
          have hd2 : decide ((stem sh).length + 16 ≤ k) = false := decide_eq_false h16
          have hd3 : decide (((stem sh).length : Int) + 16 ≤ (k : Int)) = false := by rw [decide_eq_false_iff_not]; omega
          cases hput : put 110 x c with
          | none =>
            have HPU := Lib.hid (show Calls Tryd.prog 20 #[.pointer (some ⟨z + 1, 0, none⟩), .int .u8 110, .string (strB x)] W fun e w' => e = .returned (.bool false) ∧ Frm (z + 7) (z + 1) W w' from put_no (S := strB x) (x := 110) hput HXS.out HI.out.cmd HNM.out.1 HNM.out.2 HTP.out)
            have HGN := Lib.hid (show go (letters sh) (pre ++ [x]) ⟨w0, [], [], []⟩ = none by rw [go_snoc, HI.out.go]; simp only [Option.bind_some]; rw [HY.out]; exact hput)
            clear hput
            gi_wp2_with (refine ⟨trivial, ?_⟩; refine (CallsIn.inRound l (callsIn_wide.2 HPU.out)).mono ?_; rintro e W1 ⟨rfl, hF⟩; skip; have HF := Lib.hid hF; clear hF)
            have HR1 := Lib.hid (HF.out.blk HPO.out.1 (by omega) (by omega)); have HR2 := Lib.hid (HF.out.blk HPO.out.2 (by omega) (by omega)); have HBW := Lib.hid (HBE.out.trans (HF.out.bel (by omega) (by omega)))
            have ec : W1.cell? ⟨2, 0, none⟩ = some (.iface 124 (.pointer (some (a 3)))) := (HBW.out.cell hgl).trans HEC.out
            have hg1 : ¬ 2 = w.heap.size := by omega
            have hg2 : ¬ w.heap.size = 2 := by omega
            have z0 := HR1.out.cell 0 (v := .string ⟨#[]⟩) rfl; have z1 := HR1.out.cell 1 (v := .slice none 0 0) rfl; have z2 := HR1.out.cell 2 (v := .slice none 0 0) rfl; have z3 := HR1.out.cell 3 (v := .string ⟨#[]⟩) rfl
            have f0 := HR1.out.frozen 0; have f1 := HR1.out.frozen 1; have f2 := HR1.out.frozen 2; have f3 := HR1.out.frozen 3
            have y0 := HR2.out.cell 0 (v := .nilIface) rfl; have g0 := HR2.out.frozen 0
            gi_region_with_o (fail)
            all_goals gi_wp2
            all_goals
              have HW := errw (ev := .iface 124 (.pointer (some (a 3)))) HR1.out HR2.out HBW.out
              exact ⟨(HF.out.from _).trans (HW.1.from _), ⟨HGN.out, HW.2.1, HW.2.2.1, HW.2.2.2, hz⟩⟩
          | some d =>
            have HPU := Lib.hid (show Calls Tryd.prog 20 #[.pointer (some ⟨z + 1, 0, none⟩), .int .u8 110, .string (strB x)] W fun e w' => e = .returned (.bool true) ∧ Frm (z + 7) (z + 1) W w' ∧ ∃ vN vK, CmdAt w' (z + 7) (z + 1) d vN vK from put_yes (S := strB x) (x := 110) hput HXS.out HI.out.cmd HNM.out.1 HNM.out.2 HTP.out)
            have HPT := Lib.hid hput
            clear hput
            gi_wp2_with (refine ⟨trivial, ?_⟩; refine (CallsIn.inRound l (callsIn_wide.2 HPU.out)).mono ?_; rintro e W1 ⟨rfl, hF, vN', vK', hd'⟩; skip; have HF := Lib.hid hF; have HD := Lib.hid hd'; have hN1 := HF.out.blk HI.out.n (by omega) (by omega); have d11 := hN1.cell 0 (v := .int .i64 (pre.length : Int)) rfl; rw [← HK.out] at d11; have e11 := hN1.frozen 0; clear hF hd' hN1)
            exact ⟨(HF.out.from _).trans ((KeepsOthers.setCell _ _ _).from _), kp_set (kp_frm HF.out), HI.out.next HY.out HPT.out HF.out HD.out (by rw [List.length_append, ← HK.out]; simp)⟩
  case done =>
    rintro D W hD ⟨c, vN, vK, hi⟩ hK
    have hz := hi.lo
    have c7 := hi.s.cell 0 (v := .string (strB (stem sh))) rfl
    have c11 := hi.n.cell 0 (v := .int .i64 ((sp r).length : Int)) rfl
    have HI := Lib.hid hi
    have HD := Lib.hid hK
    have hsl := sp_len r
    clear hi hK
    by_cases hlt : (sp r).length < (stem sh).length
    · have hd : decide ((sp r).length < (stem sh).length) = true := decide_eq_true hlt
      have HQ := Lib.hid (show parse S.data.toList = .error 3 by rw [HP.out, if_pos hlt])
      clear hlt
      go_wp2
      have ec : W.cell? ⟨2, 0, none⟩ = some (.iface 124 (.pointer (some (a 3)))) := (HI.out.two.2.2.cell hgl).trans HEC.out
      have hg1 : ¬ 2 = w.heap.size := by omega
      have hg2 : ¬ w.heap.size = 2 := by omega
      have HR1 := Lib.hid HI.out.two.1; have HR2 := Lib.hid HI.out.two.2.1
      have z0 := HR1.out.cell 0 (v := .string ⟨#[]⟩) rfl; have z1 := HR1.out.cell 1 (v := .slice none 0 0) rfl; have z2 := HR1.out.cell 2 (v := .slice none 0 0) rfl; have z3 := HR1.out.cell 3 (v := .string ⟨#[]⟩) rfl
      have f0 := HR1.out.frozen 0; have f1 := HR1.out.frozen 1; have f2 := HR1.out.frozen 2; have f3 := HR1.out.frozen 3
      have y0 := HR2.out.cell 0 (v := .nilIface) rfl; have g0 := HR2.out.frozen 0
      go_region
      all_goals go_wp2
      all_goals
        have HW := errw (ev := .iface 124 (.pointer (some (a 3)))) HR1.out HR2.out HI.out.two.2.2
        have hK := HW.1.same D _ HD.out rfl
        revert HW hK
        clear z0 z1 z2 z3 f0 f1 f2 f3 y0 g0 ec
        generalize (((((W.setCell ⟨w.heap.size, 0, none⟩ (.string ⟨#[]⟩)).setCell ⟨w.heap.size, 1, none⟩ (.slice none 0 0)).setCell ⟨w.heap.size, 2, none⟩ (.slice none 0 0)).setCell ⟨w.heap.size, 3, none⟩ (.string ⟨#[]⟩)).setCell ⟨w.heap.size + 1, 0, none⟩ (.iface 124 (.pointer (some (a 3))))).drew = W4
        intro HW hK
        refine ⟨by simp, .inl ⟨_, _, rfl, run_takeDeferred hK, ?_⟩⟩
        have kp : ∀ {b j : Nat} {v : Value}, W4.cell? ⟨b, j, none⟩ = some v → (W4.putObj D (.deferred none)).cell? ⟨b, j, none⟩ = some v := fun h => cell_kept h (grownBy_putObj' _ D (.deferred none)) (fun r e => by cases e; exact ⟨_, hK, rfl⟩)
        have z0 := kp (HW.2.1.cell 0 (v := .string ⟨#[]⟩) rfl); have z1 := kp (HW.2.1.cell 1 (v := .slice none 0 0) rfl); have z2 := kp (HW.2.1.cell 2 (v := .slice none 0 0) rfl); have z3 := kp (HW.2.1.cell 3 (v := .string ⟨#[]⟩) rfl)
        have y0 := kp (HW.2.2.1.cell 0 (v := .iface 124 (.pointer (some (a 3)))) rfl)
        have HB := Lib.hid (show Below w.heap.size w (W4.putObj D (.deferred none)) from HW.2.2.2.trans (belowK_b (w := Y) HT3.out.2.2.size W4 D _ _ hD hK rfl rfl))
        clear HW hK
        exact ⟨.tuple #[.agg #[.string ⟨#[]⟩, .slice none 0 0, .slice none 0 0, .string ⟨#[]⟩], .iface 124 (.pointer (some (a 3)))], by simp [results, Tryd.results9, go_sem, z0, z1, z2, z3, y0], .inl ⟨3, HQ.out, rfl, by decide, HB.out⟩⟩
    · have hd : decide ((sp r).length < (stem sh).length) = false := decide_eq_false hlt
      have HQ := Lib.hid (show parse S.data.toList = .ok c by rw [HP.out, if_neg hlt, HI.out.go])
      clear hlt
      obtain ⟨A1, k1, hv1, _, _⟩ := HI.out.cmd.names.form
      obtain ⟨A2, k2, hv2, _, _⟩ := HI.out.cmd.nums.form
      rw [List.length_map] at hv1 hv2
      subst hv1 hv2
      have HR1 := Lib.hid HI.out.two.1; have HR2 := Lib.hid HI.out.two.2.1
      have x0 := HI.out.cmd.blk.cell 0 (v := .string (strB c.word)) rfl; have x1 := HI.out.cmd.blk.cell 1 (v := .slice A1 c.names.length k1) rfl; have x2 := HI.out.cmd.blk.cell 2 (v := .slice A2 c.nums.length k2) rfl; have x3 := HI.out.cmd.blk.cell 3 (v := .string (strB c.text)) rfl
      have z0 := HR1.out.cell 0 (v := .string ⟨#[]⟩) rfl; have z1 := HR1.out.cell 1 (v := .slice none 0 0) rfl; have z2 := HR1.out.cell 2 (v := .slice none 0 0) rfl; have z3 := HR1.out.cell 3 (v := .string ⟨#[]⟩) rfl
      have f0 := HR1.out.frozen 0; have f1 := HR1.out.frozen 1; have f2 := HR1.out.frozen 2; have f3 := HR1.out.frozen 3
      have y0 := HR2.out.cell 0 (v := .nilIface) rfl; have g0 := HR2.out.frozen 0
      go_wp2
      obtain ⟨W4, hW4⟩ : ∃ W4, W4 = ((((W.setCell ⟨w.heap.size, 0, none⟩ (.string (strB c.word))).setCell ⟨w.heap.size, 1, none⟩ (.slice A1 c.names.length k1)).setCell ⟨w.heap.size, 2, none⟩ (.slice A2 c.nums.length k2)).setCell ⟨w.heap.size, 3, none⟩ (.string (strB c.text))).setCell ⟨w.heap.size + 1, 0, none⟩ .nilIface := ⟨_, rfl⟩
      rw [← hW4]
      have HW := okw HR1.out HR2.out HI.out.two.2.2 HI.out.cmd.names HI.out.cmd.nums (by omega) W4 hW4
      have hK := HW.1.same D _ HD.out rfl
      clear hW4 z0 z1 z2 z3 f0 f1 f2 f3 y0 g0 x0 x1 x2 x3
      refine ⟨by simp, .inl ⟨_, _, rfl, run_takeDeferred hK, ?_⟩⟩
      have kp : ∀ {b j : Nat} {v : Value}, W4.cell? ⟨b, j, none⟩ = some v → (W4.putObj D (.deferred none)).cell? ⟨b, j, none⟩ = some v := fun h => cell_kept h (grownBy_putObj' _ D (.deferred none)) (fun r e => by cases e; exact ⟨_, hK, rfl⟩)
      have z0 := kp (HW.2.1.cell 0 (v := .string (strB c.word)) rfl); have z1 := kp (HW.2.1.cell 1 (v := .slice A1 c.names.length k1) rfl); have z2 := kp (HW.2.1.cell 2 (v := .slice A2 c.nums.length k2) rfl); have z3 := kp (HW.2.1.cell 3 (v := .string (strB c.text)) rfl)
      have y0 := kp (HW.2.2.1.cell 0 (v := .nilIface) rfl)
      have hrow : ∀ r, some D = some r → r = w.heap.size ∨ (Y.heap.size ≤ r ∧ ∃ o : Obj, W4.heap[r]? = some o ∧ o.isCells = false) := fun r e => by cases e; exact .inr ⟨hD, _, hK, rfl⟩
      have HO1 := Lib.hid (owns_mono (owns_abs HW.2.2.2.2.1 (grownBy_putObj' _ D (.deferred none)) hrow (by omega)) (C := w.heap.size) (by omega))
      have HO2 := Lib.hid (owns_mono (owns_abs HW.2.2.2.2.2 (grownBy_putObj' _ D (.deferred none)) hrow (by omega)) (C := w.heap.size) (by omega))
      have HB := Lib.hid (show Below w.heap.size w (W4.putObj D (.deferred none)) from HW.2.2.2.1.trans (belowK_b (w := Y) HT3.out.2.2.size W4 D _ _ hD hK rfl rfl))
      clear HW hK
      exact ⟨.tuple #[.agg #[.string (strB c.word), .slice A1 c.names.length k1, .slice A2 c.nums.length k2, .string (strB c.text)], .nilIface], by simp [results, Tryd.results9, go_sem, z0, z1, z2, z3, y0], .inr ⟨c, _, _, HQ.out, rfl, ⟨HO1.out, HO2.out⟩, HB.out⟩⟩
  case stop =>
    intro D pre W hD hpre hx hK
    have HQ := Lib.hid (show parse S.data.toList = .error 3 by
      rw [HP.out, go_none hx.go hpre]
      split <;> rfl)
    refine wpIn_wide.2 ?_
    go_wp2
    refine ⟨by simp, .inl ⟨_, _, rfl, run_takeDeferred hK, ?_⟩⟩
    have kp : ∀ {b j : Nat} {v : Value}, W.cell? ⟨b, j, none⟩ = some v → (W.putObj D (.deferred none)).cell? ⟨b, j, none⟩ = some v := fun h => cell_kept h (grownBy_putObj' _ D (.deferred none)) (fun r e => by cases e; exact ⟨_, hK, rfl⟩)
    have z0 := kp (hx.r.cell 0 (v := .string ⟨#[]⟩) rfl); have z1 := kp (hx.r.cell 1 (v := .slice none 0 0) rfl); have z2 := kp (hx.r.cell 2 (v := .slice none 0 0) rfl); have z3 := kp (hx.r.cell 3 (v := .string ⟨#[]⟩) rfl)
    have y0 := kp (hx.e.cell 0 (v := .iface 124 (.pointer (some (a 3)))) rfl)
    have HB := Lib.hid (show Below w.heap.size w (W.putObj D (.deferred none)) from hx.b.trans (belowK_b (w := Y) HT3.out.2.2.size W D _ _ hD hK rfl rfl))
    clear hx hK
    exact ⟨.tuple #[.agg #[.string ⟨#[]⟩, .slice none 0 0, .slice none 0 0, .string ⟨#[]⟩], .iface 124 (.pointer (some (a 3)))], by simp [results, Tryd.results9, go_sem, z0, z1, z2, z3, y0], .inl ⟨3, HQ.out, rfl, by decide, HB.out⟩⟩
end Go.Proofs.YtonjgfbefhefjaaDoor.Ln
