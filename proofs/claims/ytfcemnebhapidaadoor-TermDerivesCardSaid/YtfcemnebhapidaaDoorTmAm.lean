/- The reference's All. -/
import Derived.Test.YtfcemnebhapidaaDoorTmAl
set_option linter.unusedVariables false
set_option linter.unusedSimpArgs false
namespace Go.Proofs.YtfcemnebhapidaaDoor.Te
open Go.RowKit Go.Proofs.YtfcemnebhapidaaDoor.Ow Go.Proofs.YtfcemnebhapidaaDoor.Mp Go.Maps
theorem pt_txt (a : Tm) : (⟨#[112, 111, 105, 110, 116, 40]⟩ : ByteArray) ++ strB a.txt ++ ⟨#[41]⟩ = strB (Tm.one 1 a).txt := by
  rw [show (⟨#[112, 111, 105, 110, 116, 40]⟩ : ByteArray) = strB [112, 111, 105, 110, 116, 40] from rfl, show (⟨#[41]⟩ : ByteArray) = strB [41] from rfl, strB_append, strB_append]
  simp [Tm.txt, word]
theorem sh_knd {t : Tm} (h : t.wf) : ((strB t.knd).toList == [115, 104, 97, 114, 101]) = true ∧ (∃ a b, t = .two 4 a b) ∨ ((strB t.knd).toList == [115, 104, 97, 114, 101]) = false ∧ exp t = t.prt := by
  have hne : ∀ k, k < 7 → k ≠ 4 → ((strB (word k)).toList == [115, 104, 97, 114, 101]) = false := fun k hk h4 => by
    rw [strB_toList, beq_eq_false_iff_ne]; exact (word_ne2 hk).1 h4
  cases t with
  | atom s => right; exact ⟨by show ((strB atomW).toList == _) = false; rw [strB_toList]; rfl, rfl⟩
  | one k a => right; exact ⟨hne k (by have := h.1; omega) (by have := h.1; omega), rfl⟩
  | two k a b =>
    by_cases h4 : k = 4
    · subst h4
      left
      exact ⟨by show ((strB (word 4)).toList == _) = true; rw [strB_toList]; rfl, a, b, rfl⟩
    · right
      exact ⟨hne k h.2.1 h4, by simp [exp, Tm.prt, h4]⟩
theorem prt_le (t : Tm) : t.prt.length ≤ 2 := by cases t <;> simp [Tm.prt]
theorem QS.start {w X W : World} {v2 : Value} {L : List Tm} (hX : X = w.alloc (.cells #[] 9)) (ho : Owns W w.heap.size 9 v2 (txts L)) (hg : (X.alloc (.cells #[] 9)).grownBy W (some X.heap.size)) (hat : v2.ownBlock = some X.heap.size ∨ ∃ g, v2.ownBlock = some g ∧ (X.alloc (.cells #[] 9)).heap.size ≤ g) : QS w W (.slice (some ⟨w.heap.size, 0, none⟩) 0 0) v2 [] L := by
  subst hX
  have h1 : Owns (w.alloc (.cells #[] 9)) w.heap.size 9 (.slice (some ⟨w.heap.size, 0, none⟩) 0 0) [] := Owns.new w w.heap.size 9 [] (Nat.le_refl _) (by decide)
  have hs : (w.alloc (.cells #[] 9)).heap.size = w.heap.size + 1 := World.size_alloc _ _
  have hbl : Below w.heap.size w ((w.alloc (.cells #[] 9)).alloc (.cells #[] 9)) := ((Below.refl _ _).alloc (Nat.le_refl _) _).alloc (by rw [hs]; omega) _
  refine ⟨(h1.alloc _).kept hg (.inr (fun e => by have e := Option.some.inj e; simp at e)), .of ho, Below.grown hbl hg hbl.size (fun k hk => by cases hk; rw [hs]; omega), fun g h2 h3 => ?_⟩
  have h2 := Option.some.inj h2
  rcases hat with h4 | ⟨g', h4, h5⟩
  · rw [h4] at h3; have := Option.some.inj h3; rw [hs] at this; simp at h2; omega
  · rw [h4] at h3; have := Option.some.inj h3; rw [World.size_alloc, hs] at h5; simp at h2; omega
theorem rd_off {w w' : World} {b o : Nat} {xs : List Value} {g : Option Nat} (h : Rd w (some ⟨b, o, none⟩) xs) (hg : w.grownBy w' g) (hn : g ≠ some b) : Rd w' (some ⟨b, o, none⟩) xs := fun j x hx => by
  obtain ⟨b', o', e, h1, h2⟩ := h j x hx
  injection e with e
  injection e with e1 e2
  subst e1 e2
  refine ⟨b, o, rfl, Nat.lt_of_lt_of_le h1 hg.size, ?_⟩
  have := hg.block b h1 (fun e => hn e.symm)
  unfold World.cell? at h2 ⊢
  simp only [this]
  exact h2
set_option maxRecDepth 20000 in
set_option maxHeartbeats 8000000 in
theorem RAll_any (w : World) (A : Option Addr) (n c : Nat) (L : List Tm) (hn : L.length = n) (hR : Rd w A (txts L)) (hL : ∀ t ∈ L, t.wf ∧ t.txt.length ≤ 100) (hl : n ≤ 20) :
    Calls Tryd.prog 48 #[.slice A n c] w fun e w' => ∃ v M, e = .returned v ∧ Owns w' w.heap.size 9 v (txts M) ∧ M.Nodup ∧ (∀ t ∈ M, t.wf ∧ t.txt.length ≤ 200) ∧ (∀ t ∈ L, t ∈ M) ∧ Clo M ∧ M.length ≤ 4000 ∧ Below w.heap.size w w' := by
  have HR := Lib.hid hR
  have HU := Lib.hid (uni_fit hL)
  have HUL := Lib.hid (uni_len hL (by omega))
  have HLn := Lib.hid (show (txts L).length = n by rw [txts_len]; exact hn)
  have HBF := Lib.hid (Bf.start (L := L) (by omega))
  have HNB := Lib.hid (show (([] : List Value).length + n) * 16 ≤ 140737488355328 by simp; omega)
  have HL0 := Lib.hid (show L.length ≤ 20 by omega)
  clear hR hL hn
  go_enter Tryd.func48, Tryd.ntmps48
  go_upto_region 2 with fail
  refine wp_name (fun X hX => ?_)
  have HX := Lib.hid hX
  have HXB := Lib.hid (show Below w.heap.size w X from hX ▸ (Below.refl _ _).alloc (Nat.le_refl _) _)
  clear hX
  have HO9 := Lib.hid (Owns.new X w.heap.size 9 [] HXB.out.size (by decide))
  have HR9 := Lib.hid (show Rd (X.alloc (.cells #[] 9)) A (txts L) from (HR.out.below HXB.out).below ((Below.refl _ _).alloc (Nat.le_refl _) _))
  rw [show ([] : List Value).toArray = #[] from rfl] at HO9
  go_wp2_with (refine app rfl _ _ 22 rfl Tryd.underlying22 infoS rfl (by decide) HO9.out rfl rfl HLn.out HR9.out (by intro u hu; obtain ⟨s, rfl⟩ := txts_str _ u hu; rfl) HNB.out (by have := HXB.out.size; simp; omega) ?_; intro v2 w2 h2 h3 h4; rw [List.nil_append] at h2; skip; have HQ := Lib.hid (QS.start HX.out h2 h3 (by rcases h4 with h4 | h4; exact .inl h4; exact .inr ⟨_, h4, Nat.le_refl _⟩)); clear h2 h3 h4)
  clear HO9 HR9 HXB HX HR
  go_loopg [3, 4] 20022 (fun k v q wr => ∃ O Q, QS w wr v q O Q ∧ Bf L O Q ∧ 5 * (4000 - O.length) + Q.length < k)
  case atStart => exact ⟨[], L, HQ.out, HBF.out, by have := HL0.out; simp; omega⟩
  case round =>
    obtain ⟨O, Q, hq, hb, hk⟩ := hrel
    clear HQ HBF
    have HQ := Lib.hid hq
    have HBF := Lib.hid hb
    have HKM := Lib.hid hk
    have HOL := Lib.hid (show O.length ≤ 4000 from Nat.le_trans hb.len HUL.out)
    have HQL := Lib.hid hb.ql
    clear hq hb hk
    cases Q with
    | nil =>
      obtain ⟨Aq, cq, hqf, _, _⟩ := HQ.out.qq.form
      have HQF := Lib.hid hqf
      rw [hqf]
      clear hqf
      rw [show (txts []).length = 0 from rfl]
      go_wp2
      go_ret
      exact ⟨_, O, rfl, HQ.out.o, HBF.out.nd, fun t ht => HU.out t (HBF.out.ou t ht), HBF.out.fin.2, HBF.out.fin.1, HOL.out, HQ.out.bel⟩
    | cons t Q =>
      obtain ⟨q', hq1, hq2, hsl⟩ := slice_tail 22 9 Tryd.underlying22 (by kernel_rfl) (show OwnQ wr w.heap.size 9 _ (encStr t.txt :: txts Q) from by have := HQ.out.qq; rw [txts_cons] at this; exact this)
      have HQT := Lib.hid (HQ.out.tail hq1 hq2)
      obtain ⟨Aq, cq, hqf, hqr, _⟩ := HQ.out.qq.form
      obtain ⟨bq, oq, rfl, -, -⟩ := hqr.place (by rw [txts_cons]; simp)
      have c0 : wr.cell? ⟨bq, oq, none⟩ = some (.string (strB t.txt)) := rd_at hqr (j := 0) rfl
      obtain ⟨nq, hnq⟩ : ∃ nq, (txts (t :: Q)).length = nq := ⟨_, rfl⟩
      have hnq1 : nq = Q.length + 1 := by rw [← hnq, txts_len]; rfl
      have HNQ := Lib.hid hnq1
      rw [hnq] at hqf
      rw [hqf] at hsl ⊢
      have hsl1 := hsl wr
      have hdq : decide (0 < nq) = true := by simp; omega
      have hdqi : (0 : Int) < nq := by omega
      have HTU := Lib.hid (HU.out t (HBF.out.qu t (by simp)))
      obtain ⟨Ao, co, hof, hor, _⟩ := HQT.out.o.form
      obtain ⟨no, hno⟩ : ∃ no, (txts O).length = no := ⟨_, rfl⟩
      have HNO := Lib.hid (show (O.map Tm.txt).length = no from by rw [List.length_map, ← hno, txts_len])
      rw [hno] at hof
      have HOR := Lib.hid (show Rd wr Ao ((O.map Tm.txt).map encStr) from hor)
      have HOF := Lib.hid hof
      rw [hof]
      have HNOL := Lib.hid (show no ≤ 4000 from by rw [← hno, txts_len]; exact HOL.out)
      have HIX := Lib.hid (idx_txt (M := O) (t := t) (fun u hu => (HU.out u (HBF.out.ou u hu)).1) HTU.out.1)
      have HAT := Lib.hid (RAt_any wr Ao no co (O.map Tm.txt) t.txt HNO.out HOR.out (by have := HNOL.out; omega))
      rw [hof] at HQT
      clear hq1 hq2 hqr hnq hnq1 hsl hof hor hno HQ hqf
      have HQ := HQT
      clear HQT
      by_cases hto : t ∈ O
      · rw [HIX.out, if_pos hto] at HAT
        have HTO := Lib.hid hto
        obtain ⟨p, hp⟩ : ∃ p, pos O t = p := ⟨_, rfl⟩
        rw [hp] at HAT
        have hdp : decide ((0 : Int) ≤ (p : Int)) = true := by simp
        clear hto hp
        go_wp2_with (go_at_call 37; refine HAT.out.mono ?_; rintro e w3 ⟨rfl, rfl⟩; skip)
        go_roundg (5 * (4000 - O.length) + Q.length + 1)
        case measure => have := HKM.out; simp at this; omega
        case rel => exact ⟨O, Q, HQ.out, HBF.out.skip HTO.out, by omega⟩
      · rw [HIX.out, if_neg hto] at HAT
        have HTO := Lib.hid hto
        have HB2 := Lib.hid (HBF.out.take hto)
        have HSP := Lib.hid (Split_txt t HTU.out.1 (by have := HTU.out.2; omega))
        have HTL := Lib.hid (show ((txts O).length + 1) * 16 ≤ 140737488355328 by rw [txts_len]; have := HOL.out; omega)
        have HTQ := Lib.hid (show ((txts Q).length + t.prt.length) * 16 ≤ 140737488355328 by rw [txts_len]; have h1 := HQL.out; have h2 := HOL.out; have h3 := prt_le t; simp at h1; omega)
        have HPL := Lib.hid (show ((t.prt.map Tm.txt).map encStr).length = t.prt.length by rw [List.length_map, List.length_map])
        obtain ⟨np, hnp⟩ : ∃ np, t.prt.length = np := ⟨_, rfl⟩
        rw [hnp] at HPL HTQ
        have HNP := Lib.hid hnp
        clear hto hnp
        go_upto_region 10 with (first
          | (go_at_call 37; refine HAT.out.mono ?_; rintro e w3 ⟨rfl, rfl⟩; skip)
          | (refine app1 rfl _ _ 22 rfl (E := 9) (z := .string ⟨#[]⟩) (by' := 16) rfl rfl rfl (by decide) HQ.out.o rfl rfl rfl HTL.out HQ.out.bel.size ?_; intro v4 w4 h2 h3 h4; rw [txts_snoc] at h2; skip; have HQx := Lib.hid (HQ.out.addO h2 h3 (by rcases h4 with h4 | h4; exact .inl h4; exact .inr ⟨_, h4, Nat.le_succ _⟩)); clear h2 h3 h4 HQ; have HQ := HQx; clear HQx)
          | (go_at_call 18; refine (HSP.out _).mono ?_; rintro e w5 ⟨v5, rfl, ho, hb⟩; obtain ⟨A5, c5, hv5, hr5, _⟩ := id ho.form; subst hv5; rw [HPL.out]; skip; have HSO := Lib.hid ho; have HR7 := Lib.hid hr5; have HW4 := Lib.hid (show ∀ g, q'.ownBlock = some g → g < w4.heap.size from fun g hg => (HQ.out.qq.lt g hg).2); have HQy := Lib.hid (HQ.out.below hb); clear HQ; have HQ := HQy; clear HQy; clear ho hr5 hb)
          | (refine appQ rfl _ _ 22 rfl Tryd.underlying22 infoS rfl (by decide) HQ.out.qq rfl rfl HPL.out HR7.out (by intro u hu; obtain ⟨s, _, rfl⟩ := List.mem_map.1 hu; rfl) HTQ.out HQ.out.bel.size ?_; intro v6 w6 h2 h3 h4; rw [show (t.prt.map Tm.txt).map encStr = txts t.prt from rfl, txts_app] at h2; skip; have HQ7 := Lib.hid h3; have HA7 := Lib.hid h4; have HQx := Lib.hid (HQ.out.addQ h2 h3 (by rcases h4 with h4 | h4; exact .inl h4; exact .inr ⟨_, h4, Nat.le_refl _⟩)); clear h2 h3 h4 HQ; have HQ := HQx; clear HQx))
        clear c0 hsl1
        rcases sh_knd HTU.out.1 with ⟨hsh, a, b, rfl⟩ | ⟨hsh, hex⟩
        · obtain rfl : np = 2 := HNP.out.symm
          have hsa : (strB a.txt).size ≤ 1000 := by rw [strB_size]; have := HTU.out.2; simp [Tm.txt] at this; omega
          have hsb : (strB b.txt).size ≤ 1000 := by rw [strB_size]; have := HTU.out.2; simp [Tm.txt] at this; omega
          obtain ⟨b7, o7, rfl, -, -⟩ := HR7.out.place (by simp [Tm.prt])
          have HB7 := Lib.hid (show v6.ownBlock ≠ some b7 from by
            have h1 := HSO.out.lt b7 rfl
            intro e
            rcases HA7.out with h2 | h2
            · rw [h2] at e; have := HW4.out b7 e; omega
            · rw [h2] at e; have := Option.some.inj e; omega)
          have HR8 := Lib.hid (show Rd w6 (some ⟨b7, o7, none⟩) ([a.txt, b.txt].map encStr) from rd_off HR7.out HQ7.out (by intro e; have h1 := HSO.out.lt b7 rfl; have := HW4.out b7 e; omega))
          clear HR7
          have HR7 := HR8
          have HTL2 := Lib.hid (show ((txts (Q ++ Tm.prt (.two 4 a b))).length + 2) * 16 ≤ 140737488355328 by rw [txts_len, List.length_append]; have h1 := HQL.out; have h2 := HOL.out; simp at h1; simp [Tm.prt]; omega)
          go_upto_region 11 with fail
          refine RL.start (fun W => Below w.heap.size w W ∧ Rd W (some ⟨b7, o7, none⟩) ([a.txt, b.txt].map encStr)) (by kernel_rfl) (⟨Below.drew HQ.out.bel, HR7.out.below (Below.drew (Below.refl _ _))⟩) ?_
          refine' RL.takeV (i := 0) (v := _) rfl (by kernel_rfl) (by kernel_rfl) (by kernel_rfl) (fun _ _ _ h => h) (by rfl) ?hk1 ?_
          case hk1 => (intro W hSW; go_simp; try with_reducible rfl)
          (try simp only [Act.put, List.setIfInBounds_toArray, List.set_cons_zero, List.set_cons_succ])
          refine' RL.takeV (i := 1) (v := _) rfl (by kernel_rfl) (by kernel_rfl) (by kernel_rfl) (fun _ _ _ h => h) (by rfl) ?hk2 ?_
          case hk2 => (intro W hSW; go_simp; try with_reducible rfl)
          (try simp only [Act.put, List.setIfInBounds_toArray, List.set_cons_zero, List.set_cons_succ])
          refine' RL.takeV (i := 2) (v := _) rfl (by kernel_rfl) (by kernel_rfl) (by kernel_rfl) (fun _ _ _ h => h) (by rfl) ?hk3 ?_
          case hk3 => (intro W hSW; go_simp; try with_reducible rfl)
          (try simp only [Act.put, List.setIfInBounds_toArray, List.set_cons_zero, List.set_cons_succ])
          refine' RL.takeV (i := 3) (v := _) rfl (by kernel_rfl) (by kernel_rfl) (by kernel_rfl) (fun _ _ _ h => h) (by rfl) ?hk4 ?_
          case hk4 => (intro W hSW; have k1 : W.cell? ⟨b7, o7, none⟩ = some (.string (strB a.txt)) := rd_at hSW.2 (j := 0) rfl; go_simp; try with_reducible rfl)
          (try simp only [Act.put, List.setIfInBounds_toArray, List.set_cons_zero, List.set_cons_succ])
          refine' RL.takeV (i := 4) (v := _) rfl (by kernel_rfl) (by kernel_rfl) (by kernel_rfl) (fun _ _ _ h => h) (by rfl) ?hk5 ?_
          case hk5 => (intro W hSW; have q1 : ¬ 9223372036854775807 < 6 + (strB a.txt).size := (by omega); have q2 : ¬ 9223372036854775807 < 6 + (strB a.txt).size + 1 := (by omega); go_simp; try with_reducible rfl)
          (try simp only [Act.put, List.setIfInBounds_toArray, List.set_cons_zero, List.set_cons_succ])
          refine' RL.takeV (i := 5) (v := _) rfl (by kernel_rfl) (by kernel_rfl) (by kernel_rfl) (fun _ _ _ h => h) (by rfl) ?hk6 ?_
          case hk6 => (intro W hSW; have q1 : ¬ 9223372036854775807 < 6 + (strB a.txt).size := (by omega); have q2 : ¬ 9223372036854775807 < 6 + (strB a.txt).size + 1 := (by omega); go_simp; try with_reducible rfl)
          (try simp only [Act.put, List.setIfInBounds_toArray, List.set_cons_zero, List.set_cons_succ])
          refine' RL.takeV (i := 6) (v := _) rfl (by kernel_rfl) (by kernel_rfl) (by kernel_rfl) (fun _ _ _ h => h) (by rfl) ?hk7 ?_
          case hk7 => (intro W hSW; go_simp; try with_reducible rfl)
          (try simp only [Act.put, List.setIfInBounds_toArray, List.set_cons_zero, List.set_cons_succ])
          refine' RL.takeV (i := 7) (v := _) rfl (by kernel_rfl) (by kernel_rfl) (by kernel_rfl) (fun _ _ _ h => h) (by rfl) ?hk8 ?_
          case hk8 => (intro W hSW; go_simp; try with_reducible rfl)
          (try simp only [Act.put, List.setIfInBounds_toArray, List.set_cons_zero, List.set_cons_succ])
          refine' RL.takeV (i := 8) (v := _) rfl (by kernel_rfl) (by kernel_rfl) (by kernel_rfl) (fun _ _ _ h => h) (by rfl) ?hk9 ?_
          case hk9 => (intro W hSW; have k1 : W.cell? ⟨b7, o7 + 1, none⟩ = some (.string (strB b.txt)) := rd_at hSW.2 (j := 1) rfl; go_simp; try with_reducible rfl)
          (try simp only [Act.put, List.setIfInBounds_toArray, List.set_cons_zero, List.set_cons_succ])
          refine' RL.takeV (i := 9) (v := _) rfl (by kernel_rfl) (by kernel_rfl) (by kernel_rfl) (fun _ _ _ h => h) (by rfl) ?hk10 ?_
          case hk10 => (intro W hSW; have q1 : ¬ 9223372036854775807 < 6 + (strB b.txt).size := (by omega); have q2 : ¬ 9223372036854775807 < 6 + (strB b.txt).size + 1 := (by omega); go_simp; try with_reducible rfl)
          (try simp only [Act.put, List.setIfInBounds_toArray, List.set_cons_zero, List.set_cons_succ])
          refine' RL.takeV (i := 10) (v := _) rfl (by kernel_rfl) (by kernel_rfl) (by kernel_rfl) (fun _ _ _ h => h) (by rfl) ?hk11 ?_
          case hk11 => (intro W hSW; have q1 : ¬ 9223372036854775807 < 6 + (strB b.txt).size := (by omega); have q2 : ¬ 9223372036854775807 < 6 + (strB b.txt).size + 1 := (by omega); go_simp; try with_reducible rfl)
          (try simp only [Act.put, List.setIfInBounds_toArray, List.set_cons_zero, List.set_cons_succ])
          rw [pt_txt, pt_txt]
          refine RL.stepK (i := 11) rfl (by kernel_rfl) (by rfl) (fun wa hlwa hswa K hK => ?_)
          go_simp
          refine hK.out _ _ ⟨Below.alloc hswa.1 hswa.1.size _, hswa.2.below ((Below.refl _ _).alloc (Nat.le_refl _) _)⟩ ?_
          clear hK
          (try simp only [Act.put, List.setIfInBounds_toArray, List.set_cons_zero, List.set_cons_succ])
          have HLA := Lib.hid hlwa
          refine RL.stepK (i := 12) rfl (by kernel_rfl) (by rfl) (fun wb hlwb hswb K hK => ?_)
          have HQB := Lib.hid ((((HQ.out.below (Below.drew (Below.refl _ _))).below HLA.out).below ((Below.refl _ _).alloc (Nat.le_refl _) (.cells #[.string (strB (Tm.one 1 a).txt), .string (strB (Tm.one 1 b).txt)] 9))).below hlwb)
          have HRY := Lib.hid (show Rd wb (some ⟨wa.heap.size, 0, none⟩) (txts [.one 1 a, .one 1 b]) from Rd.below (w := wa.alloc (.cells #[.string (strB (Tm.one 1 a).txt), .string (strB (Tm.one 1 b).txt)] 9)) (fun j v hv => ⟨wa.heap.size, 0, rfl, by simp, by rw [Nat.zero_add]; exact (Rg.Blk.new wa _ _).cell j (by have h9 : ([Value.string (strB (Tm.one 1 a).txt), .string (strB (Tm.one 1 b).txt)] : List Value)[j]? = some v := hv; simpa using h9)⟩) hlwb)
          refine appQ_op _ _ 22 rfl Tryd.underlying22 infoS rfl (by decide) HQB.out.qq rfl rfl (show (txts [.one 1 a, .one 1 b]).length = 2 from rfl) HRY.out (by intro u hu; obtain ⟨s, rfl⟩ := txts_str _ u hu; rfl) HTL2.out HQB.out.bel.size ?_
          intro v6 w6 h2 h3 h4
          rw [txts_app] at h2
          have HQ6 := Lib.hid (HQB.out.addQ h2 h3 (by rcases h4 with h4 | h4; exact .inl h4; exact .inr ⟨_, h4, Nat.le_refl _⟩))
          have hrd6 : Rd w6 (some ⟨b7, o7, none⟩) ([a.txt, b.txt].map encStr) := rd_off hswb.2 h3 HB7.out
          refine hK.out _ _ ⟨HQ6.out.bel, hrd6⟩ ?_
          clear hK h2 h3 h4 hrd6
          (try simp only [Act.put, List.setIfInBounds_toArray, List.set_cons_zero, List.set_cons_succ])
          refine' RL.takeV (i := 13) (v := _) rfl (by kernel_rfl) (by kernel_rfl) (by kernel_rfl) (fun _ _ _ h => h) (by rfl) ?hk12 ?_
          case hk12 => (intro W hSW; go_simp; try with_reducible rfl)
          (try simp only [Act.put, List.setIfInBounds_toArray, List.set_cons_zero, List.set_cons_succ])
          refine RL.done (by kernel_rfl) (fun wd hlwd hswd => ?_)
          have HQ7 := Lib.hid (HQ6.out.below hlwd)
          clear hlwd hswd hswb hlwb hswa hlwa
          go_wp2
          go_roundg (5 * (4000 - (O ++ [Tm.two 4 a b]).length) + (Q ++ exp (.two 4 a b)).length + 1)
          case measure => have h1 := HKM.out; have h2 := exp_len (.two 4 a b); have h3 := HOL.out; have h4 := Nat.le_trans HB2.out.len HUL.out; simp at h1 h4 ⊢; omega
          case rel => exact ⟨_, _, by have := HQ7.out; rw [List.append_assoc] at this; exact this, HB2.out, by omega⟩
        · rw [hex] at HB2
          have HEL := Lib.hid (show t.prt.length ≤ 4 from hex ▸ exp_len t)
          clear hex
          go_wp2
          go_roundg (5 * (4000 - (O ++ [t]).length) + (Q ++ t.prt).length + 1)
          case measure => have h1 := HKM.out; have h2 := HEL.out; have h3 := HOL.out; have h4 := Nat.le_trans HB2.out.len HUL.out; simp at h1 h4 ⊢; omega
          case rel => exact ⟨_, _, HQ.out, HB2.out, by omega⟩
end Go.Proofs.YtfcemnebhapidaaDoor.Te
