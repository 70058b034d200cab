/- The reference's Apart, over Derived's contract. -/
import Derived.Test.YtfcemnebhapidaaDoorTmAq
import Derived.Test.YtfcemnebhapidaaDoorTmFy
set_option linter.unusedVariables false
set_option linter.unusedSimpArgs false
namespace Go.Proofs.YtfcemnebhapidaaDoor.Te
open Go.RowKit Go.Proofs.YtfcemnebhapidaaDoor.Ow Go.Proofs.YtfcemnebhapidaaDoor.Mp Go.Maps Go.Proofs.YtfcemnebhapidaaDoor.Sp
theorem clo_univ {L M : List Tm} (hM : Clo M) (h : ∀ t ∈ L, t ∈ M) : ∀ u ∈ univ L, u ∈ M := by
  have key : ∀ (t : Tm), t ∈ M → ∀ u ∈ subs t, u ∈ M := by
    intro t
    induction t with
    | atom s => intro ht u hu; simp [subs] at hu; rw [hu]; exact ht
    | one k a ih =>
      intro ht u hu
      unfold subs at hu
      rcases List.mem_cons.1 hu with rfl | hu
      · exact ht
      · exact ih (hM.one ht) u hu
    | two k a b iha ihb =>
      intro ht u hu
      unfold subs at hu
      rcases List.mem_cons.1 hu with rfl | hu
      · exact ht
      · rcases List.mem_append.1 hu with hu | hu
        · exact iha (hM.fst ht) u hu
        · exact ihb (hM.snd ht) u hu
  intro u hu
  obtain ⟨t, ht, hx⟩ := List.mem_flatMap.1 hu
  exact key t (h t ht) u hx
theorem beq_w {x y : List UInt8} (h : x = y) : ((strB x).toList == y) = true := by rw [strB_toList, beq_iff_eq]; exact h
theorem bne_w {x y : List UInt8} (h : x ≠ y) : ((strB x).toList == y) = false := by rw [strB_toList, beq_eq_false_iff_ne]; exact h
theorem knd4 (D : List Tm) {t : Tm} (h : t.wf) :
    (((strB t.knd).toList == [112, 97, 105, 114]) = true ∧ ((strB t.knd).toList == [115, 105, 103, 110]) = false ∧ ((strB t.knd).toList == [115, 101, 97, 108]) = false ∧ tkn D t = t.prt) ∨
    (((strB t.knd).toList == [112, 97, 105, 114]) = false ∧ ((strB t.knd).toList == [115, 105, 103, 110]) = true ∧ ((strB t.knd).toList == [115, 101, 97, 108]) = false ∧ ∃ a b, t.prt = [a, b] ∧ tkn D t = [b]) ∨
    (((strB t.knd).toList == [112, 97, 105, 114]) = false ∧ ((strB t.knd).toList == [115, 105, 103, 110]) = false ∧ ((strB t.knd).toList == [115, 101, 97, 108]) = true ∧ ∃ a b, a.wf ∧ t.prt = [a, b] ∧ tkn D t = if a ∈ D then [b] else []) ∨
    (((strB t.knd).toList == [112, 97, 105, 114]) = false ∧ ((strB t.knd).toList == [115, 105, 103, 110]) = false ∧ ((strB t.knd).toList == [115, 101, 97, 108]) = false ∧ tkn D t = []) := by
  by_cases h1 : t.knd = [112, 97, 105, 114]
  · obtain ⟨a, b, e⟩ := (wd_pair h).1 h1
    exact .inl ⟨beq_w h1, bne_w (by rw [h1]; decide), bne_w (by rw [h1]; decide), by rw [e]; rfl⟩
  · by_cases h2 : t.knd = [115, 105, 103, 110]
    · obtain ⟨a, b, e⟩ := (wd_sign h).1 h2
      exact .inr (.inl ⟨bne_w h1, beq_w h2, bne_w (by rw [h2]; decide), a, b, by rw [e]; rfl, by rw [e]; rfl⟩)
    · by_cases h3 : t.knd = [115, 101, 97, 108]
      · obtain ⟨a, b, e⟩ := (wd_six h).1 h3
        exact .inr (.inr (.inl ⟨bne_w h1, bne_w h2, beq_w h3, a, b, by rw [e] at h; exact h.2.2.1, by rw [e]; rfl, by rw [e]; rfl⟩))
      · refine .inr (.inr (.inr ⟨bne_w h1, bne_w h2, bne_w h3, ?_⟩))
        cases t with
        | atom s => rfl
        | one k a => rfl
        | two k a b =>
          rw [tkn_two, if_neg (fun e => h1 ((wd_pair h).2 ⟨a, b, by rw [e]⟩)), if_neg (fun e => h2 ((wd_sign h).2 ⟨a, b, by rw [e]⟩)), if_neg (fun e => h3 ((wd_six h).2 ⟨a, b, by rw [e]⟩))]
set_option maxRecDepth 20000 in
set_option maxHeartbeats 8000000 in
theorem RApart_of (hD : DerC) (w : World) (A : Option Addr) (n c : Nat) (L : List Tm) (hn : L.length = n) (hR : Rd w A (txts L)) (hL : ∀ u ∈ L, u.wf ∧ u.txt.length ≤ 100) (hl : n ≤ 20) (hK : ∃ K, Kn L K) :
    Calls Tryd.prog 21 #[.slice A n c] w fun e w' => ∃ v, e = .returned v ∧ Owns w' w.heap.size 9 v ((ptsL L).map encStr) ∧ Below w.heap.size w w' := by
  have HD := Lib.hid (hD w A n c L hn hR none 0 0 [] rfl (Rd.nil _ _) (by simpa using hL) (by omega))
  have HKN := Lib.hid hK
  have HR := Lib.hid hR
  have HU := Lib.hid (univ_fit2 hL)
  have HUL := Lib.hid (univ_len2 hL (by omega))
  have HLn := Lib.hid (show (txts L).length = n by rw [txts_len]; exact hn)
  have HNB := Lib.hid (show (([] : List Value).length + n) * 16 ≤ 140737488355328 by simp; omega)
  have HL0 := Lib.hid (show L.length ≤ 20 by omega)
  clear hD hR hn hL hK
  go_enter Tryd.func21, Tryd.ntmps21
  go_upto_region 3 with (go_at_call 38; refine HD.out.mono ?_; rintro e w1 ⟨v, D, M, rfl, ho, hc, hm, hw, hd, hdl, hb⟩; obtain ⟨A3, c3, rfl, hr3, -⟩ := ho.form; rw [txts_len]; skip; obtain ⟨nd, hnd⟩ : ∃ nd, D.length = nd := ⟨_, rfl⟩; have HND := Lib.hid hnd; have HDL := Lib.hid hdl; have HDW := Lib.hid (show ∀ u ∈ D, u.wf from fun u hu => (hw u ((hd u).1 hu).1).1); have HD1 := Lib.hid (show ∀ a ∈ D, Der (· ∈ L) a from fun a ha => ((hd a).1 ha).2); have HD2 := Lib.hid (show ∀ a ∈ univ L, Der (· ∈ L) a → a ∈ D from fun a ha h => (hd a).2 ⟨clo_univ hc (fun t ht => hm t (by simp [ht])) a ha, h⟩); have HRD := Lib.hid hr3; have HB1 := Lib.hid hb; have HRL := Lib.hid (HR.out.below hb); rw [hnd]; clear ho hc hm hw hd hdl hb hr3 hnd)
  clear HD HR
  refine Ap_wp (fun X hX => ?_)
  have HX := Lib.hid hX
  have HXB := Lib.hid (show Below w1.heap.size w1 X from hX ▸ (Below.refl _ _).alloc (Nat.le_refl _) _)
  clear hX
  have HO9 := Lib.hid (Owns.new X w1.heap.size 9 [] HXB.out.size (by decide))
  have HR9 := Lib.hid (show Rd (X.alloc (.cells #[] 9)) A (txts L) from (HRL.out.below HXB.out).below ((Below.refl _ _).alloc (Nat.le_refl _) _))
  rw [show ([] : List Value).toArray = #[] from rfl] at HO9
  have HATD := Lib.hid (fun (W : World) (hW : Below w1.heap.size w1 W) (t : Tm) (ht : t.wf) => show Calls Tryd.prog 37 #[.slice A3 nd c3, .string (strB t.txt)] W fun e w' => e = .returned (.int .i64 (if t ∈ D then (pos D t : Int) else -1)) ∧ W = w' from by
    have h := RAt_any W A3 nd c3 (D.map Tm.txt) t.txt (by rw [List.length_map]; exact HND.out) (HRD.out.below hW) (by have := HND.out; have := HDL.out; omega)
    rw [idx_txt HDW.out ht] at h
    exact h)
  go_wp2_with (refine app rfl _ _ 22 rfl Tryd.underlying22 infoS rfl (by decide) HO9.out rfl rfl HLn.out HR9.out (by intro u hu; obtain ⟨s, rfl⟩ := txts_str _ u hu; rfl) HNB.out (by have := HXB.out.size; simp; omega) ?_; intro v2 w2 h2 h3 h4; rw [List.nil_append] at h2; skip; have HQ := Lib.hid (QS.start HX.out h2 h3 (by rcases h4 with h4 | h4; exact .inl h4; exact .inr ⟨_, h4, Nat.le_refl _⟩)); clear h2 h3 h4)
  clear HO9 HR9 HXB HX HRL
  have HAP := Lib.hid (Ap.start (L := L) (D := D) HL0.out)
  go_loopg [4, 5] 6022 (fun k v q wr => ∃ O Q g co, v = .slice (some ⟨g, 0, none⟩) O.length co ∧ QS w1 wr v q O Q ∧ Ap L D O Q ∧ 3 * (2000 - O.length) + Q.length < k)
  case atStart => exact ⟨[], L, w1.heap.size, 0, rfl, HQ.out, HAP.out, by have := HL0.out; simp; omega⟩
  case round =>
    obtain ⟨O, Q, g, co, rfl, hq, hb, hk⟩ := hrel
    clear HQ HAP
    have HQ := Lib.hid hq
    have HBF := Lib.hid hb
    have HKM := Lib.hid hk
    have HOL := Lib.hid (show O.length ≤ 2000 from Nat.le_trans hb.len HUL.out)
    have HQL := Lib.hid hb.ql
    clear hq hb hk
    cases Q with
    | nil =>
      obtain ⟨Aq, cq, hqf, _, _⟩ := HQ.out.qq.form
      have HQF := Lib.hid hqf
      rw [hqf]
      clear hqf
      rw [show (txts []).length = 0 from rfl]
      go_wp2
      go_ret
      obtain ⟨K, hK⟩ := HKN.out
      exact ⟨_, rfl, by rw [← HBF.out.fin HD2.out hK]; exact ownsLow HQ.out.o HB1.out.size, HB1.out.trans (HQ.out.bel.mono HB1.out.size)⟩
    | cons t Q =>
      obtain ⟨q', hq1, hq2, hsl⟩ := slice_tail 22 9 Tryd.underlying22 (by kernel_rfl) (show OwnQ wr w1.heap.size 9 _ (encStr t.txt :: txts Q) from by have := HQ.out.qq; rw [txts_cons] at this; exact this)
      have HQT := Lib.hid (HQ.out.tail hq1 hq2)
      obtain ⟨Aq, cq, hqf, hqr, _⟩ := HQ.out.qq.form
      obtain ⟨bq, oq, rfl, -, -⟩ := hqr.place (by rw [txts_cons]; simp)
      have c0 : wr.cell? ⟨bq, oq, none⟩ = some (.string (strB t.txt)) := rd_at hqr (j := 0) rfl
      obtain ⟨nq, hnq⟩ : ∃ nq, (txts (t :: Q)).length = nq := ⟨_, rfl⟩
      have hnq1 : nq = Q.length + 1 := by rw [← hnq, txts_len]; rfl
      have HNQ := Lib.hid hnq1
      rw [hnq] at hqf
      rw [hqf] at hsl ⊢
      have hsl1 := hsl wr
      have hdq : decide (0 < nq) = true := by simp; omega
      have hdqi : (0 : Int) < nq := by omega
      have HTU := Lib.hid (HU.out t (HBF.out.qu t (by simp)))
      obtain ⟨no, hno⟩ : ∃ no, O.length = no := ⟨_, rfl⟩
      have HNO := Lib.hid (show (txts O).length = no from by rw [txts_len]; exact hno)
      have HNOM := Lib.hid (show (O.map Tm.txt).length = no from by rw [List.length_map]; exact hno)
      have HNOL := Lib.hid (show no ≤ 2000 from hno ▸ HOL.out)
      rw [hno] at HQT ⊢
      have HOR := Lib.hid (show Rd wr (some ⟨g, 0, none⟩) ((O.map Tm.txt).map encStr) from owns_rd (by rw [show ((O.map Tm.txt).map encStr).length = no from by rw [List.length_map]; exact HNOM.out]; exact HQT.out.o))
      have HCO := Lib.hid (show no ≤ co from by have h := owns_cap (show Owns wr w1.heap.size 9 (.slice (some ⟨g, 0, none⟩) (txts O).length co) (txts O) from by rw [HNO.out]; exact HQT.out.o); rw [HNO.out] at h; exact h)
      have HIX := Lib.hid (idx_txt (M := O) (t := t) (fun u hu => (HU.out u (HBF.out.ou u hu)).1) HTU.out.1)
      have HAT := Lib.hid (RAt_any wr (some ⟨g, 0, none⟩) no co (O.map Tm.txt) t.txt HNOM.out HOR.out (by have := HNOL.out; omega))
      clear hq1 hq2 hqr hnq hnq1 hsl HQ hqf
      have HQ := HQT
      clear HQT
      by_cases hto : t ∈ O
      · rw [HIX.out, if_pos hto] at HAT
        have HTO := Lib.hid hto
        obtain ⟨p, hp⟩ : ∃ p, pos O t = p := ⟨_, rfl⟩
        rw [hp] at HAT
        have hdp : decide ((0 : Int) ≤ (p : Int)) = true := by simp
        have HNO3 := Lib.hid hno
        clear hto hp hno
        go_wp2_with (go_at_call 37; refine HAT.out.mono ?_; rintro e w3 ⟨rfl, rfl⟩; skip)
        go_roundg (3 * (2000 - O.length) + Q.length + 1)
        case measure => have := HKM.out; simp at this; omega
        case rel => exact ⟨O, Q, g, co, by rw [HNO3.out], HQ.out, HBF.out.skip HTO.out, by omega⟩
      · rw [HIX.out, if_neg hto] at HAT
        clear hno
        have HTO := Lib.hid hto
        have HTX := Lib.hid (show t.txt ∉ O.map Tm.txt from fun e => by
          obtain ⟨u, hu, e2⟩ := List.mem_map.1 e
          exact hto (txt_inj (HU.out u (HBF.out.ou u hu)).1 HTU.out.1 e2 ▸ hu))
        clear hto
        go_upto_block 2 with (go_at_call 37; refine HAT.out.mono ?_; rintro e w3 ⟨rfl, rfl⟩; skip)
        clear c0 hsl1
        go_cut [7] from 28 to 41 (fun i wx => wr = wx ∧ ∃ kk : Nat, kk ≤ no ∧ i = .int .i64 kk ∧ (∀ (i : Nat) (x : List UInt8), i < kk → (O.map Tm.txt)[i]? = some x → x < t.txt) ∧ ∀ x, (O.map Tm.txt)[kk]? = some x → ¬ x < t.txt)
        case first =>
          go_wp2_with fail
          go_loopg [7] (no + 1) (fun gg i wi => wr = wi ∧ ∃ kk : Nat, kk ≤ no ∧ gg = no + 1 - kk ∧ i = .int .i64 kk ∧ (∀ (i : Nat) (x : List UInt8), i < kk → (O.map Tm.txt)[i]? = some x → x < t.txt))
          case atStart => exact ⟨rfl, 0, Nat.zero_le _, rfl, rfl, fun i x h => by omega⟩
          case round =>
            obtain ⟨rfl, kk, hkk, rfl, rfl, hless⟩ := hrel
            have HLS := Lib.hid hless
            clear hless
            by_cases hkn : kk < no
            · obtain ⟨x, hx⟩ : ∃ x, (O.map Tm.txt)[kk]? = some x := ⟨_, List.getElem?_eq_getElem (by rw [HNOM.out]; exact hkn)⟩
              have HX1 := Lib.hid hx
              have hkd : decide (kk < no) = true := by simp; exact hkn
              have hk1 : (kk : Int) < no := by omega
              have hk0 : (0 : Int) ≤ kk := by omega
              have cx : wr.cell? ⟨g, kk, none⟩ = some (.string (strB x)) := by
                obtain ⟨b', o', e, _, h3⟩ := HOR.out kk (.string (strB x)) (by rw [List.getElem?_map, hx]; rfl)
                injection e with e
                injection e with e1 e2
                subst e1 e2
                rw [Nat.zero_add] at h3; exact h3
              clear hx
              by_cases hxt : x < t.txt
              · have hbl1 : Op.bytesLess (strB x).toList (strB t.txt).toList = true := by rw [bytesLess_eq, strB_toList, strB_toList]; simpa using hxt
                have HLS2 := Lib.hid (show ∀ (i : Nat) (y : List UInt8), i < kk + 1 → (O.map Tm.txt)[i]? = some y → y < t.txt from fun i y hi hy => by
                  by_cases e : i = kk
                  · subst e; rw [HX1.out] at hy; cases hy; exact hxt
                  · exact HLS.out i y (by omega) hy)
                clear hxt
                have hno5 := HNOL.out
                go_wp2
                go_roundg (no + 1 - (kk + 1))
                case measure => omega
                case rel => exact ⟨rfl, kk + 1, hkn, rfl, by first | rfl | go_num, HLS2.out⟩
              · have hbl1 : Op.bytesLess (strB x).toList (strB t.txt).toList = false := by rw [bytesLess_eq, strB_toList, strB_toList]; simpa using hxt
                have HGE := Lib.hid (show ∀ y, (O.map Tm.txt)[kk]? = some y → ¬ y < t.txt from fun y hy => by rw [HX1.out] at hy; cases hy; exact hxt)
                clear hxt
                go_wp2
                go_meet
                exact ⟨rfl, kk, hkk, rfl, HLS.out, HGE.out⟩
            · obtain rfl : kk = no := by omega
              have hkd : decide (kk < kk) = false := by simp
              go_wp2
              go_meet
              exact ⟨rfl, kk, hkk, rfl, HLS.out, fun y hy => by rw [List.getElem?_eq_none (by rw [HNOM.out]; exact Nat.le_refl _)] at hy; cases hy⟩
        case rest =>
          obtain ⟨rfl, kk, hkk, rfl, hless, hge⟩ := hcut
          have HAP2 := Lib.hid (HBF.out.take (k := kk) HD1.out HTX.out hless hge)
          clear hless hge
          have HSP := Lib.hid (Split_txt t HTU.out.1 (by have := HTU.out.2; omega))
          have HPL := Lib.hid (show ((t.prt.map Tm.txt).map encStr).length = t.prt.length by rw [List.length_map, List.length_map])
          have HTQ := Lib.hid (show ((txts Q).length + t.prt.length) * 16 ≤ 140737488355328 by rw [txts_len]; have h1 := HQL.out; have h2 := HOL.out; have h3 := prt_le t; simp at h1; omega)
          obtain ⟨np, hnp⟩ : ∃ np, t.prt.length = np := ⟨_, rfl⟩
          rw [hnp] at HPL HTQ
          have HNP := Lib.hid hnp
          clear hnp
          have HK4 := Lib.hid (knd4 D HTU.out.1)
          go_upto_region 11 with fail
          have HSL0 := slice_from 22 9 Tryd.underlying22 (by kernel_rfl) g no co kk hkk HCO.out
          obtain ⟨ad2, hsl, hdr⟩ := HSL0
          have HSL := Lib.hid hsl
          have HDR := Lib.hid (fun (W : World) (h : Owns W w1.heap.size 9 (.slice (some ⟨g, 0, none⟩) no co) (txts O)) => hdr W (txts O) (by rw [HNO.out]; exact Nat.le_refl _) (owns_rd (by rw [HNO.out]; exact h)))
          have HFR := Lib.hid (fun (W : World) (h : Owns W w1.heap.size 9 (.slice (some ⟨g, 0, none⟩) no co) (txts O)) => owns_front (k := kk) (by rw [HNO.out]; exact h) (by rw [HNO.out]; exact hkk))
          have hsk1 : (0 : Int) ≤ kk := by omega
          have hsk2 : (kk : Int) ≤ co := by have := HCO.out; omega
          clear hsl hdr
          refine Ap_wp (fun Z hZ => ?_)
          have HQZ := Lib.hid (show QS w1 Z (.slice (some ⟨g, 0, none⟩) no co) q' O Q from by rw [hZ]; exact HQ.out)
          have HGW := Lib.hid (HQ.out.o.lt g rfl).1
          clear hZ HQ
          refine RL.start (Only Z g) (by kernel_rfl) ((Only.refl Z g).drew) ?_
          refine' RL.takeV (i := 0) (v := _) rfl (by kernel_rfl) (by kernel_rfl) (by kernel_rfl) (fun _ _ _ h => h) (by rfl) ?hk1 ?_
          case hk1 => (intro W hSW; go_simp; try with_reducible rfl)
          (try simp only [Act.put, List.setIfInBounds_toArray, List.set_cons_zero, List.set_cons_succ])
          refine' RL.takeV (i := 1) (v := _) rfl (by kernel_rfl) (by kernel_rfl) (by kernel_rfl) (fun _ _ _ h => h) (by rfl) ?hk2 ?_
          case hk2 => (intro W hSW; go_simp; try with_reducible rfl)
          (try simp only [Act.put, List.setIfInBounds_toArray, List.set_cons_zero, List.set_cons_succ])
          refine' RL.takeV (i := 2) (v := _) rfl (by kernel_rfl) (by kernel_rfl) (by kernel_rfl) (fun _ _ _ h => h) (by rfl) ?hk3 ?_
          case hk3 => (intro W hSW; have hs1 := hsk1; go_simp; try with_reducible rfl)
          (try simp only [Act.put, List.setIfInBounds_toArray, List.set_cons_zero, List.set_cons_succ])
          refine' RL.takeV (i := 3) (v := _) rfl (by kernel_rfl) (by kernel_rfl) (by kernel_rfl) (fun _ _ _ h => h) (by rfl) ?hk4 ?_
          case hk4 => (intro W hSW; go_simp; try with_reducible rfl)
          (try simp only [Act.put, List.setIfInBounds_toArray, List.set_cons_zero, List.set_cons_succ])
          refine' RL.takeV (i := 5) (v := _) rfl (by kernel_rfl) (by kernel_rfl) (by kernel_rfl) (fun _ _ _ h => h) (by rfl) ?hk5 ?_
          case hk5 => (intro W hSW; go_simp; try with_reducible rfl)
          (try simp only [Act.put, List.setIfInBounds_toArray, List.set_cons_zero, List.set_cons_succ])
          refine' RL.takeV (i := 6) (v := _) rfl (by kernel_rfl) (by kernel_rfl) (by kernel_rfl) (fun _ _ _ h => h) (by rfl) ?hk6 ?_
          case hk6 => (intro W hSW; go_simp; try with_reducible rfl)
          (try simp only [Act.put, List.setIfInBounds_toArray, List.set_cons_zero, List.set_cons_succ])
          refine' RL.takeV (i := 7) (v := _) rfl (by kernel_rfl) (by kernel_rfl) (by kernel_rfl) (fun _ _ _ h => h) (by rfl) ?hk7 ?_
          case hk7 => (intro W hSW; have hs2 := HSL.out W; go_simp; try with_reducible rfl)
          (try simp only [Act.put, List.setIfInBounds_toArray, List.set_cons_zero, List.set_cons_succ])
          refine RL.stepK (i := 4) rfl (by kernel_rfl) (by rfl) (fun wa hlwa hswa K hK => ?_)
          go_simp
          have HZa := Lib.hid (show Below Z.heap.size Z wa from (Below.drew (Below.refl _ _)).trans hlwa)
          refine hK.out _ _ (Only.alloc hswa _) ?_
          clear hK 
          (try simp only [Act.put, List.setIfInBounds_toArray, List.set_cons_zero, List.set_cons_succ])
          refine RL.stepK (i := 8) rfl (by kernel_rfl) (by rfl) (fun wb hlwb hswb K hK => ?_)
          have HO5 := Lib.hid ((Owns.new wa Z.heap.size 9 [.string (strB t.txt)] HZa.out.size (by show 1 ≤ maxLen; unfold maxLen; omega)).below hlwb)
          have HZb := Lib.hid ((HZa.out.alloc HZa.out.size _).trans (Below.mono hlwb (by have := HZa.out.size; simp; omega)))
          have HDb := Lib.hid (HDR.out wb ((HQZ.out.o.below HZb.out)))
          refine RT.app1_op _ _ 22 rfl Tryd.underlying22 infoS rfl (by decide) HO5.out rfl (ys := (txts O).drop kk) (m := no - kk) (by rw [List.length_drop, HNO.out]) rfl HDb.out (fun u hu => txts_cells O u (List.mem_of_mem_drop hu)) (by have := HNOL.out; simp <;> omega) HZb.out.size ?_
          intro v9 wc hv9 hg9 hat9
          obtain ⟨g9, c9, rfl, hc9, hm9, hB9, hl9, hR9⟩ := owns_form hv9 (by simp)
          have HR9 := Lib.hid hR9
          have HZc := Lib.hid (HZb.out.grown hg9 HZb.out.size (fun j hj => by cases hj; have := HZa.out.size; exact this))
          refine hK.out _ _ (Only.grown hswb hg9 (fun j hj => .inr (by cases hj; exact HZa.out.size))) ?_
          clear hK hv9 hg9 hat9 hR9
          (try simp only [Act.put, List.setIfInBounds_toArray, List.set_cons_zero, List.set_cons_succ])
          refine RL.stepK (i := 9) rfl (by kernel_rfl) (by rfl) (fun wd hlwd hswd K hK => ?_)
          have HZd := Lib.hid (HZc.out.trans (Below.mono hlwd HZc.out.size))
          have HOd := Lib.hid (HFR.out wd (HQZ.out.o.below HZd.out))
          refine RT.app1_op _ _ 22 rfl Tryd.underlying22 infoS rfl (by decide) HOd.out rfl (ys := [.string (strB t.txt)] ++ (txts O).drop kk) (m := ([Value.string (strB t.txt)] ++ (txts O).drop kk).length) rfl rfl (HR9.out.below hlwd) (fun u hu => by rcases List.mem_append.1 hu with h | h; rw [List.mem_singleton.1 h]; rfl; exact txts_cells O u (List.mem_of_mem_drop h)) (by have := HNOL.out; have := HNO.out; simp; omega) (Nat.le_trans HQZ.out.bel.size HZd.out.size) ?_
          intro v10 we hv10 hg10 hat10
          have HV := Lib.hid hv10
          have HAT10 := Lib.hid (show v10.ownBlock = some g ∨ ∃ g2, v10.ownBlock = some g2 ∧ Z.heap.size ≤ g2 from by rcases hat10 with h | h; exact .inl h; exact .inr ⟨_, h, HZd.out.size⟩)
          refine hK.out _ _ (Only.grown hswd hg10 (fun j hj => .inl (by cases hj; rfl))) ?_
          clear hK hv10 hg10 hat10
          (try simp only [Act.put, List.setIfInBounds_toArray, List.set_cons_zero, List.set_cons_succ])
          refine' RL.takeV (i := 10) (v := _) rfl (by kernel_rfl) (by kernel_rfl) (by kernel_rfl) (fun _ _ _ h => h) (by rfl) ?hk8 ?_
          case hk8 => (intro W hSW; go_simp; try with_reducible rfl)
          (try simp only [Act.put, List.setIfInBounds_toArray, List.set_cons_zero, List.set_cons_succ])
          refine RL.done (by kernel_rfl) (fun wh hlwh hswh => ?_)
          have HQx := Lib.hid ((HQZ.out.setO rfl (by have h := HV.out.below hlwh; rw [ins_txts] at h; exact h) hswh HAT10.out))
          obtain ⟨g7, c7, hv7, hc7, -, -, -, hr7⟩ := owns_form HQx.out.o (by unfold ins txts; simp)
          rw [txts_len, ins_len] at hv7 hc7
          subst hv7
          have HQ := HQx
          clear HQx HQZ HV HAT10 hlwh hswh hr7 hc7
          go_upto_region 13 with (go_at_call 18; refine (HSP.out _).mono ?_; rintro e w5 ⟨v5, rfl, ho, hb⟩; obtain ⟨A5, c5, hv5, hr5, _⟩ := id ho.form; subst hv5; rw [HPL.out]; skip; have HR7 := Lib.hid hr5; have HQy := Lib.hid (HQ.out.below hb); clear HQ; have HQ := HQy; clear HQy; clear ho hr5 hb)
          rcases HK4.out with ⟨h1, h2, h3, h4⟩ | ⟨h1, h2, h3, a, b, hp, h4⟩ | ⟨h1, h2, h3, a, b, haw, hp, h4⟩ | ⟨h1, h2, h3, h4⟩
          · have e1 : ((strB t.knd).toList == [112, 97, 105, 114]) = true := h1
            have e2 : ((strB t.knd).toList == [115, 105, 103, 110]) = false := h2
            have e3 : ((strB t.knd).toList == [115, 101, 97, 108]) = false := h3
            have HTK := Lib.hid h4
            clear h1 h2 h3 h4 HK4
            go_wp2_with (refine appQ rfl _ _ 22 rfl Tryd.underlying22 infoS rfl (by decide) HQ.out.qq rfl rfl HPL.out HR7.out (by intro u hu; obtain ⟨s, _, rfl⟩ := List.mem_map.1 hu; rfl) HTQ.out HQ.out.bel.size ?_; intro v6 w6 h2 h3 h4; rw [show (t.prt.map Tm.txt).map encStr = txts t.prt from rfl, txts_app, ← HTK.out] at h2; skip; have HQx := Lib.hid (HQ.out.addQ h2 h3 (by rcases h4 with h4 | h4; exact .inl h4; exact .inr ⟨_, h4, Nat.le_refl _⟩)); clear h2 h3 h4)
            go_roundg (3 * (2000 - (ins O kk t).length) + (Q ++ tkn D t).length + 1)
            case measure => have h1 := HKM.out; have h2 := tkn_len D t; have h3 := ins_len O kk t; have h4 := HAP2.out.len; have h5 := HUL.out; simp at h1; rw [h3] at h4 ⊢; simp; omega
            case rel => exact ⟨ins O kk t, Q ++ tkn D t, g7, c7, by rw [ins_len], HQx.out, HAP2.out, by omega⟩
          · have e1 : ((strB t.knd).toList == [112, 97, 105, 114]) = false := h1
            have e2 : ((strB t.knd).toList == [115, 105, 103, 110]) = true := h2
            have e3 : ((strB t.knd).toList == [115, 101, 97, 108]) = false := h3
            have HTK := Lib.hid h4
            obtain rfl : np = 2 := by rw [← HNP.out, hp]; rfl
            rw [hp] at HR7
            obtain ⟨b7, o7, rfl, -, -⟩ := HR7.out.place (by simp)
            have k1 := rd_cell HR7.out 1 (.string (strB b.txt)) rfl
            have HTQ1 := Lib.hid (show ((txts Q).length + 1) * 16 ≤ 140737488355328 by have := HTQ.out; omega)
            have HQa := Lib.hid (HQ.out.below ((Below.refl _ _).alloc (Nat.le_refl _) (.cells #[.string (strB b.txt)] 9)))
            clear h1 h2 h3 h4 hp HK4 HPL
            go_wp2_with (refine appQ rfl _ _ 22 rfl Tryd.underlying22 infoS rfl (by decide) HQa.out.qq rfl rfl rfl (str_row _ (strB b.txt)) (by intro u hu; rw [List.mem_singleton.1 hu]; rfl) HTQ1.out HQa.out.bel.size ?_; intro v6 w6 h2 h3 h4; rw [show [Value.string (strB b.txt)] = txts [b] from rfl, txts_app, ← HTK.out] at h2; skip; have HQx := Lib.hid (HQa.out.addQ h2 h3 (by rcases h4 with h4 | h4; exact .inl h4; exact .inr ⟨_, h4, Nat.le_refl _⟩)); clear h2 h3 h4)
            go_roundg (3 * (2000 - (ins O kk t).length) + (Q ++ tkn D t).length + 1)
            case measure => have h1 := HKM.out; have h2 := tkn_len D t; have h3 := ins_len O kk t; have h4 := HAP2.out.len; have h5 := HUL.out; simp at h1; rw [h3] at h4 ⊢; simp; omega
            case rel => exact ⟨ins O kk t, Q ++ tkn D t, g7, c7, by rw [ins_len], HQx.out, HAP2.out, by omega⟩
          · have e1 : ((strB t.knd).toList == [112, 97, 105, 114]) = false := h1
            have e2 : ((strB t.knd).toList == [115, 105, 103, 110]) = false := h2
            have e3 : ((strB t.knd).toList == [115, 101, 97, 108]) = true := h3
            obtain rfl : np = 2 := by rw [← HNP.out, hp]; rfl
            rw [hp] at HR7
            obtain ⟨b7, o7, rfl, -, -⟩ := HR7.out.place (by simp)
            have k0 : w5.cell? ⟨b7, o7, none⟩ = some (.string (strB a.txt)) := rd_at HR7.out (j := 0) rfl
            have k1 := rd_cell HR7.out 1 (.string (strB b.txt)) rfl
            have HTQ1 := Lib.hid (show ((txts Q).length + 1) * 16 ≤ 140737488355328 by have := HTQ.out; omega)
            have HQa := Lib.hid (HQ.out.below ((Below.refl _ _).alloc (Nat.le_refl _) (.cells #[.string (strB b.txt)] 9)))
            have HAD := Lib.hid (HATD.out w5 (HQ.out.bel) a haw)
            clear h1 h2 h3 hp HK4 HPL haw
            by_cases had : a ∈ D
            · rw [if_pos had] at HAD h4
              have HTK := Lib.hid h4
              obtain ⟨pa, hpa⟩ : ∃ pa, pos D a = pa := ⟨_, rfl⟩
              rw [hpa] at HAD
              have hge : decide ((0 : Int) ≤ (pa : Int)) = true := by simp
              clear had h4 hpa
              go_wp2_with (first
                | (go_at_call 37; refine HAD.out.mono ?_; rintro e w3 ⟨rfl, rfl⟩; skip)
                | (refine appQ rfl _ _ 22 rfl Tryd.underlying22 infoS rfl (by decide) HQa.out.qq rfl rfl rfl (str_row _ (strB b.txt)) (by intro u hu; rw [List.mem_singleton.1 hu]; rfl) HTQ1.out HQa.out.bel.size ?_; intro v6 w6 h2 h3 h4; rw [show [Value.string (strB b.txt)] = txts [b] from rfl, txts_app, ← HTK.out] at h2; skip; have HQx := Lib.hid (HQa.out.addQ h2 h3 (by rcases h4 with h4 | h4; exact .inl h4; exact .inr ⟨_, h4, Nat.le_refl _⟩)); clear h2 h3 h4))
              go_roundg (3 * (2000 - (ins O kk t).length) + (Q ++ tkn D t).length + 1)
              case measure => have h1 := HKM.out; have h2 := tkn_len D t; have h3 := ins_len O kk t; have h4 := HAP2.out.len; have h5 := HUL.out; simp at h1; rw [h3] at h4 ⊢; simp; omega
              case rel => exact ⟨ins O kk t, Q ++ tkn D t, g7, c7, by rw [ins_len], HQx.out, HAP2.out, by omega⟩
            · rw [if_neg had] at HAD h4
              have HTK := Lib.hid h4
              clear had h4
              go_wp2_with (go_at_call 37; refine HAD.out.mono ?_; rintro e w3 ⟨rfl, rfl⟩; skip)
              go_roundg (3 * (2000 - (ins O kk t).length) + (Q ++ tkn D t).length + 1)
              case measure => have h1 := HKM.out; have h2 := tkn_len D t; have h3 := ins_len O kk t; have h4 := HAP2.out.len; have h5 := HUL.out; simp at h1; rw [h3] at h4 ⊢; simp; omega
              case rel => exact ⟨ins O kk t, Q ++ tkn D t, g7, c7, by rw [ins_len], by rw [HTK.out, List.append_nil]; exact HQ.out, HAP2.out, by omega⟩
          · have e1 : ((strB t.knd).toList == [112, 97, 105, 114]) = false := h1
            have e2 : ((strB t.knd).toList == [115, 105, 103, 110]) = false := h2
            have e3 : ((strB t.knd).toList == [115, 101, 97, 108]) = false := h3
            have HTK := Lib.hid h4
            clear h1 h2 h3 h4
            go_wp2
            go_roundg (3 * (2000 - (ins O kk t).length) + (Q ++ tkn D t).length + 1)
            case measure => have h1 := HKM.out; have h2 := tkn_len D t; have h3 := ins_len O kk t; have h4 := HAP2.out.len; have h5 := HUL.out; simp at h1; rw [h3] at h4 ⊢; simp; omega
            case rel => exact ⟨ins O kk t, Q ++ tkn D t, g7, c7, by rw [ins_len], by rw [HTK.out, List.append_nil]; exact HQ.out, HAP2.out, by omega⟩
end Go.Proofs.YtfcemnebhapidaaDoor.Te
