/- Who learned the terms L; the laws' same; a text's term. -/
import Derived.Test.YtfcemnebhapidaaDoorTmLn
set_option linter.unusedVariables false
set_option linter.unusedSimpArgs false
namespace Go.Proofs.YtfcemnebhapidaaDoor.Te
open Go.RowKit Go.Proofs.YtfcemnebhapidaaDoor.Ow Go.Proofs.YtfcemnebhapidaaDoor.Mp Go.Maps
theorem ext_list (x y : ByteArray) (h : x.data.toList = y.data.toList) : x = y := by
  apply ByteArray.ext
  exact Array.toList_inj.1 h
theorem go_num_step {k : Nat} : Value.int .i64 ((k : Int) + 1) = .int .i64 ((k + 1 : Nat) : Int) := rfl
set_option maxRecDepth 20000 in
set_option maxHeartbeats 2000000 in
theorem same_bytes (w : World) (A B : Option Addr) (c d : Nat) (xs ys : List ByteArray) (hA : Rd w A (xs.map Value.string)) (hB : Rd w B (ys.map Value.string)) (hx : xs.length ≤ 9223372036854775807) :
    Calls Tryd.prog 11 #[.slice A xs.length c, .slice B ys.length d] w fun e w' => e = .returned (.bool (decide (xs = ys))) ∧ Below w.heap.size w w' := by
  have HA := Lib.hid hA
  have HB := Lib.hid hB
  by_cases hl : xs.length = ys.length
  · obtain ⟨n, hn⟩ : ∃ n, xs.length = n := ⟨_, rfl⟩
    rw [← hl, hn]
    have hn2 : ys.length = n := by omega
    have HN := Lib.hid hn
    have HN2 := Lib.hid hn2
    rw [hn] at hx
    have hs : ((n : Int) != n) = false := by simp
    clear hA hB hl hn hn2
    go_enter Tryd.func11, Tryd.ntmps11
    go_wp2_with fail
    go_loopw [13] (fun i wr => ∃ k : Nat, k ≤ n ∧ i = .int .i64 k ∧ xs.take k = ys.take k ∧ Below w.heap.size w wr) (fun i _ => n - (intOf i).toNat)
    case atStart => exact ⟨0, Nat.zero_le _, rfl, rfl, Below.refl _ _⟩
    case round =>
      obtain ⟨k, hk, rfl, heq, hb⟩ := hrel
      have HEQ := Lib.hid heq
      have HW := Lib.hid hb
      have hsz := hb.size
      clear heq hb
      by_cases hkn : k < n
      · have hd : decide (k < n) = true := by simp; exact hkn
        have hik : (k : Int) < n := by omega
        obtain ⟨b1, o1, rfl, hb1, hc1⟩ := HA.out.at_ (j := k) (by rw [List.length_map, HN.out]; exact hkn)
        obtain ⟨b2, o2, rfl, hb2, hc2⟩ := HB.out.at_ (j := k) (by rw [List.length_map, HN2.out]; exact hkn)
        rw [List.getElem_map] at hc1 hc2
        have hx1 : xs[k]? = some (xs[k]'(by rw [HN.out]; exact hkn)) := List.getElem?_eq_getElem _
        have hx2 : ys[k]? = some (ys[k]'(by rw [HN2.out]; exact hkn)) := List.getElem?_eq_getElem _
        generalize xs[k]'(by rw [HN.out]; exact hkn) = x at *
        generalize ys[k]'(by rw [HN2.out]; exact hkn) = y at *
        have HX1 := Lib.hid hx1
        have HX2 := Lib.hid hx2
        have f1 := fun t : Rg.Later wr.heap.size wr => (t.cell b1 (o1 + k) (by omega)).trans ((HW.out.cell (p := ⟨b1, o1 + k, none⟩) hb1).trans hc1)
        have f2 := fun t : Rg.Later wr.heap.size wr => (t.cell b2 (o2 + k) (by omega)).trans ((HW.out.cell (p := ⟨b2, o2 + k, none⟩) hb2).trans hc2)
        have F1 := Lib.hid f1
        have F2 := Lib.hid f2
        clear hx1 hx2 hc1 hc2 f1 f2
        by_cases hxy : x = y
        · subst hxy
          have hne : (x.toList != x.toList) = false := by simp
          have HT := Lib.hid (show xs.take (k + 1) = ys.take (k + 1) by rw [List.take_add_one, List.take_add_one, HX1.out, HX2.out, HEQ.out])
          go_wp2_with fail
          have f1 := F1.out
          have f2 := F2.out
          refine Rg.wp_region_later_all wr.heap.size (by kernel_rfl) (by kernel_rfl) ?_
          repeat (go_big_quiet_step (fail))
          refine wpQuiet_nil ?_
          rintro _ ⟨t, rfl⟩
          clear f1 f2
          first | (go_wp2_with fail; go_roundw) | go_roundw
          case rel =>
            have hb' := HW.out.trans (t.is.mono hsz)
            first
              | exact ⟨k + 1, by omega, by go_num, HT.out, hb'⟩
              | ((repeat apply Exists.intro); refine ⟨?_, rfl⟩; exact ⟨k + 1, by omega, by go_num, HT.out, hb'⟩)
          case measure => simp [intOf]; omega
        · have hne : (x.toList != y.toList) = true := by
            rw [bne_iff_ne]; intro e; apply hxy
            rw [ByteArray.toList_eq, ByteArray.toList_eq] at e
            exact ext_list _ _ e
          have hne2 : (x.toList == y.toList) = false := by simpa using hne
          have HF := Lib.hid (show decide (xs = ys) = false by
            rw [decide_eq_false_iff_not]; rintro rfl
            have := HX1.out.symm.trans HX2.out
            exact hxy (Option.some.inj this))
          go_wp2_with fail
          have f1 := F1.out
          have f2 := F2.out
          refine Rg.wp_region_later_all wr.heap.size (by kernel_rfl) (by kernel_rfl) ?_
          repeat (go_big_quiet_step (fail))
          refine wpQuiet_nil ?_
          rintro _ ⟨t, rfl⟩
          clear f1 f2
          go_wp2_with fail
          go_ret
          exact ⟨congrArg (fun z => Ending.returned (Value.bool z)) HF.out.symm, HW.out.trans (t.is.mono hsz)⟩
      · obtain rfl : k = n := by omega
        have hd : decide (k < k) = false := by simp
        have HT := Lib.hid (show decide (xs = ys) = true by
          rw [decide_eq_true_eq]
          have := HEQ.out
          rwa [List.take_of_length_le (Nat.le_of_eq HN.out), List.take_of_length_le (Nat.le_of_eq HN2.out)] at this)
        go_wp2_with fail
        go_ret
        exact ⟨congrArg (fun z => Ending.returned (Value.bool z)) HT.out.symm, HW.out⟩
  · have hs : ((xs.length : Int) != ys.length) = true := by rw [bne_iff_ne]; omega
    have HF := Lib.hid (show decide (xs = ys) = false by rw [decide_eq_false_iff_not]; rintro rfl; exact hl rfl)
    clear hA hB
    go_enter Tryd.func11, Tryd.ntmps11
    go_wp2_with fail
    go_ret
    exact ⟨congrArg (fun z => Ending.returned (Value.bool z)) HF.out.symm, Below.refl _ _⟩
theorem map_strB_inj : ∀ {xs ys : List (List UInt8)}, xs.map strB = ys.map strB → xs = ys
  | [], [], _ => rfl
  | [], y :: ys, h => by simp at h
  | x :: xs, [], h => by simp at h
  | x :: xs, y :: ys, h => by
    rw [List.map_cons, List.map_cons] at h
    injection h with h1 h2
    rw [strB_inj h1, map_strB_inj h2]
/-- two lists of texts -/
theorem same_any (w : World) (A B : Option Addr) (n m c d : Nat) (xs ys : List (List UInt8)) (hn : xs.length = n) (hm : ys.length = m) (hA : Rd w A (xs.map encStr)) (hB : Rd w B (ys.map encStr)) (hx : xs.length ≤ 9223372036854775807) :
    Calls Tryd.prog 11 #[.slice A n c, .slice B m d] w fun e w' => e = .returned (.bool (decide (xs = ys))) ∧ Below w.heap.size w w' := by
  subst hn
  subst hm
  have h := same_bytes w A B c d (xs.map strB) (ys.map strB) (by rw [List.map_map]; exact hA) (by rw [List.map_map]; exact hB) (by rw [List.length_map]; exact hx)
  rw [List.length_map, List.length_map] at h
  refine h.mono ?_
  rintro e w' ⟨rfl, hb⟩
  refine ⟨?_, hb⟩
  have he : xs.map strB = ys.map strB ↔ xs = ys := ⟨map_strB_inj, fun h => by rw [h]⟩
  rw [decide_eq_decide.2 he]
theorem subs_txt : ∀ (t : Tm) {x : Tm}, x ∈ subs t → x.txt.length ≤ t.txt.length
  | .atom s, x, h => by simp [subs] at h; rw [h]; exact Nat.le_refl _
  | .one k a, x, h => by
    unfold subs at h
    rcases List.mem_cons.1 h with rfl | h
    · exact Nat.le_refl _
    · have := subs_txt a h
      simp [Tm.txt]; omega
  | .two k a b, x, h => by
    unfold subs at h
    rcases List.mem_cons.1 h with rfl | h
    · exact Nat.le_refl _
    · rcases List.mem_append.1 h with h | h
      · have := subs_txt a h
        simp [Tm.txt]; omega
      · have := subs_txt b h
        simp [Tm.txt]; omega
/-- can it be made -/
noncomputable def derB (L : List Tm) (t : Tm) : Bool := @decide (Der (· ∈ L) t) (Classical.propDecidable _)
theorem derB_iff (L : List Tm) (t : Tm) : derB L t = true ↔ Der (· ∈ L) t := by unfold derB; exact @decide_eq_true_iff _ (Classical.propDecidable _)
theorem Kn.derB {L K : List Tm} (h : Kn L K) (t : Tm) : syn K t = Te.derB L t := by
  rw [Bool.eq_iff_iff, derB_iff]; exact h.syn_iff t
/-- nothing more can be taken apart -/
def clsB (K : List Tm) : Bool := K.all fun x => match x with
  | .two 3 a b => decide (a ∈ K) && decide (b ∈ K)
  | .two 5 _ b => decide (b ∈ K)
  | .two 6 a b => !syn K a || decide (b ∈ K)
  | _ => true
theorem clsB_out {K : List Tm} (h : clsB K = true) : Cls [] K ∧ Opn K := by
  unfold clsB at h
  rw [List.all_eq_true] at h
  refine ⟨fun x hx _ => ⟨fun a b e => ?_, fun a b e => ?_⟩, fun a b hx hs => ?_⟩
  · subst e; have := h _ hx; simpa using this
  · subst e; have := h _ hx; simpa using this
  · have := h _ hx; simp [hs] at this; exact this
theorem not_der {L : List Tm} (K : List Tm) (h1 : ∀ t ∈ L, t ∈ K) (h2 : clsB K = true) {t : Tm} (h3 : syn K t = false) : derB L t = false := by
  cases h : derB L t with
  | false => rfl
  | true =>
    obtain ⟨hc, ho⟩ := clsB_out h2
    rw [der_syn h1 hc ho ((derB_iff L t).1 h)] at h3
    exact h3
theorem is_der {L : List Tm} {t : Tm} (h : Der (· ∈ L) t) : derB L t = true := (derB_iff L t).2 h
/-- the texts that are known behind L -/
noncomputable def ptsL (L : List Tm) : List (List UInt8) := @dite _ (∃ K, Kn L K) (Classical.propDecidable _) (fun h => prtsOf (Classical.choose h)) (fun _ => [])
theorem Kn.pts {L K : List Tm} (h : Kn L K) : prtsOf K = ptsL L := by
  have hex : ∃ K, Kn L K := ⟨K, h⟩
  unfold ptsL
  rw [dif_pos hex]
  have hp := h.same (Classical.choose_spec hex) (fun t => Iff.rfl)
  unfold prtsOf
  exact mergeSort_of_perm (hp.map _)
/-- who learned L, above w -/
structure KS (w W : World) (kb mb : Nat) (L : List Tm) : Prop where
  out : ∃ K, IsKn W kb mb L.length K.length K ∧ Kn L K
  bel : Below w.heap.size w W
  lk : w.heap.size ≤ kb
  lm : w.heap.size ≤ mb
  fit : ∀ t ∈ L, t.wf ∧ t.txt.length ≤ 900
theorem KS.below {w W W' : World} {kb mb : Nat} {L : List Tm} (h : KS w W kb mb L) (hb : Below W.heap.size W W') : KS w W' kb mb L := by
  obtain ⟨⟨K, h1, h2⟩, h3, h4, h5, h6⟩ := h
  exact ⟨⟨K, h1.below hb, h2⟩, h3.trans (hb.mono h3.size), h4, h5, h6⟩
theorem univ_fit {L : List Tm} (hL : L.length ≤ 520) (h : ∀ t ∈ L, t.wf ∧ t.txt.length ≤ 900) : (univ L).length ≤ 500000 ∧ ∀ u ∈ univ L, u.txt.length ≤ 5000 := by
  refine ⟨?_, fun u hu => ?_⟩
  · have h1 := univ_len (M := 900) h
    have h2 : L.length * 900 ≤ 520 * 900 := Nat.mul_le_mul_right _ hL
    omega
  · obtain ⟨t, ht, hx⟩ := List.mem_flatMap.1 hu
    have h1 := subs_txt t hx
    have h2 := (h t ht).2
    omega
theorem KS.klen {w W : World} {kb mb : Nat} {L : List Tm} (h : KS w W kb mb L) (hn : L.length ≤ 512) {K : List Tm} (hk : Kn L K) : K.length ≤ 500000 := by
  have h1 := nodup_len hk.nd hk.sub_univ
  have h2 := (univ_fit (L := L) (by omega) h.fit).1
  omega
theorem upd_below {B : Nat} {w W W' : World} {s : List Nat} (hb : Below B w W) (hu : Sp.Upd W W' s) (hs : ∀ x ∈ s, B ≤ x) (hB : B ≤ W.heap.size) : Below B w W' :=
  ⟨hu.os.trans hb.os, hu.tape.trans hb.tape, hu.output.trans hb.output, Nat.le_trans hb.size hu.size, fun k hk => (hu.block k (by have := hb.size; omega) (fun e => by have := hs k e; omega)).trans (hb.block k hk)⟩
theorem New_KS (w W : World) (hb : Below w.heap.size w W) : Calls Tryd.prog 23 #[] W fun e w' => ∃ kb mb, e = .returned (.pointer (some ⟨kb, 0, none⟩)) ∧ KS w w' kb mb [] ∧ Below W.heap.size W w' ∧ W.heap.size ≤ kb ∧ W.heap.size ≤ mb := by
  refine (TNew_any W).mono ?_
  rintro e w' ⟨kb, mb, rfl, h1, h2, h3, h4⟩
  exact ⟨kb, mb, rfl, ⟨⟨[], h1, Kn.nil⟩, hb.trans (h2.mono hb.size), Nat.le_trans hb.size h3, Nat.le_trans hb.size h4, fun t h => by simp at h⟩, h2, h3, h4⟩
theorem Learn_KS (w W : World) (kb mb : Nat) (L : List Tm) (t : Tm) (p : Value) (h : KS w W kb mb L) (ht : t.wf) (hl : t.txt.length ≤ 900) (hp : TP W t p) (hn : L.length < 512) :
    Calls Tryd.prog 16 #[.pointer (some ⟨kb, 0, none⟩), .agg (tv t p)] W fun e w' => e = .returned .nilIface ∧ KS w w' kb mb (L ++ [t]) ∧ Sp.Upd W w' [kb, mb] := by
  obtain ⟨⟨K, h1, h2⟩, h3, h4, h5, h6⟩ := h
  have h7 : ∀ u ∈ L ++ [t], u.wf ∧ u.txt.length ≤ 900 := fun u hu => by
    rcases List.mem_append.1 hu with hu | hu
    · exact h6 u hu
    · rw [List.mem_singleton.1 hu]; exact ⟨ht, hl⟩
  obtain ⟨h8, h9⟩ := univ_fit (L := L ++ [t]) (by simp; omega) h7
  refine (Learn_any W kb mb L.length K.length L K t p h1 h2 ht hp hn h8 h9).mono ?_
  rintro e w' ⟨rfl, K', h10, h11, h12⟩
  refine ⟨rfl, ⟨⟨K', by rw [List.length_append]; exact h10, h11⟩, upd_below h3 h12 (by intro x hx; simp at hx; rcases hx with rfl | rfl; exact h4; exact h5) h3.size, h4, h5, h7⟩, h12⟩
theorem LearnFull_KS (w W : World) (kb mb : Nat) (L : List Tm) (t : Tm) (p : Value) (h : KS w W kb mb L) (ht : t.wf) (hp : TP W t p) (hn : 512 ≤ L.length) (a : Nat → Addr) (hE : ErrsT w a) :
    Calls Tryd.prog 16 #[.pointer (some ⟨kb, 0, none⟩), .agg (tv t p)] W fun e w' => e = .returned (.iface 137 (.pointer (some (a 7)))) ∧ Below W.heap.size W w' := by
  obtain ⟨⟨K, h1, h2⟩, h3, h4, h5, h6⟩ := h
  exact Learn_full W kb mb L.length K.length K h1 t ht p hp hn a (hE.below h3)
theorem Derives_KS (w W : World) (kb mb : Nat) (L : List Tm) (t : Tm) (p : Value) (h : KS w W kb mb L) (ht : t.wf) (hl : t.txt.length ≤ 5000) (hp : TP W t p) :
    Calls Tryd.prog 15 #[.pointer (some ⟨kb, 0, none⟩), .agg (tv t p)] W fun e w' => e = .returned (.bool (derB L t)) ∧ Below W.heap.size W w' := by
  obtain ⟨⟨K, h1, h2⟩, h3, h4, h5, h6⟩ := h
  rw [← h2.derB]
  exact Derives_any t W kb mb L.length K.length K p h1 ht hp hl
theorem Parts_KS (w W : World) (kb mb : Nat) (L : List Tm) (h : KS w W kb mb L) (hn : L.length ≤ 512) :
    Calls Tryd.prog 12 #[.pointer (some ⟨kb, 0, none⟩)] W fun e w' => ∃ v, e = .returned v ∧ Owns w' W.heap.size 9 v ((ptsL L).map encStr) ∧ Below W.heap.size W w' := by
  obtain ⟨K, h1, h2⟩ := h.out
  rw [← h2.pts]
  exact KParts_any W kb mb L.length K.length K h1 (by have := h.klen hn h2; omega)
theorem Of_some (w : World) (s : List UInt8) (t : Tm) (hs : s.length ≤ 1000) (h : parse s = some t) (a : Nat → Addr) (hE : ErrsT w a) :
    Calls Tryd.prog 13 #[.string (strB s)] w fun e w' => ∃ A c, e = .returned (.agg (tv t (.slice A t.prt.length c))) ∧ FT w.heap.size w' t (.slice A t.prt.length c) ∧ Below w.heap.size w w' := by
  refine (Of_any w s hs a hE).mono ?_
  rintro e w' ⟨v, rfl, ho, hb⟩
  rw [h] at ho
  obtain ⟨p, rfl, hf⟩ := ho
  obtain ⟨A, c, rfl⟩ := hf.tp.slice
  exact ⟨A, c, rfl, hf, hb⟩
theorem Of_none (w : World) (s : List UInt8) (hs : s.length ≤ 1000) (h : parse s = none) (a : Nat → Addr) (hE : ErrsT w a) :
    Calls Tryd.prog 13 #[.string (strB s)] w fun e w' => e = .returned (.agg #[.string ⟨#[]⟩, .string ⟨#[]⟩, .slice none 0 0]) ∧ Below w.heap.size w w' := by
  refine (Of_any w s hs a hE).mono ?_
  rintro e w' ⟨v, rfl, ho, hb⟩
  rw [h] at ho
  exact ⟨by rw [show v = _ from ho], hb⟩
end Go.Proofs.YtfcemnebhapidaaDoor.Te
