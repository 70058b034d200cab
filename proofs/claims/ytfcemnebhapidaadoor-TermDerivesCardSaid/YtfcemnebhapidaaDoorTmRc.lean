/- The reference's Canon: what parses, as it is written. -/
import Derived.Test.YtfcemnebhapidaaDoorTmRw
import Derived.Test.YtfcemnebhapidaaDoorTmPar
set_option linter.unusedVariables false
set_option linter.unusedSimpArgs false
namespace Go.Proofs.YtfcemnebhapidaaDoor.Te
open Go.RowKit Go.Proofs.YtfcemnebhapidaaDoor.Ow
/-- what Canon answers -/
def CPost (x : Option Tm) (e : Ending) : Prop :=
  match x with
  | some t => e = .returned (.tuple #[.string (strB t.txt), .bool true])
  | none => ∃ y : List UInt8, y.length ≤ 100000 ∧ e = .returned (.tuple #[.string (strB y), .bool false])
theorem cp_none {o : Option Tm} (h : o = none) (y : List UInt8) (hy : y.length ≤ 100000) {e : Ending} (he : e = .returned (.tuple #[.string (strB y), .bool false])) : CPost o e := by subst h; exact ⟨y, hy, he⟩
theorem cp_some {o : Option Tm} {t : Tm} (h : o = some t) {e : Ending} (he : e = .returned (.tuple #[.string (strB t.txt), .bool true])) : CPost o e := by subst h; exact he
theorem at_bad {s : List UInt8} (h : (40 : UInt8) ∉ s) (hn : ¬ atomOk s) : parse s = none := by
  cases hp : parse s with
  | none => rfl
  | some t => exact absurd ((aln_no h).1 hp).1 hn
theorem last_bad {s : List UInt8} {k : Nat} (h : (40 : UInt8) ∈ s) (hk : s.length = k + 1) (hx : s[k]? ≠ some 41) : parse s = none := by
  cases hp : parse s with
  | none => rfl
  | some t =>
    obtain ⟨m, rfl⟩ := parse_last hp h
    simp at hk
    subst hk
    exact absurd (by simp) hx
theorem last_good {s : List UInt8} {k : Nat} (h : (40 : UInt8) ∈ s) (hk : s.length = k + 1) (hx : s[k]? = some 41) : ∃ w m, s = w ++ 40 :: (m ++ [41]) ∧ (40 : UInt8) ∉ w := by
  obtain ⟨w, r, rfl, hw⟩ := split40 h
  refine ⟨w, r.dropLast, ?_, hw⟩
  cases hr : r with
  | nil =>
    subst hr
    simp at hk
    subst hk
    simp at hx
  | cons c l =>
    have hne : r ≠ [] := by rw [hr]; simp
    have h1 := (List.dropLast_concat_getLast hne).symm
    have h2 : r.getLast hne = 41 := by
      have h3 : (w ++ 40 :: r).getLast (by simp) = 41 := by
        rw [List.getLast_eq_getElem]
        have := List.getElem?_eq_some_iff.1 hx
        obtain ⟨h5, h6⟩ := this
        simp only [hk] at *
        exact h6
      rw [List.getLast_append_of_ne_nil _ (by simp), List.getLast_cons hne] at h3
      exact h3
    rw [h2] at h1
    rw [← hr, ← h1]
theorem cnt_bad {w m : List UInt8} (hw : (40 : UInt8) ∉ w) (h : cnt w ≠ (sc m 0 []).length) : parse (w ++ 40 :: (m ++ [41])) = none := by
  cases hp : parse (w ++ 40 :: (m ++ [41])) with
  | none => rfl
  | some t =>
    rcases (parse_spl hw).1 hp with ⟨p, a, h1, h2, _, _⟩ | ⟨p, q, a, b, h1, h2, h3, _⟩
    · rw [h1] at h; unfold cnt at h; rw [if_pos h2] at h; exact absurd rfl h
    · rw [h1] at h; unfold cnt at h; rw [if_neg (by omega), if_pos h3] at h; exact absurd rfl h
theorem cnt_good {w m : List UInt8} (h : cnt w = (sc m 0 []).length) : (∃ p, sc m 0 [] = [p] ∧ numW w < 3) ∨ (∃ p q, sc m 0 [] = [p, q] ∧ 3 ≤ numW w ∧ numW w < 7) := by
  unfold cnt at h
  split at h
  · match hs : sc m 0 [], h with
    | [p], _ => exact .inl ⟨p, rfl, by assumption⟩
  · split at h
    · match hs : sc m 0 [], h with
      | [p, q], _ => exact .inr ⟨p, q, rfl, by omega, by assumption⟩
    · exact absurd (List.eq_nil_of_length_eq_zero h.symm) (sc_ne _ _ _)
theorem one_none {w m p : List UInt8} (hw : (40 : UInt8) ∉ w) (hs : sc m 0 [] = [p]) (hp : parse p = none) : parse (w ++ 40 :: (m ++ [41])) = none := by
  cases h : parse (w ++ 40 :: (m ++ [41])) with
  | none => rfl
  | some t =>
    rcases (parse_spl hw).1 h with ⟨p', a, h1, _, h3, _⟩ | ⟨p', q, a, b, h1, _⟩
    · rw [hs] at h1; cases h1; rw [hp] at h3; cases h3
    · rw [hs] at h1; cases h1
theorem one_some {w m p : List UInt8} {a : Tm} (hw : (40 : UInt8) ∉ w) (hs : sc m 0 [] = [p]) (hk : numW w < 3) (hp : parse p = some a) : parse (w ++ 40 :: (m ++ [41])) = some (.one (numW w) a) :=
  (parse_spl hw).2 (.inl ⟨p, a, hs, hk, hp, rfl⟩)
theorem two_none1 {w m p q : List UInt8} (hw : (40 : UInt8) ∉ w) (hs : sc m 0 [] = [p, q]) (hp : parse p = none) : parse (w ++ 40 :: (m ++ [41])) = none := by
  cases h : parse (w ++ 40 :: (m ++ [41])) with
  | none => rfl
  | some t =>
    rcases (parse_spl hw).1 h with ⟨p', a, h1, _, h3, _⟩ | ⟨p', q', a, b, h1, _, _, h3, _⟩
    · rw [hs] at h1; cases h1
    · rw [hs] at h1; cases h1; rw [hp] at h3; cases h3
theorem two_none2 {w m p q : List UInt8} (hw : (40 : UInt8) ∉ w) (hs : sc m 0 [] = [p, q]) (hp : parse q = none) : parse (w ++ 40 :: (m ++ [41])) = none := by
  cases h : parse (w ++ 40 :: (m ++ [41])) with
  | none => rfl
  | some t =>
    rcases (parse_spl hw).1 h with ⟨p', a, h1, _, h3, _⟩ | ⟨p', q', a, b, h1, _, _, _, h3, _⟩
    · rw [hs] at h1; cases h1
    · rw [hs] at h1; cases h1; rw [hp] at h3; cases h3
theorem two_some {w m p q : List UInt8} {a b : Tm} (hw : (40 : UInt8) ∉ w) (hs : sc m 0 [] = [p, q]) (h3 : 3 ≤ numW w) (h7 : numW w < 7) (hp : parse p = some a) (hq : parse q = some b) : parse (w ++ 40 :: (m ++ [41])) = some (mk2 (numW w) a b) :=
  (parse_spl hw).2 (.inr ⟨p, q, a, b, hs, h3, h7, hp, hq, rfl⟩)
theorem parse_len {s : List UInt8} {t : Tm} (h : parse s = some t) : t.txt.length = s.length := (parse_iff.1 h).len
theorem mk2_txt (k : Nat) (a b : Tm) : (mk2 k a b).txt = if k = 4 ∧ b.txt < a.txt then word k ++ 40 :: (b.txt ++ 44 :: (a.txt ++ [41])) else word k ++ 40 :: (a.txt ++ 44 :: (b.txt ++ [41])) := by
  unfold mk2; split <;> rfl
/-- Write of two, whichever they are -/
theorem RWrite_mk (w : World) (A : Option Addr) (c : Nat) (x : List UInt8) (a b : Tm) (hk : numW x < 7) (hxl : x.length ≤ 100000) (hp : a.txt.length ≤ 100000) (hq : b.txt.length ≤ 100000) (hA : Rd w A ([a.txt, b.txt].map encStr)) :
    Calls Tryd.prog 31 #[.string (strB x), .slice A 2 c] w fun e w' => e = .returned (.string (strB (mk2 (numW x) a b).txt)) ∧ Below w.heap.size w w' := by
  rw [mk2_txt]
  have hw := word_numW hk
  by_cases h4 : x = word 4
  · have hn : numW x = 4 := by rw [h4]; decide
    by_cases hlt : b.txt < a.txt
    · rw [if_pos ⟨hn, hlt⟩, hw]
      exact RWrite_shs w A c x a.txt b.txt h4 hlt hxl hp hq hA
    · rw [if_neg (fun e => hlt e.2), hw]
      exact RWrite_shn w A c x a.txt b.txt h4 hlt hxl hp hq hA
  · rw [if_neg (fun e => h4 (by rw [← hw, e.1])), hw]
    exact RWrite_two w A c x a.txt b.txt h4 hxl hp hq hA
theorem RWrite_mk1 (w : World) (A : Option Addr) (c : Nat) (x : List UInt8) (a : Tm) (hk : numW x < 3) (hxl : x.length ≤ 100000) (hp : a.txt.length ≤ 100000) (hA : Rd w A ([a.txt].map encStr)) :
    Calls Tryd.prog 31 #[.string (strB x), .slice A 1 c] w fun e w' => e = .returned (.string (strB (Tm.one (numW x) a).txt)) ∧ Below w.heap.size w w' := by
  have hw := word_numW (w := x) (by omega)
  show Calls _ _ _ _ fun e w' => e = .returned (.string (strB (word (numW x) ++ 40 :: (a.txt ++ [41])))) ∧ _
  rw [hw]
  refine RWrite_one w A c x a.txt (fun e => ?_) hxl hp hA
  rw [e] at hk; exact absurd hk (by decide)
set_option maxRecDepth 20000 in
set_option maxHeartbeats 8000000 in
theorem RCanon_atom (w : World) (S : ByteArray) (hs : S.data.toList.length ≤ 100000) (hno : (40 : UInt8) ∉ S.data.toList) :
    Calls Tryd.prog 17 #[.string S] w fun e w' => CPost (parse S.data.toList) e ∧ Below w.heap.size w w' := by
  have HNO := Lib.hid hno
  have HSL := Lib.hid hs
  have HL := Lib.hid (show S.data.toList.length = S.size from Array.length_toList)
  have hsz : S.size ≤ 100000 := by rw [← HL.out]; exact hs
  have HSP := Lib.hid (spl_no hno)
  have e0 : ((strB atomW).toList == [97, 116, 111, 109]) = true := by rw [strB_toList]; rfl
  clear hno hs
  go_enter Tryd.func17, Tryd.ntmps17
  go_wp2_with (go_at_call 18; refine (RSplit_any w S hsz).mono ?_; rintro e W1 ⟨v1, rfl, ho1, hb1⟩; rw [HSP.out] at ho1 ⊢; obtain ⟨A1, c1, rfl, _, _⟩ := ho1.form; rw [show (List.map encStr ((atomW, ([] : List (List UInt8))).2)).length = 0 from rfl]; clear ho1; skip; have HB1 := Lib.hid hb1; clear hb1)
  go_loopw [6] (fun i wr => ∃ k : Nat, k ≤ S.size ∧ i = .int .i64 k ∧ alnTo S.data.toList k ∧ Below w.heap.size w wr) (fun i _ => S.size - (intOf i).toNat)
  case atStart => exact ⟨0, Nat.zero_le _, rfl, fun j x hj => by omega, HB1.out⟩
  case round =>
    obtain ⟨k, hk, rfl, hup, hbw⟩ := hrel
    have HU := Lib.hid hup
    have HW := Lib.hid hbw
    clear hup hbw HB1
    by_cases hlt : k < S.size
    · have hik : (k : Int) < S.size := by omega
      have hdl : decide ((k : Int) < (S.size : Int)) = true := by rw [decide_eq_true_iff]; omega
      have HX := Lib.hid (get_listS S k hlt)
      have hcl : (97 ≤ S[k].toNat ∧ S[k].toNat ≤ 122) ∨ 122 < S[k].toNat ∨ (57 < S[k].toNat ∧ S[k].toNat < 97) ∨ (48 ≤ S[k].toNat ∧ S[k].toNat ≤ 57) ∨ S[k].toNat < 48 := by omega
      rcases hcl with hc | hc | hc | hc | hc
      · have HA := Lib.hid (show aln S[k] = true by unfold aln; simp; omega)
        have ha1 : decide ((97 : Int) ≤ (S[k].toNat : Int)) = true := by rw [decide_eq_true_iff]; omega
        have ha2 : decide ((S[k].toNat : Int) ≤ 122) = true := by rw [decide_eq_true_iff]; omega
        have ha3 : decide ((48 : Int) ≤ (S[k].toNat : Int)) = true := by rw [decide_eq_true_iff]; omega
        have ha4 : decide ((S[k].toNat : Int) ≤ 57) = false := by rw [decide_eq_false_iff_not]; omega
        clear hc
        have HN := Lib.hid (alnTo_next HU.out HX.out HA.out)
        go_wp2
        go_roundw
        case rel =>
          have REL := Lib.hid (show ∃ k' : Nat, k' ≤ S.size ∧ Value.int .i64 ((k : Int) + 1) = .int .i64 k' ∧ alnTo S.data.toList k' ∧ Below w.heap.size w wr from ⟨k + 1, hlt, rfl, HN.out, HW.out⟩)
          first
            | exact REL.out
            | ((repeat apply Exists.intro); refine ⟨?_, rfl⟩; exact REL.out)
        case measure => (first | (simp [intOf]; done) | (simp [intOf]; omega))
      · have HA := Lib.hid (show aln S[k] = false by unfold aln; simp; omega)
        have ha1 : decide ((97 : Int) ≤ (S[k].toNat : Int)) = true := by rw [decide_eq_true_iff]; omega
        have ha2 : decide ((S[k].toNat : Int) ≤ 122) = false := by rw [decide_eq_false_iff_not]; omega
        have ha3 : decide ((48 : Int) ≤ (S[k].toNat : Int)) = true := by rw [decide_eq_true_iff]; omega
        have ha4 : decide ((S[k].toNat : Int) ≤ 57) = false := by rw [decide_eq_false_iff_not]; omega
        clear hc
        have HBAD := Lib.hid (at_bad HNO.out (fun h => by have := h.2.2 S[k] (List.mem_of_getElem? HX.out); rw [HA.out] at this; cases this))
        go_wp2
        refine bodyPost_ret (v := .tuple #[.string ⟨#[]⟩, .bool false]) (by simp [results, Tryd.results17, go_sem]) rfl ?_
        exact ⟨cp_none HBAD.out [] (by decide) rfl, HW.out⟩
      · have HA := Lib.hid (show aln S[k] = false by unfold aln; simp; omega)
        have ha1 : decide ((97 : Int) ≤ (S[k].toNat : Int)) = false := by rw [decide_eq_false_iff_not]; omega
        have ha2 : decide ((S[k].toNat : Int) ≤ 122) = true := by rw [decide_eq_true_iff]; omega
        have ha3 : decide ((48 : Int) ≤ (S[k].toNat : Int)) = true := by rw [decide_eq_true_iff]; omega
        have ha4 : decide ((S[k].toNat : Int) ≤ 57) = false := by rw [decide_eq_false_iff_not]; omega
        clear hc
        have HBAD := Lib.hid (at_bad HNO.out (fun h => by have := h.2.2 S[k] (List.mem_of_getElem? HX.out); rw [HA.out] at this; cases this))
        go_wp2
        refine bodyPost_ret (v := .tuple #[.string ⟨#[]⟩, .bool false]) (by simp [results, Tryd.results17, go_sem]) rfl ?_
        exact ⟨cp_none HBAD.out [] (by decide) rfl, HW.out⟩
      · have HA := Lib.hid (show aln S[k] = true by unfold aln; simp; omega)
        have ha1 : decide ((97 : Int) ≤ (S[k].toNat : Int)) = false := by rw [decide_eq_false_iff_not]; omega
        have ha2 : decide ((S[k].toNat : Int) ≤ 122) = true := by rw [decide_eq_true_iff]; omega
        have ha3 : decide ((48 : Int) ≤ (S[k].toNat : Int)) = true := by rw [decide_eq_true_iff]; omega
        have ha4 : decide ((S[k].toNat : Int) ≤ 57) = true := by rw [decide_eq_true_iff]; omega
        clear hc
        have HN := Lib.hid (alnTo_next HU.out HX.out HA.out)
        go_wp2
        go_roundw
        case rel =>
          have REL := Lib.hid (show ∃ k' : Nat, k' ≤ S.size ∧ Value.int .i64 ((k : Int) + 1) = .int .i64 k' ∧ alnTo S.data.toList k' ∧ Below w.heap.size w wr from ⟨k + 1, hlt, rfl, HN.out, HW.out⟩)
          first
            | exact REL.out
            | ((repeat apply Exists.intro); refine ⟨?_, rfl⟩; exact REL.out)
        case measure => (first | (simp [intOf]; done) | (simp [intOf]; omega))
      · have HA := Lib.hid (show aln S[k] = false by unfold aln; simp; omega)
        have ha1 : decide ((97 : Int) ≤ (S[k].toNat : Int)) = false := by rw [decide_eq_false_iff_not]; omega
        have ha2 : decide ((S[k].toNat : Int) ≤ 122) = true := by rw [decide_eq_true_iff]; omega
        have ha3 : decide ((48 : Int) ≤ (S[k].toNat : Int)) = false := by rw [decide_eq_false_iff_not]; omega
        have ha4 : decide ((S[k].toNat : Int) ≤ 57) = true := by rw [decide_eq_true_iff]; omega
        clear hc
        have HBAD := Lib.hid (at_bad HNO.out (fun h => by have := h.2.2 S[k] (List.mem_of_getElem? HX.out); rw [HA.out] at this; cases this))
        go_wp2
        refine bodyPost_ret (v := .tuple #[.string ⟨#[]⟩, .bool false]) (by simp [results, Tryd.results17, go_sem]) rfl ?_
        exact ⟨cp_none HBAD.out [] (by decide) rfl, HW.out⟩
    · obtain rfl : k = S.size := by omega
      have hdl : decide ((S.size : Int) < (S.size : Int)) = false := by simp
      have HALL := Lib.hid (show ∀ c ∈ S.data.toList, aln c = true from fun c hc => by
        obtain ⟨j, hj⟩ := List.getElem?_of_mem hc
        exact HU.out j c (by have := (List.getElem?_eq_some_iff.1 hj).1; rw [HL.out] at this; exact this) hj)
      by_cases h1 : 1 ≤ S.size
      · have d1 : decide ((1 : Int) ≤ (S.size : Int)) = true := by rw [decide_eq_true_iff]; omega
        have d1n : decide (1 ≤ S.size) = true := by rw [decide_eq_true_iff]; exact h1
        by_cases h16 : S.size ≤ 16
        · have d2 : decide ((S.size : Int) ≤ 16) = true := by rw [decide_eq_true_iff]; omega
          have d2n : decide (S.size ≤ 16) = true := by rw [decide_eq_true_iff]; exact h16
          have HOK := Lib.hid ((aln_no HNO.out).2 ⟨⟨fun e => by have := HL.out; rw [e] at this; simp at this; omega, by rw [HL.out]; exact h16, HALL.out⟩, rfl⟩)
          clear h1 h16
          go_wp2
          refine bodyPost_ret (v := .tuple #[.string S, .bool true]) (by simp [results, Tryd.results17, go_sem]) rfl ?_
          exact ⟨cp_some HOK.out rfl, HW.out⟩
        · have d2 : decide ((S.size : Int) ≤ 16) = false := by rw [decide_eq_false_iff_not]; omega
          have d2n : decide (S.size ≤ 16) = false := by rw [decide_eq_false_iff_not]; exact h16
          have HBAD := Lib.hid (at_bad HNO.out (fun h => by have := h.2.1; rw [HL.out] at this; omega))
          clear h1 h16
          go_wp2
          refine bodyPost_ret (v := .tuple #[.string S, .bool false]) (by simp [results, Tryd.results17, go_sem]) rfl ?_
          exact ⟨cp_none HBAD.out S.data.toList HSL.out rfl, HW.out⟩
      · have d1 : decide ((1 : Int) ≤ (S.size : Int)) = false := by rw [decide_eq_false_iff_not]; omega
        have d1n : decide (1 ≤ S.size) = false := by rw [decide_eq_false_iff_not]; exact h1
        have HBAD := Lib.hid (at_bad HNO.out (fun h => h.1 (List.eq_nil_of_length_eq_zero (by rw [HL.out]; omega))))
        clear h1
        go_wp2
        refine bodyPost_ret (v := .tuple #[.string S, .bool false]) (by simp [results, Tryd.results17, go_sem]) rfl ?_
        exact ⟨cp_none HBAD.out S.data.toList HSL.out rfl, HW.out⟩
set_option maxRecDepth 20000 in
set_option maxHeartbeats 8000000 in
theorem RCanon_last (w : World) (S : ByteArray) (x : List UInt8) (ps : List (List UInt8)) (k : Nat) (hs : S.data.toList.length ≤ 100000) (hsp : spl S.data.toList = (x, ps)) (hp0 : 0 < ps.length) (hpl : ps.length ≤ 100000) (hk : S.data.toList.length = k + 1) (hbad : S.data.toList[k]? ≠ some 41) :
    Calls Tryd.prog 17 #[.string S] w fun e w' => (∃ y : List UInt8, y.length ≤ 100000 ∧ e = .returned (.tuple #[.string (strB y), .bool false])) ∧ Below w.heap.size w w' := by
  obtain ⟨n, hn⟩ : ∃ n, (List.map encStr ps).length = n := ⟨_, rfl⟩
  have HPN := Lib.hid hn
  have HL := Lib.hid (show S.data.toList.length = S.size from Array.length_toList)
  have hsz : S.size ≤ 100000 := by rw [← HL.out]; exact hs
  have hnl : n ≤ 100000 := by rw [List.length_map] at hn; omega
  have hn0 : ((n : Int) == 0) = false := by rw [beq_eq_false_iff_ne]; rw [List.length_map] at hn; omega
  have hkz : (S.size : Int) - 1 = (k : Int) := by rw [HL.out] at hk; omega
  have hki : (k : Int) < S.size := by rw [HL.out] at hk; omega
  have hkn : k < S.size := by rw [HL.out] at hk; omega
  have HSP := Lib.hid hsp
  have HX := Lib.hid (get_listS S k hkn)
  have hne : ((S[k].toNat : Int) != 41) = true := by
    rw [bne_iff_ne]; intro e
    exact hbad (by rw [HX.out, show S[k] = 41 from UInt8.toNat_inj.1 (by have : (41 : UInt8).toNat = 41 := rfl; omega)])
  clear hk hbad hp0 hs hsp hn hpl
  have hat : ∃ bb, ((strB x).toList == [97, 116, 111, 109]) = bb := ⟨_, rfl⟩
  obtain ⟨bb, hat⟩ := hat
  go_enter Tryd.func17, Tryd.ntmps17
  cases bb
  all_goals
    go_wp2_with (go_at_call 18; refine (RSplit_any w S hsz).mono ?_; rintro e W1 ⟨v1, rfl, ho1, hb1⟩; rw [HSP.out] at ho1 ⊢; obtain ⟨A1, c1, rfl, hr1, _⟩ := ho1.form; rw [show (List.map encStr ps).length = n from HPN.out]; have HR1 := Lib.hid hr1; clear ho1 hr1; skip; have HB1 := Lib.hid hb1; clear hb1)
    refine bodyPost_ret (v := .tuple #[.string ⟨#[]⟩, .bool false]) (by simp [results, Tryd.results17, go_sem]) rfl ?_
    exact ⟨⟨[], by decide, rfl⟩, HB1.out⟩
set_option maxRecDepth 20000 in
set_option maxHeartbeats 8000000 in
theorem RCanon_cnt (w : World) (S : ByteArray) (x : List UInt8) (ps : List (List UInt8)) (k : Nat) (hs : S.data.toList.length ≤ 100000) (hsp : spl S.data.toList = (x, ps)) (hp0 : 0 < ps.length) (hpl : ps.length ≤ 100000) (hk : S.data.toList.length = k + 1) (hgood : S.data.toList[k]? = some 41) (hc : cnt x ≠ ps.length) :
    Calls Tryd.prog 17 #[.string S] w fun e w' => (∃ y : List UInt8, y.length ≤ 100000 ∧ e = .returned (.tuple #[.string (strB y), .bool false])) ∧ Below w.heap.size w w' := by
  obtain ⟨n, hn⟩ : ∃ n, (List.map encStr ps).length = n := ⟨_, rfl⟩
  have HPN := Lib.hid hn
  have HL := Lib.hid (show S.data.toList.length = S.size from Array.length_toList)
  have hsz : S.size ≤ 100000 := by rw [← HL.out]; exact hs
  have hnl : n ≤ 100000 := by rw [List.length_map] at hn; omega
  have hn0 : ((n : Int) == 0) = false := by rw [beq_eq_false_iff_ne]; rw [List.length_map] at hn; omega
  have hkz : (S.size : Int) - 1 = (k : Int) := by rw [HL.out] at hk; omega
  have hki : (k : Int) < S.size := by rw [HL.out] at hk; omega
  have hkn : k < S.size := by rw [HL.out] at hk; omega
  have HSP := Lib.hid hsp
  have HX := Lib.hid (get_listS S k hkn)
  have hne : ((S[k].toNat : Int) != 41) = false := by
    rw [HX.out] at hgood
    rw [Option.some.inj hgood]; rfl
  obtain ⟨m, hm⟩ : ∃ m, cnt x = m := ⟨_, rfl⟩
  have HCM := Lib.hid hm
  have hcn : ((m : Int) != (n : Int)) = true := by rw [bne_iff_ne]; rw [List.length_map] at hn; omega
  clear hk hgood hp0 hs hsp hn hpl hc hm
  have hat : ∃ bb, ((strB x).toList == [97, 116, 111, 109]) = bb := ⟨_, rfl⟩
  obtain ⟨bb, hat⟩ := hat
  go_enter Tryd.func17, Tryd.ntmps17
  cases bb
  all_goals
    go_wp2_with (first
      | (go_at_call 18; refine (RSplit_any w S hsz).mono ?_; rintro e W1 ⟨v1, rfl, ho1, hb1⟩; rw [HSP.out] at ho1 ⊢; obtain ⟨A1, c1, rfl, hr1, _⟩ := ho1.form; rw [show (List.map encStr ps).length = n from HPN.out]; have HR1 := Lib.hid hr1; clear ho1 hr1; skip; have HB1 := Lib.hid hb1; clear hb1)
      | (go_at_call 30; refine (RCount_any _ x).mono ?_; rw [HCM.out]; rintro e W2 ⟨rfl, hb2⟩; skip; have HB2 := Lib.hid (HB1.out.trans (hb2.mono HB1.out.size)); have HR2 := Lib.hid (HR1.out.below hb2); clear hb2))
    refine bodyPost_ret (v := .tuple #[.string ⟨#[]⟩, .bool false]) (by simp [results, Tryd.results17, go_sem]) rfl ?_
    exact ⟨⟨[], by decide, rfl⟩, HB2.out⟩
set_option maxRecDepth 20000 in
set_option maxHeartbeats 8000000 in
theorem RCanon_1n (w : World) (S : ByteArray) (x : List UInt8) (p : List UInt8) (k : Nat) (hs : S.data.toList.length ≤ 100000) (hsp : spl S.data.toList = (x, [p])) (hk : S.data.toList.length = k + 1) (hgood : S.data.toList[k]? = some 41) (hc : cnt x = 1) (hy0 : ∀ W, Calls Tryd.prog 17 #[.string (strB p)] W fun e w' => (∃ y : List UInt8, y.length ≤ 100000 ∧ e = .returned (.tuple #[.string (strB y), .bool false])) ∧ Below W.heap.size W w') :
    Calls Tryd.prog 17 #[.string S] w fun e w' => (∃ y : List UInt8, y.length ≤ 100000 ∧ e = .returned (.tuple #[.string (strB y), .bool false])) ∧ Below w.heap.size w w' := by
  have HL := Lib.hid (show S.data.toList.length = S.size from Array.length_toList)
  have hsz : S.size ≤ 100000 := by rw [← HL.out]; exact hs
  have hkz : (S.size : Int) - 1 = (k : Int) := by rw [HL.out] at hk; omega
  have hki : (k : Int) < S.size := by rw [HL.out] at hk; omega
  have hkn : k < S.size := by rw [HL.out] at hk; omega
  have HSP := Lib.hid hsp
  have HX := Lib.hid (get_listS S k hkn)
  have hne : ((S[k].toNat : Int) != 41) = false := by
    rw [HX.out] at hgood
    rw [Option.some.inj hgood]; rfl
  have HCM := Lib.hid hc
  have HY3 := Lib.hid hy0
  clear hk hgood hs hsp hc hy0
  have hat : ∃ bb, ((strB x).toList == [97, 116, 111, 109]) = bb := ⟨_, rfl⟩
  obtain ⟨bb, hat⟩ := hat
  go_enter Tryd.func17, Tryd.ntmps17
  cases bb
  all_goals
    go_wp2_with (first
      | (go_at_call 18; refine (RSplit_any w S hsz).mono ?_; rintro e W1 ⟨v1, rfl, ho1, hb1⟩; rw [HSP.out] at ho1 ⊢; obtain ⟨A1, c1, rfl, hr1, _⟩ := ho1.form; obtain ⟨bk, o, rfl, hlb, -⟩ := hr1.place (by simp); rw [show (List.map encStr [p]).length = 1 from rfl]; have HR1 := Lib.hid hr1; clear ho1 hr1 hlb; skip; have HB1 := Lib.hid hb1; clear hb1)
      | (go_at_call 30; refine (RCount_any _ x).mono ?_; rw [HCM.out]; rintro e W2 ⟨rfl, hb2⟩; skip; have HB2 := Lib.hid (HB1.out.trans (hb2.mono HB1.out.size)); have HR2 := Lib.hid (HR1.out.below hb2); clear hb2))
    have HOX := Lib.hid (Owns.new W2 W2.heap.size 9 [] (Nat.le_refl _) (by decide))
    have HCX := Lib.hid (show Below W2.heap.size W2 (W2.alloc (.cells #[] 9)) from (Below.refl _ _).alloc (Nat.le_refl _) _)
    have c0 : (W2.alloc (.cells #[] 9)).cell? ⟨bk, o, none⟩ = some (.string (strB p)) := rd_at (HR2.out.below HCX.out) (j := 0) rfl
    rw [show ([] : List Value).toArray = #[] from rfl] at HOX
    generalize W2.alloc (.cells #[] 9) = X at *
    refine wp_loop_rounds 2 ?_
    rw [rounds_succ]
    go_wp2_with (go_at_call 17; refine (HY3.out _).mono ?_; rintro e W3 ⟨⟨y3, _, rfl⟩, hb3⟩; skip; have HC3 := Lib.hid (HCX.out.trans (hb3.mono HCX.out.size)); clear hb3)
    refine bodyPost_ret (v := .tuple #[.string ⟨#[]⟩, .bool false]) (by simp [results, Tryd.results17, go_sem]) rfl ?_
    exact ⟨⟨[], by decide, rfl⟩, HB2.out.trans (HC3.out.mono HB2.out.size)⟩
set_option maxRecDepth 20000 in
set_option maxHeartbeats 8000000 in
theorem RCanon_1s (w : World) (S : ByteArray) (x : List UInt8) (p : List UInt8) (a : Tm) (k : Nat) (hs : S.data.toList.length ≤ 100000) (hsp : spl S.data.toList = (x, [p])) (hk : S.data.toList.length = k + 1) (hgood : S.data.toList[k]? = some 41) (hc : cnt x = 1) (hnum : numW x < 3) (hxl : x.length ≤ 100000) (hal : a.txt.length ≤ 100000) (hy0 : ∀ W, Calls Tryd.prog 17 #[.string (strB p)] W fun e w' => e = .returned (.tuple #[.string (strB a.txt), .bool true]) ∧ Below W.heap.size W w') :
    Calls Tryd.prog 17 #[.string S] w fun e w' => e = .returned (.tuple #[.string (strB (Tm.one (numW x) a).txt), .bool true]) ∧ Below w.heap.size w w' := by
  have HL := Lib.hid (show S.data.toList.length = S.size from Array.length_toList)
  have hsz : S.size ≤ 100000 := by rw [← HL.out]; exact hs
  have hkz : (S.size : Int) - 1 = (k : Int) := by rw [HL.out] at hk; omega
  have hki : (k : Int) < S.size := by rw [HL.out] at hk; omega
  have hkn : k < S.size := by rw [HL.out] at hk; omega
  have HSP := Lib.hid hsp
  have HX := Lib.hid (get_listS S k hkn)
  have hne : ((S[k].toNat : Int) != 41) = false := by
    rw [HX.out] at hgood
    rw [Option.some.inj hgood]; rfl
  have HCM := Lib.hid hc
  have HY3 := Lib.hid hy0
  have HG := Lib.hid hnum
  have HXL := Lib.hid hxl
  have HAL := Lib.hid hal
  clear hk hgood hs hsp hc hy0 hnum hxl hal
  have hat : ∃ bb, ((strB x).toList == [97, 116, 111, 109]) = bb := ⟨_, rfl⟩
  obtain ⟨bb, hat⟩ := hat
  go_enter Tryd.func17, Tryd.ntmps17
  cases bb
  all_goals
    go_wp2_with (first
      | (go_at_call 18; refine (RSplit_any w S hsz).mono ?_; rintro e W1 ⟨v1, rfl, ho1, hb1⟩; rw [HSP.out] at ho1 ⊢; obtain ⟨A1, c1, rfl, hr1, _⟩ := ho1.form; obtain ⟨bk, o, rfl, hlb, -⟩ := hr1.place (by simp); rw [show (List.map encStr [p]).length = 1 from rfl]; have HR1 := Lib.hid hr1; clear ho1 hr1 hlb; skip; have HB1 := Lib.hid hb1; clear hb1)
      | (go_at_call 30; refine (RCount_any _ x).mono ?_; rw [HCM.out]; rintro e W2 ⟨rfl, hb2⟩; skip; have HB2 := Lib.hid (HB1.out.trans (hb2.mono HB1.out.size)); have HR2 := Lib.hid (HR1.out.below hb2); clear hb2))
    have HOX := Lib.hid (Owns.new W2 W2.heap.size 9 [] (Nat.le_refl _) (by decide))
    have HCX := Lib.hid (show Below W2.heap.size W2 (W2.alloc (.cells #[] 9)) from (Below.refl _ _).alloc (Nat.le_refl _) _)
    have c0 : (W2.alloc (.cells #[] 9)).cell? ⟨bk, o, none⟩ = some (.string (strB p)) := rd_at (HR2.out.below HCX.out) (j := 0) rfl
    rw [show ([] : List Value).toArray = #[] from rfl] at HOX
    generalize W2.alloc (.cells #[] 9) = X at *
    refine wp_loop_rounds 2 ?_
    rw [rounds_succ]
    go_wp2_with (first
      | (go_at_call 17; refine (HY3.out _).mono ?_; rintro e W3 ⟨rfl, hb3⟩; skip; have HC3 := Lib.hid (HCX.out.trans (hb3.mono HCX.out.size)); have HO3 := Lib.hid (HOX.out.below hb3); clear hb3)
      | (refine app1 rfl _ _ 22 rfl (E := 9) (z := .string ⟨#[]⟩) (by' := 16) rfl rfl rfl (by decide) HO3.out rfl rfl rfl (by simp) HC3.out.size ?_; rintro v4 W4 h2 h3 h4; skip; have HO4 := Lib.hid h2; have HC4 := Lib.hid (own_grown HC3.out HO3.out h3); clear h2 h3 h4))
    obtain ⟨A9, c9, rfl, hrw, _⟩ := HO4.out.form
    have HRW := Lib.hid (show Rd W4 A9 ([a.txt].map encStr) from hrw)
    clear hrw
    rw [rounds_succ]
    go_wp2_with (go_at_call 31; refine (RWrite_mk1 _ _ _ x a HG.out HXL.out HAL.out HRW.out).mono ?_; rintro e W9 ⟨rfl, hb9⟩; skip; have HC9 := Lib.hid (HC4.out.trans (hb9.mono HC4.out.size)); clear hb9)
    refine bodyPost_ret (v := .tuple #[.string (strB (Tm.one (numW x) a).txt), .bool true]) (by simp [results, Tryd.results17, go_sem]) rfl ?_
    exact ⟨rfl, HB2.out.trans (HC9.out.mono HB2.out.size)⟩
set_option maxRecDepth 20000 in
set_option maxHeartbeats 8000000 in
theorem RCanon_2n (w : World) (S : ByteArray) (x : List UInt8) (p q : List UInt8) (k : Nat) (hs : S.data.toList.length ≤ 100000) (hsp : spl S.data.toList = (x, [p, q])) (hk : S.data.toList.length = k + 1) (hgood : S.data.toList[k]? = some 41) (hc : cnt x = 2) (hy0 : ∀ W, Calls Tryd.prog 17 #[.string (strB p)] W fun e w' => (∃ y : List UInt8, y.length ≤ 100000 ∧ e = .returned (.tuple #[.string (strB y), .bool false])) ∧ Below W.heap.size W w') :
    Calls Tryd.prog 17 #[.string S] w fun e w' => (∃ y : List UInt8, y.length ≤ 100000 ∧ e = .returned (.tuple #[.string (strB y), .bool false])) ∧ Below w.heap.size w w' := by
  have HL := Lib.hid (show S.data.toList.length = S.size from Array.length_toList)
  have hsz : S.size ≤ 100000 := by rw [← HL.out]; exact hs
  have hkz : (S.size : Int) - 1 = (k : Int) := by rw [HL.out] at hk; omega
  have hki : (k : Int) < S.size := by rw [HL.out] at hk; omega
  have hkn : k < S.size := by rw [HL.out] at hk; omega
  have HSP := Lib.hid hsp
  have HX := Lib.hid (get_listS S k hkn)
  have hne : ((S[k].toNat : Int) != 41) = false := by
    rw [HX.out] at hgood
    rw [Option.some.inj hgood]; rfl
  have HCM := Lib.hid hc
  have HY3 := Lib.hid hy0
  clear hk hgood hs hsp hc hy0
  have hat : ∃ bb, ((strB x).toList == [97, 116, 111, 109]) = bb := ⟨_, rfl⟩
  obtain ⟨bb, hat⟩ := hat
  go_enter Tryd.func17, Tryd.ntmps17
  cases bb
  all_goals
    go_wp2_with (first
      | (go_at_call 18; refine (RSplit_any w S hsz).mono ?_; rintro e W1 ⟨v1, rfl, ho1, hb1⟩; rw [HSP.out] at ho1 ⊢; obtain ⟨A1, c1, rfl, hr1, _⟩ := ho1.form; obtain ⟨bk, o, rfl, hlb, -⟩ := hr1.place (by simp); rw [show (List.map encStr [p, q]).length = 2 from rfl]; have HR1 := Lib.hid hr1; clear ho1 hr1 hlb; skip; have HB1 := Lib.hid hb1; clear hb1)
      | (go_at_call 30; refine (RCount_any _ x).mono ?_; rw [HCM.out]; rintro e W2 ⟨rfl, hb2⟩; skip; have HB2 := Lib.hid (HB1.out.trans (hb2.mono HB1.out.size)); have HR2 := Lib.hid (HR1.out.below hb2); clear hb2))
    have HOX := Lib.hid (Owns.new W2 W2.heap.size 9 [] (Nat.le_refl _) (by decide))
    have HCX := Lib.hid (show Below W2.heap.size W2 (W2.alloc (.cells #[] 9)) from (Below.refl _ _).alloc (Nat.le_refl _) _)
    have c0 : (W2.alloc (.cells #[] 9)).cell? ⟨bk, o, none⟩ = some (.string (strB p)) := rd_at (HR2.out.below HCX.out) (j := 0) rfl
    rw [show ([] : List Value).toArray = #[] from rfl] at HOX
    generalize W2.alloc (.cells #[] 9) = X at *
    refine wp_loop_rounds 3 ?_
    rw [rounds_succ]
    go_wp2_with (go_at_call 17; refine (HY3.out _).mono ?_; rintro e W3 ⟨⟨y3, _, rfl⟩, hb3⟩; skip; have HC3 := Lib.hid (HCX.out.trans (hb3.mono HCX.out.size)); clear hb3)
    refine bodyPost_ret (v := .tuple #[.string ⟨#[]⟩, .bool false]) (by simp [results, Tryd.results17, go_sem]) rfl ?_
    exact ⟨⟨[], by decide, rfl⟩, HB2.out.trans (HC3.out.mono HB2.out.size)⟩
set_option maxRecDepth 20000 in
set_option maxHeartbeats 8000000 in
theorem RCanon_2sn (w : World) (S : ByteArray) (x : List UInt8) (p q : List UInt8) (a : Tm) (k : Nat) (hs : S.data.toList.length ≤ 100000) (hsp : spl S.data.toList = (x, [p, q])) (hk : S.data.toList.length = k + 1) (hgood : S.data.toList[k]? = some 41) (hc : cnt x = 2) (hy0 : ∀ W, Calls Tryd.prog 17 #[.string (strB p)] W fun e w' => e = .returned (.tuple #[.string (strB a.txt), .bool true]) ∧ Below W.heap.size W w') (hy1 : ∀ W, Calls Tryd.prog 17 #[.string (strB q)] W fun e w' => (∃ y : List UInt8, y.length ≤ 100000 ∧ e = .returned (.tuple #[.string (strB y), .bool false])) ∧ Below W.heap.size W w') :
    Calls Tryd.prog 17 #[.string S] w fun e w' => (∃ y : List UInt8, y.length ≤ 100000 ∧ e = .returned (.tuple #[.string (strB y), .bool false])) ∧ Below w.heap.size w w' := by
  have HL := Lib.hid (show S.data.toList.length = S.size from Array.length_toList)
  have hsz : S.size ≤ 100000 := by rw [← HL.out]; exact hs
  have hkz : (S.size : Int) - 1 = (k : Int) := by rw [HL.out] at hk; omega
  have hki : (k : Int) < S.size := by rw [HL.out] at hk; omega
  have hkn : k < S.size := by rw [HL.out] at hk; omega
  have HSP := Lib.hid hsp
  have HX := Lib.hid (get_listS S k hkn)
  have hne : ((S[k].toNat : Int) != 41) = false := by
    rw [HX.out] at hgood
    rw [Option.some.inj hgood]; rfl
  have HCM := Lib.hid hc
  have HY3 := Lib.hid hy0
  have HY5 := Lib.hid hy1
  clear hk hgood hs hsp hc hy0 hy1
  have hat : ∃ bb, ((strB x).toList == [97, 116, 111, 109]) = bb := ⟨_, rfl⟩
  obtain ⟨bb, hat⟩ := hat
  go_enter Tryd.func17, Tryd.ntmps17
  cases bb
  all_goals
    go_wp2_with (first
      | (go_at_call 18; refine (RSplit_any w S hsz).mono ?_; rintro e W1 ⟨v1, rfl, ho1, hb1⟩; rw [HSP.out] at ho1 ⊢; obtain ⟨A1, c1, rfl, hr1, _⟩ := ho1.form; obtain ⟨bk, o, rfl, hlb, -⟩ := hr1.place (by simp); rw [show (List.map encStr [p, q]).length = 2 from rfl]; have HR1 := Lib.hid hr1; clear ho1 hr1 hlb; skip; have HB1 := Lib.hid hb1; clear hb1)
      | (go_at_call 30; refine (RCount_any _ x).mono ?_; rw [HCM.out]; rintro e W2 ⟨rfl, hb2⟩; skip; have HB2 := Lib.hid (HB1.out.trans (hb2.mono HB1.out.size)); have HR2 := Lib.hid (HR1.out.below hb2); clear hb2))
    have HOX := Lib.hid (Owns.new W2 W2.heap.size 9 [] (Nat.le_refl _) (by decide))
    have HCX := Lib.hid (show Below W2.heap.size W2 (W2.alloc (.cells #[] 9)) from (Below.refl _ _).alloc (Nat.le_refl _) _)
    have c0 : (W2.alloc (.cells #[] 9)).cell? ⟨bk, o, none⟩ = some (.string (strB p)) := rd_at (HR2.out.below HCX.out) (j := 0) rfl
    rw [show ([] : List Value).toArray = #[] from rfl] at HOX
    generalize W2.alloc (.cells #[] 9) = X at *
    refine wp_loop_rounds 3 ?_
    rw [rounds_succ]
    go_wp2_with (first
      | (go_at_call 17; refine (HY3.out _).mono ?_; rintro e W3 ⟨rfl, hb3⟩; skip; have HC3 := Lib.hid (HCX.out.trans (hb3.mono HCX.out.size)); have HO3 := Lib.hid (HOX.out.below hb3); clear hb3)
      | (refine app1 rfl _ _ 22 rfl (E := 9) (z := .string ⟨#[]⟩) (by' := 16) rfl rfl rfl (by decide) HO3.out rfl rfl rfl (by simp) HC3.out.size ?_; rintro v4 W4 h2 h3 h4; skip; have HO4 := Lib.hid h2; have HC4 := Lib.hid (own_grown HC3.out HO3.out h3); clear h2 h3 h4))
    have c1 : W4.cell? ⟨bk, o + 1, none⟩ = some (.string (strB q)) := rd_at (HR2.out.below HC4.out) (j := 1) rfl
    rw [rounds_succ]
    go_wp2_with (go_at_call 17; refine (HY5.out _).mono ?_; rintro e W5 ⟨⟨y5, _, rfl⟩, hb5⟩; skip; have HC5 := Lib.hid (HC4.out.trans (hb5.mono HC4.out.size)); clear hb5)
    refine bodyPost_ret (v := .tuple #[.string ⟨#[]⟩, .bool false]) (by simp [results, Tryd.results17, go_sem]) rfl ?_
    exact ⟨⟨[], by decide, rfl⟩, HB2.out.trans (HC5.out.mono HB2.out.size)⟩
set_option maxRecDepth 20000 in
set_option maxHeartbeats 8000000 in
theorem RCanon_2ss (w : World) (S : ByteArray) (x : List UInt8) (p q : List UInt8) (a b : Tm) (k : Nat) (hs : S.data.toList.length ≤ 100000) (hsp : spl S.data.toList = (x, [p, q])) (hk : S.data.toList.length = k + 1) (hgood : S.data.toList[k]? = some 41) (hc : cnt x = 2) (hnum : numW x < 7) (hxl : x.length ≤ 100000) (hal : a.txt.length ≤ 100000) (hbl : b.txt.length ≤ 100000) (hy0 : ∀ W, Calls Tryd.prog 17 #[.string (strB p)] W fun e w' => e = .returned (.tuple #[.string (strB a.txt), .bool true]) ∧ Below W.heap.size W w') (hy1 : ∀ W, Calls Tryd.prog 17 #[.string (strB q)] W fun e w' => e = .returned (.tuple #[.string (strB b.txt), .bool true]) ∧ Below W.heap.size W w') :
    Calls Tryd.prog 17 #[.string S] w fun e w' => e = .returned (.tuple #[.string (strB (mk2 (numW x) a b).txt), .bool true]) ∧ Below w.heap.size w w' := by
  have HL := Lib.hid (show S.data.toList.length = S.size from Array.length_toList)
  have hsz : S.size ≤ 100000 := by rw [← HL.out]; exact hs
  have hkz : (S.size : Int) - 1 = (k : Int) := by rw [HL.out] at hk; omega
  have hki : (k : Int) < S.size := by rw [HL.out] at hk; omega
  have hkn : k < S.size := by rw [HL.out] at hk; omega
  have HSP := Lib.hid hsp
  have HX := Lib.hid (get_listS S k hkn)
  have hne : ((S[k].toNat : Int) != 41) = false := by
    rw [HX.out] at hgood
    rw [Option.some.inj hgood]; rfl
  have HCM := Lib.hid hc
  have HY3 := Lib.hid hy0
  have HY5 := Lib.hid hy1
  have HG := Lib.hid hnum
  have HXL := Lib.hid hxl
  have HAL := Lib.hid hal
  have HBL := Lib.hid hbl
  clear hk hgood hs hsp hc hy0 hy1 hnum hxl hal hbl
  have hat : ∃ bb, ((strB x).toList == [97, 116, 111, 109]) = bb := ⟨_, rfl⟩
  obtain ⟨bb, hat⟩ := hat
  go_enter Tryd.func17, Tryd.ntmps17
  cases bb
  all_goals
    go_wp2_with (first
      | (go_at_call 18; refine (RSplit_any w S hsz).mono ?_; rintro e W1 ⟨v1, rfl, ho1, hb1⟩; rw [HSP.out] at ho1 ⊢; obtain ⟨A1, c1, rfl, hr1, _⟩ := ho1.form; obtain ⟨bk, o, rfl, hlb, -⟩ := hr1.place (by simp); rw [show (List.map encStr [p, q]).length = 2 from rfl]; have HR1 := Lib.hid hr1; clear ho1 hr1 hlb; skip; have HB1 := Lib.hid hb1; clear hb1)
      | (go_at_call 30; refine (RCount_any _ x).mono ?_; rw [HCM.out]; rintro e W2 ⟨rfl, hb2⟩; skip; have HB2 := Lib.hid (HB1.out.trans (hb2.mono HB1.out.size)); have HR2 := Lib.hid (HR1.out.below hb2); clear hb2))
    have HOX := Lib.hid (Owns.new W2 W2.heap.size 9 [] (Nat.le_refl _) (by decide))
    have HCX := Lib.hid (show Below W2.heap.size W2 (W2.alloc (.cells #[] 9)) from (Below.refl _ _).alloc (Nat.le_refl _) _)
    have c0 : (W2.alloc (.cells #[] 9)).cell? ⟨bk, o, none⟩ = some (.string (strB p)) := rd_at (HR2.out.below HCX.out) (j := 0) rfl
    rw [show ([] : List Value).toArray = #[] from rfl] at HOX
    generalize W2.alloc (.cells #[] 9) = X at *
    refine wp_loop_rounds 3 ?_
    rw [rounds_succ]
    go_wp2_with (first
      | (go_at_call 17; refine (HY3.out _).mono ?_; rintro e W3 ⟨rfl, hb3⟩; skip; have HC3 := Lib.hid (HCX.out.trans (hb3.mono HCX.out.size)); have HO3 := Lib.hid (HOX.out.below hb3); clear hb3)
      | (refine app1 rfl _ _ 22 rfl (E := 9) (z := .string ⟨#[]⟩) (by' := 16) rfl rfl rfl (by decide) HO3.out rfl rfl rfl (by simp) HC3.out.size ?_; rintro v4 W4 h2 h3 h4; skip; have HO4 := Lib.hid h2; have HC4 := Lib.hid (own_grown HC3.out HO3.out h3); clear h2 h3 h4))
    have c1 : W4.cell? ⟨bk, o + 1, none⟩ = some (.string (strB q)) := rd_at (HR2.out.below HC4.out) (j := 1) rfl
    rw [rounds_succ]
    go_wp2_with (first
      | (go_at_call 17; refine (HY5.out _).mono ?_; rintro e W5 ⟨rfl, hb5⟩; skip; have HC5 := Lib.hid (HC4.out.trans (hb5.mono HC4.out.size)); have HO5 := Lib.hid (HO4.out.below hb5); clear hb5)
      | (refine app1 rfl _ _ 22 rfl (E := 9) (z := .string ⟨#[]⟩) (by' := 16) rfl rfl rfl (by decide) HO5.out rfl rfl rfl (by simp) HC5.out.size ?_; rintro v6 W6 h2 h3 h4; skip; have HO6 := Lib.hid h2; have HC6 := Lib.hid (own_grown HC5.out HO5.out h3); clear h2 h3 h4))
    obtain ⟨A9, c9, rfl, hrw, _⟩ := HO6.out.form
    have HRW := Lib.hid (show Rd W6 A9 ([a.txt, b.txt].map encStr) from hrw)
    clear hrw
    rw [rounds_succ]
    go_wp2_with (go_at_call 31; refine (RWrite_mk _ _ _ x a b HG.out HXL.out HAL.out HBL.out HRW.out).mono ?_; rintro e W9 ⟨rfl, hb9⟩; skip; have HC9 := Lib.hid (HC6.out.trans (hb9.mono HC6.out.size)); clear hb9)
    refine bodyPost_ret (v := .tuple #[.string (strB (mk2 (numW x) a b).txt), .bool true]) (by simp [results, Tryd.results17, go_sem]) rfl ?_
    exact ⟨rfl, HB2.out.trans (HC9.out.mono HB2.out.size)⟩
/-- the reference's Canon -/
theorem RCanon_any : ∀ (f : Nat) (w : World) (s : List UInt8), s.length < f → s.length ≤ 100000 → Calls Tryd.prog 17 #[.string (strB s)] w fun e w' => CPost (parse s) e ∧ Below w.heap.size w w'
  | 0, _, s, h, _ => absurd h (by omega)
  | f + 1, w, s, hf, hs => by
    by_cases h4 : (40 : UInt8) ∈ s
    · have hne : s.length ≠ 0 := fun e => by rw [List.eq_nil_of_length_eq_zero e] at h4; simp at h4
      obtain ⟨k, hk⟩ : ∃ k, s.length = k + 1 := ⟨s.length - 1, by omega⟩
      obtain ⟨x0, r0, hx0, hn0⟩ := split40 h4
      have hsp := spl_at hn0 r0
      rw [← hx0] at hsp
      have hpos : 0 < (sc r0.dropLast 0 []).length := List.length_pos_iff.2 (sc_ne _ _ _)
      have hlen : (sc r0.dropLast 0 []).length ≤ 100000 := by
        have h1 := sc_cnt r0.dropLast
        have h2 := congrArg List.length hx0
        simp at h1 h2
        omega
      by_cases hlast : s[k]? = some 41
      · obtain ⟨x, m, rfl, hx⟩ := last_good h4 hk hlast
        have hsp := spl_at hx (m ++ [41])
        rw [List.dropLast_concat] at hsp
        have hm : ∀ y ∈ sc m 0 [], y.length < f ∧ y.length ≤ 100000 := fun y hy => by
          have h1 := sc_len hy
          simp at hf hs
          omega
        have hxl : x.length ≤ 100000 := by simp at hs; omega
        by_cases hc : cnt x = (sc m 0 []).length
        · rcases cnt_good hc with ⟨p, hps, hnum⟩ | ⟨p, q, hps, h3, h7⟩
          · have hp := hm p (by rw [hps]; simp)
            rw [hps] at hsp hc
            have ih := fun W => RCanon_any f W p hp.1 hp.2
            cases ha : parse p with
            | none =>
              refine (RCanon_1n w (strB _) x p k hs hsp hk hlast hc (fun W => (ih W).mono ?_)).mono ?_
              · rintro e w' ⟨h, hb⟩; rw [ha] at h; exact ⟨h, hb⟩
              · rintro e w' ⟨⟨y, hy, rfl⟩, hb⟩; exact ⟨cp_none (one_none hx hps ha) y hy rfl, hb⟩
            | some a =>
              refine (RCanon_1s w (strB _) x p a k hs hsp hk hlast hc hnum hxl (by rw [parse_len ha]; exact hp.2) (fun W => (ih W).mono ?_)).mono ?_
              · rintro e w' ⟨h, hb⟩; rw [ha] at h; exact ⟨h, hb⟩
              · rintro e w' ⟨rfl, hb⟩; exact ⟨cp_some (one_some hx hps hnum ha) rfl, hb⟩
          · have hp := hm p (by rw [hps]; simp)
            have hq := hm q (by rw [hps]; simp)
            rw [hps] at hsp hc
            have ih := fun W => RCanon_any f W p hp.1 hp.2
            have ih2 := fun W => RCanon_any f W q hq.1 hq.2
            cases ha : parse p with
            | none =>
              refine (RCanon_2n w (strB _) x p q k hs hsp hk hlast hc (fun W => (ih W).mono ?_)).mono ?_
              · rintro e w' ⟨h, hb⟩; rw [ha] at h; exact ⟨h, hb⟩
              · rintro e w' ⟨⟨y, hy, rfl⟩, hb⟩; exact ⟨cp_none (two_none1 hx hps ha) y hy rfl, hb⟩
            | some a =>
              cases hb0 : parse q with
              | none =>
                refine (RCanon_2sn w (strB _) x p q a k hs hsp hk hlast hc (fun W => (ih W).mono ?_) (fun W => (ih2 W).mono ?_)).mono ?_
                · rintro e w' ⟨h, hb⟩; rw [ha] at h; exact ⟨h, hb⟩
                · rintro e w' ⟨h, hb⟩; rw [hb0] at h; exact ⟨h, hb⟩
                · rintro e w' ⟨⟨y, hy, rfl⟩, hb⟩; exact ⟨cp_none (two_none2 hx hps hb0) y hy rfl, hb⟩
              | some b =>
                refine (RCanon_2ss w (strB _) x p q a b k hs hsp hk hlast hc h7 hxl (by rw [parse_len ha]; exact hp.2) (by rw [parse_len hb0]; exact hq.2) (fun W => (ih W).mono ?_) (fun W => (ih2 W).mono ?_)).mono ?_
                · rintro e w' ⟨h, hb⟩; rw [ha] at h; exact ⟨h, hb⟩
                · rintro e w' ⟨h, hb⟩; rw [hb0] at h; exact ⟨h, hb⟩
                · rintro e w' ⟨rfl, hb⟩; exact ⟨cp_some (two_some hx hps h3 h7 ha hb0) rfl, hb⟩
        · refine (RCanon_cnt w (strB _) x (sc m 0 []) k hs hsp (List.length_pos_iff.2 (sc_ne _ _ _)) (by have := sc_cnt m; simp at hs; omega) hk hlast hc).mono ?_
          rintro e w' ⟨⟨y, hy, rfl⟩, hb⟩; exact ⟨cp_none (cnt_bad hx hc) y hy rfl, hb⟩
      · refine (RCanon_last w (strB _) x0 (sc r0.dropLast 0 []) k hs hsp hpos hlen hk hlast).mono ?_
        rintro e w' ⟨⟨y, hy, rfl⟩, hb⟩; exact ⟨cp_none (last_bad h4 hk hlast) y hy rfl, hb⟩
    · exact RCanon_atom w (strB s) hs h4
end Go.Proofs.YtfcemnebhapidaaDoor.Te
