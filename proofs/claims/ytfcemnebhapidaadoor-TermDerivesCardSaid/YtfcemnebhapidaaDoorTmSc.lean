/- The reference's Split, plainly: a text's word and its parts; what of it parses. -/
import Derived.Test.YtfcemnebhapidaaDoorTmSpec
set_option linter.unusedVariables false
set_option linter.unusedSimpArgs false
namespace Go.Proofs.YtfcemnebhapidaaDoor.Te
/-- cut at the commas that stand in no inner brackets -/
def sc : List UInt8 → Int → List UInt8 → List (List UInt8)
  | [], _, cur => [cur]
  | c :: l, d, cur => if c = 44 ∧ d = 0 then cur :: sc l 0 [] else sc l (if c = 40 then d + 1 else if c = 41 then d - 1 else d) (cur ++ [c])
/-- a word and its parts -/
def spl (s : List UInt8) : List UInt8 × List (List UInt8) :=
  match s.dropWhile (fun c => c != 40) with
  | [] => (atomW, [])
  | _ :: r => (s.takeWhile (fun c => c != 40), sc r.dropLast 0 [])
theorem sc_ne : ∀ (l : List UInt8) (d : Int) (cur : List UInt8), sc l d cur ≠ []
  | [], _, _ => by unfold sc; simp
  | c :: l, d, cur => by
    unfold sc
    split
    · simp
    · exact sc_ne l _ _
theorem sc_aln {p : List UInt8} (hp : ∀ c ∈ p, aln c = true) (l : List UInt8) (d : Int) : ∀ cur, sc (p ++ l) d cur = sc l d (cur ++ p) := by
  induction p with
  | nil => intro cur; simp
  | cons c p ih =>
    intro cur
    have hc := hp c (by simp)
    have h1 : c ≠ 44 := by rintro rfl; exact absurd hc (by decide)
    have h2 : c ≠ 40 := by rintro rfl; exact absurd hc (by decide)
    have h3 : c ≠ 41 := by rintro rfl; exact absurd hc (by decide)
    rw [List.cons_append]
    show sc (c :: (p ++ l)) d cur = _
    rw [sc, if_neg (fun h => h1 h.1), if_neg h2, if_neg h3, ih (fun c h => hp c (by simp [h]))]
    simp
theorem sc_open (l : List UInt8) (d : Int) (cur : List UInt8) : sc (40 :: l) d cur = sc l (d + 1) (cur ++ [40]) := by
  rw [sc, if_neg (fun h => absurd h.1 (by decide)), if_pos rfl]
theorem sc_close (l : List UInt8) (d : Int) (cur : List UInt8) : sc (41 :: l) d cur = sc l (d - 1) (cur ++ [41]) := by
  rw [sc, if_neg (fun h => absurd h.1 (by decide)), if_neg (by decide), if_pos rfl]
theorem sc_comma (l : List UInt8) (d : Int) (hd : d ≠ 0) (cur : List UInt8) : sc (44 :: l) d cur = sc l d (cur ++ [44]) := by
  rw [sc, if_neg (fun h => hd h.2), if_neg (by decide), if_neg (by decide)]
theorem sc_prs {p : List UInt8} {a : Tm} (h : Prs p a) : ∀ (l : List UInt8) (d : Int) (cur : List UInt8), 0 ≤ d → sc (p ++ l) d cur = sc l d (cur ++ p) := by
  induction h with
  | atom h => intro l d cur _; exact sc_aln h.2.2 l d cur
  | @one k p a hk _ ih =>
    intro l d cur hd
    rw [List.append_assoc, sc_aln (aln_word k), List.cons_append, sc_open, List.append_assoc, ih _ _ _ (by omega)]
    show sc (41 :: l) (d + 1) _ = _
    rw [sc_close, show d + 1 - 1 = d by omega]
    simp
  | @two k p q a b h3 h7 _ _ i1 i2 =>
    intro l d cur hd
    rw [List.append_assoc, sc_aln (aln_word k), List.cons_append, sc_open, List.append_assoc, i1 _ _ _ (by omega)]
    show sc (44 :: ((q ++ [41]) ++ l)) (d + 1) _ = _
    rw [sc_comma _ _ (by omega), List.append_assoc, i2 _ _ _ (by omega)]
    show sc (41 :: l) (d + 1) _ = _
    rw [sc_close, show d + 1 - 1 = d by omega]
    simp
theorem sc_prs1 {p : List UInt8} {a : Tm} (h : Prs p a) : sc p 0 [] = [p] := by
  have := sc_prs h [] 0 [] (by decide)
  rw [List.append_nil] at this
  rw [this]; unfold sc; simp
theorem sc_prs2 {p q : List UInt8} {a b : Tm} (h : Prs p a) (h' : Prs q b) : sc (p ++ 44 :: q) 0 [] = [p, q] := by
  rw [sc_prs h _ 0 [] (by decide), sc, if_pos ⟨rfl, rfl⟩, sc_prs1 h']; simp
/-- the parts, joined -/
def jn : List (List UInt8) → List UInt8
  | [] => []
  | [x] => x
  | x :: y :: l => x ++ 44 :: jn (y :: l)
theorem jn_sc : ∀ (l : List UInt8) (d : Int) (cur : List UInt8), jn (sc l d cur) = cur ++ l
  | [], _, cur => by unfold sc; simp [jn]
  | c :: l, d, cur => by
    unfold sc
    split
    · rename_i h
      have ih := jn_sc l 0 []
      cases hs : sc l 0 [] with
      | nil => exact absurd hs (sc_ne _ _ _)
      | cons x r =>
        rw [hs] at ih
        show cur ++ 44 :: jn (x :: r) = _
        rw [ih, h.1]; simp
    · rw [jn_sc l _ _]; simp
theorem sc_one {m p : List UInt8} (h : sc m 0 [] = [p]) : m = p := by
  have := jn_sc m 0 []
  rw [h] at this
  simpa [jn] using this.symm
theorem sc_two {m p q : List UInt8} (h : sc m 0 [] = [p, q]) : m = p ++ 44 :: q := by
  have := jn_sc m 0 []
  rw [h] at this
  simpa [jn] using this.symm
/-- the parts are shorter -/
theorem jn_len : ∀ {l : List (List UInt8)} {x : List UInt8}, x ∈ l → x.length ≤ (jn l).length
  | [], x, h => by simp at h
  | [y], x, h => by rw [List.mem_singleton.1 h]; exact Nat.le_refl _
  | y :: z :: l, x, h => by
    rcases List.mem_cons.1 h with rfl | h
    · simp [jn]
    · have := jn_len h
      simp [jn]; omega
theorem sc_len {m x : List UInt8} (h : x ∈ sc m 0 []) : x.length ≤ m.length := by
  have := jn_len h
  rw [jn_sc] at this
  simpa using this
theorem len_jn : ∀ (l : List (List UInt8)), l.length ≤ (jn l).length + 1
  | [] => by simp
  | [y] => by simp
  | y :: z :: l => by have := len_jn (z :: l); simp [jn] at this ⊢; omega
theorem sc_cnt (m : List UInt8) : (sc m 0 []).length ≤ m.length + 1 := by
  have := len_jn (sc m 0 [])
  rw [jn_sc] at this
  simpa using this
theorem no40 {w : List UInt8} (hw : ∀ c ∈ w, aln c = true) : (40 : UInt8) ∉ w := fun h => absurd (hw _ h) (by decide)
/-- where the first bracket stands is one place -/
theorem first40 : ∀ {w w' r r' : List UInt8}, (40 : UInt8) ∉ w → (40 : UInt8) ∉ w' → w ++ 40 :: r = w' ++ 40 :: r' → w = w' ∧ r = r'
  | [], [], _, _, _, _, h => by simp at h; exact ⟨rfl, h⟩
  | [], c :: w', r, r', _, h2, h => by simp at h; exact absurd (by rw [h.1]; simp) h2
  | c :: w, [], r, r', h1, _, h => by simp at h; exact absurd (by rw [← h.1]; simp) h1
  | c :: w, d :: w', r, r', h1, h2, h => by
    simp at h
    obtain ⟨rfl, h⟩ := h
    obtain ⟨rfl, rfl⟩ := first40 (fun h => h1 (by simp [h])) (fun h => h2 (by simp [h])) h
    exact ⟨rfl, rfl⟩
theorem aln_no {s : List UInt8} (h : (40 : UInt8) ∉ s) {t : Tm} : parse s = some t ↔ atomOk s ∧ t = .atom s := by
  rw [parse_iff]
  constructor
  · intro hp
    cases hp with
    | atom h' => exact ⟨h', rfl⟩
    | one hk _ => exact absurd (by simp) h
    | two h3 h7 _ _ => exact absurd (by simp) h
  · rintro ⟨h1, rfl⟩; exact .atom h1
theorem parse_last {s : List UInt8} {t : Tm} (h : parse s = some t) (h4 : (40 : UInt8) ∈ s) : ∃ m, s = m ++ [41] := by
  cases parse_iff.1 h with
  | atom h' => exact absurd h4 (no40 h'.2.2)
  | @one k p a hk _ => exact ⟨word k ++ 40 :: p, by simp⟩
  | @two k p q a b h3 h7 _ _ => exact ⟨word k ++ 40 :: (p ++ 44 :: q), by simp⟩
theorem parse_spl {w m : List UInt8} (hw : (40 : UInt8) ∉ w) {t : Tm} : parse (w ++ 40 :: (m ++ [41])) = some t ↔
    (∃ p a, sc m 0 [] = [p] ∧ numW w < 3 ∧ parse p = some a ∧ t = .one (numW w) a) ∨ (∃ p q a b, sc m 0 [] = [p, q] ∧ 3 ≤ numW w ∧ numW w < 7 ∧ parse p = some a ∧ parse q = some b ∧ t = mk2 (numW w) a b) := by
  rw [parse_iff]
  constructor
  · intro h
    generalize hs : w ++ 40 :: (m ++ [41]) = s at h
    cases h with
    | atom h' => rw [← hs] at h'; exact absurd (by simp) (no40 h'.2.2)
    | @one k p a hk h =>
      obtain ⟨h1, h2⟩ := first40 hw (no40 (aln_word k)) hs
      obtain ⟨h3, _⟩ := List.append_inj' h2 rfl
      subst h1 h3
      exact .inl ⟨m, a, sc_prs1 h, by rw [numW_word k (by omega)]; exact hk, parse_iff.2 h, by rw [numW_word k (by omega)]⟩
    | @two k p q a b h3 h7 h h' =>
      obtain ⟨h1, h2⟩ := first40 hw (no40 (aln_word k)) hs
      rw [show p ++ 44 :: (q ++ [41]) = (p ++ 44 :: q) ++ [41] by simp] at h2
      obtain ⟨h4, _⟩ := List.append_inj' h2 rfl
      subst h1 h4
      exact .inr ⟨p, q, a, b, sc_prs2 h h', by rw [numW_word k h7]; exact h3, by rw [numW_word k h7]; exact h7, parse_iff.2 h, parse_iff.2 h', by rw [numW_word k h7]⟩
  · rintro (⟨p, a, h1, h2, h3, rfl⟩ | ⟨p, q, a, b, h1, h2, h3, h4, h5, rfl⟩)
    · obtain rfl := sc_one h1
      have := Prs.one (k := numW w) h2 (parse_iff.1 h3)
      rwa [word_numW (by omega)] at this
    · obtain rfl := sc_two h1
      have := Prs.two (k := numW w) h2 h3 (parse_iff.1 h4) (parse_iff.1 h5)
      rw [word_numW h3] at this
      simpa using this
theorem spl_no {s : List UInt8} (h : (40 : UInt8) ∉ s) : spl s = (atomW, []) := by
  have : s.dropWhile (fun c => c != 40) = [] := by
    induction s with
    | nil => rfl
    | cons c s ih =>
      have hc : (c != 40) = true := by simp; rintro rfl; exact h (by simp)
      rw [List.dropWhile_cons, if_pos hc]
      exact ih (fun h' => h (by simp [h']))
  unfold spl
  rw [this]
theorem run40 {w : List UInt8} (hw : (40 : UInt8) ∉ w) (r : List UInt8) : (w ++ 40 :: r).takeWhile (fun c => c != 40) = w ∧ (w ++ 40 :: r).dropWhile (fun c => c != 40) = 40 :: r := by
  induction w with
  | nil => simp
  | cons c w ih =>
    have hc : (c != 40) = true := by simp; rintro rfl; exact hw (by simp)
    obtain ⟨i1, i2⟩ := ih (fun h => hw (by simp [h]))
    rw [List.cons_append, List.takeWhile_cons, if_pos hc, List.dropWhile_cons, if_pos hc, i1, i2]
    exact ⟨rfl, rfl⟩
theorem spl_at {w : List UInt8} (hw : (40 : UInt8) ∉ w) (r : List UInt8) : spl (w ++ 40 :: r) = (w, sc r.dropLast 0 []) := by
  obtain ⟨h1, h2⟩ := run40 hw r
  unfold spl
  rw [h2, h1]
theorem split40 {s : List UInt8} (h : (40 : UInt8) ∈ s) : ∃ w r, s = w ++ 40 :: r ∧ (40 : UInt8) ∉ w := by
  obtain ⟨w, r, h1, h2⟩ := List.append_of_mem h |> fun ⟨w, r, h⟩ => (⟨w, r, h, trivial⟩ : ∃ w r, s = w ++ 40 :: r ∧ True)
  clear h2
  induction s generalizing w with
  | nil => simp at h
  | cons c s ih =>
    by_cases hc : c = 40
    · exact ⟨[], s, by simp [hc], by simp⟩
    · have hm : (40 : UInt8) ∈ s := by
        rcases List.mem_cons.1 h with e | h
        · exact absurd e.symm hc
        · exact h
      cases w with
      | nil => simp at h1; exact absurd h1.1 hc
      | cons d w =>
        simp at h1
        obtain ⟨w', r', e, hn⟩ := ih hm w h1.2
        exact ⟨c :: w', r', by rw [e]; rfl, by simp [hn]; exact fun e => hc e.symm⟩
theorem spl_txt : ∀ {t : Tm}, t.wf → spl t.txt = (t.knd, t.prt.map Tm.txt)
  | .atom s, h => spl_no (no40 h.2.2)
  | .one k a, h => by
    show spl (word k ++ 40 :: (a.txt ++ [41])) = _
    rw [spl_at (no40 (aln_word k)), List.dropLast_concat, sc_prs1 (Prs.self h.2)]
    rfl
  | .two k a b, h => by
    show spl (word k ++ 40 :: (a.txt ++ 44 :: (b.txt ++ [41]))) = _
    rw [show a.txt ++ 44 :: (b.txt ++ [41]) = (a.txt ++ 44 :: b.txt) ++ [41] by simp, spl_at (no40 (aln_word k)), List.dropLast_concat, sc_prs2 (Prs.self h.2.2.1) (Prs.self h.2.2.2.1)]
    rfl
end Go.Proofs.YtfcemnebhapidaaDoor.Te
