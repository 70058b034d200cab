/- Terms, plainly: what is written, what is read. -/
import Derived.Sort.Walk0
set_option linter.unusedVariables false
set_option linter.unusedSimpArgs false
namespace Go.Proofs.YtfcemnebhapidaaDoor.Te
/-- a term: an atom, a word of one part, a word of two -/
inductive Tm where
  | atom (s : List UInt8)
  | one (k : Nat) (a : Tm)
  | two (k : Nat) (a b : Tm)
  deriving DecidableEq
/-- the words: hash point key, pair share sign and the sealed one -/
def word : Nat → List UInt8
  | 0 => [104, 97, 115, 104]
  | 1 => [112, 111, 105, 110, 116]
  | 2 => [107, 101, 121]
  | 3 => [112, 97, 105, 114]
  | 4 => [115, 104, 97, 114, 101]
  | 5 => [115, 105, 103, 110]
  | _ => [115, 101, 97, 108]
/-- a word's number; 7: it is none -/
def numW (w : List UInt8) : Nat :=
  if w = word 0 then 0 else if w = word 1 then 1 else if w = word 2 then 2 else if w = word 3 then 3 else if w = word 4 then 4 else if w = word 5 then 5 else if w = word 6 then 6 else 7
/-- how many parts a word has -/
def cnt (w : List UInt8) : Nat := if numW w < 3 then 1 else if numW w < 7 then 2 else 0
theorem numW_word : ∀ k, k < 7 → numW (word k) = k := by decide
theorem word_numW {w : List UInt8} (h : numW w < 7) : word (numW w) = w := by
  unfold numW at *
  split
  · rename_i e; exact e.symm
  · split
    · rename_i e; exact e.symm
    · split
      · rename_i e; exact e.symm
      · split
        · rename_i e; exact e.symm
        · split
          · rename_i e; exact e.symm
          · split
            · rename_i e; exact e.symm
            · split
              · rename_i e; exact e.symm
              · simp_all
theorem cnt_one {k : Nat} (h : k < 3) : cnt (word k) = 1 := by unfold cnt; rw [numW_word k (by omega), if_pos h]
theorem cnt_two {k : Nat} (h : 3 ≤ k) (h7 : k < 7) : cnt (word k) = 2 := by unfold cnt; rw [numW_word k h7, if_neg (by omega), if_pos h7]
def Tm.txt : Tm → List UInt8
  | .atom s => s
  | .one k a => word k ++ 40 :: (a.txt ++ [41])
  | .two k a b => word k ++ 40 :: (a.txt ++ 44 :: (b.txt ++ [41]))
def atomW : List UInt8 := [97, 116, 111, 109]
def Tm.knd : Tm → List UInt8
  | .atom _ => atomW
  | .one k _ => word k
  | .two k _ _ => word k
def Tm.prt : Tm → List Tm
  | .atom _ => []
  | .one _ a => [a]
  | .two _ a b => [a, b]
/-- a letter or a digit -/
def aln (c : UInt8) : Bool := (decide (97 ≤ c.toNat) && decide (c.toNat ≤ 122)) || (decide (48 ≤ c.toNat) && decide (c.toNat ≤ 57))
def atomOk (s : List UInt8) : Prop := s ≠ [] ∧ s.length ≤ 16 ∧ ∀ c ∈ s, aln c = true
/-- two parts put together: a share's in their order -/
def mk2 (k : Nat) (a b : Tm) : Tm := if k = 4 ∧ b.txt < a.txt then .two k b a else .two k a b
def Tm.wf : Tm → Prop
  | .atom s => atomOk s
  | .one k a => k < 3 ∧ a.wf
  | .two k a b => 3 ≤ k ∧ k < 7 ∧ a.wf ∧ b.wf ∧ (k = 4 → ¬ b.txt < a.txt)
theorem mk2_wf {k : Nat} {a b : Tm} (h3 : 3 ≤ k) (h7 : k < 7) (ha : a.wf) (hb : b.wf) : (mk2 k a b).wf := by
  unfold mk2
  split
  · rename_i h
    exact ⟨h3, h7, hb, ha, fun _ e => List.lt_asymm e h.2⟩
  · rename_i h
    exact ⟨h3, h7, ha, hb, fun e e2 => h ⟨e, e2⟩⟩
theorem mk2_id {k : Nat} {a b : Tm} (h : k = 4 → ¬ b.txt < a.txt) : mk2 k a b = .two k a b := by
  unfold mk2
  rw [if_neg (fun e => h e.1 e.2)]
/-- a text reads as a term -/
inductive Prs : List UInt8 → Tm → Prop
  | atom {s : List UInt8} (h : atomOk s) : Prs s (.atom s)
  | one {k : Nat} {p : List UInt8} {a : Tm} (hk : k < 3) (h : Prs p a) : Prs (word k ++ 40 :: (p ++ [41])) (.one k a)
  | two {k : Nat} {p q : List UInt8} {a b : Tm} (h3 : 3 ≤ k) (h7 : k < 7) (h : Prs p a) (h' : Prs q b) : Prs (word k ++ 40 :: (p ++ 44 :: (q ++ [41]))) (mk2 k a b)
theorem Prs.wf {s : List UInt8} {t : Tm} (h : Prs s t) : t.wf := by
  induction h with
  | atom h => exact h
  | one hk _ ih => exact ⟨hk, ih⟩
  | two h3 h7 _ _ i1 i2 => exact mk2_wf h3 h7 i1 i2
theorem Prs.self : ∀ {t : Tm}, t.wf → Prs t.txt t
  | .atom s, h => .atom h
  | .one k a, h => .one h.1 (Prs.self h.2)
  | .two k a b, h => by
    have := Prs.two h.1 h.2.1 (Prs.self h.2.2.1) (Prs.self h.2.2.2.1)
    rw [mk2_id h.2.2.2.2] at this
    exact this
theorem aln_word : ∀ k, ∀ c ∈ word k, aln c = true
  | 0 => by decide
  | 1 => by decide
  | 2 => by decide
  | 3 => by decide
  | 4 => by decide
  | 5 => by decide
  | n + 6 => by
    show ∀ c ∈ ([115, 101, 97, 108] : List UInt8), aln c = true
    decide
/-- what is read in front: the term, what is left -/
def pT : Nat → List UInt8 → Option (Tm × List UInt8)
  | 0, _ => none
  | f + 1, s =>
    let w := s.takeWhile aln
    match s.dropWhile aln with
    | 40 :: r =>
      if numW w < 3 then
        match pT f r with
        | some (a, 41 :: r3) => some (.one (numW w) a, r3)
        | _ => none
      else if numW w < 7 then
        match pT f r with
        | some (a, 44 :: r3) =>
          match pT f r3 with
          | some (b, 41 :: r5) => some (mk2 (numW w) a b, r5)
          | _ => none
        | _ => none
      else none
    | rest => if w ≠ [] ∧ w.length ≤ 16 then some (.atom w, rest) else none
theorem take_run {w r : List UInt8} (hw : ∀ c ∈ w, aln c = true) (hr : ∀ c l, r = c :: l → aln c = false) : (w ++ r).takeWhile aln = w ∧ (w ++ r).dropWhile aln = r := by
  induction w with
  | nil =>
    cases r with
    | nil => exact ⟨rfl, rfl⟩
    | cons c l =>
      have := hr c l rfl
      simp [List.takeWhile_cons, List.dropWhile_cons, this]
  | cons c w ih =>
    have hc := hw c (by simp)
    have := ih (fun c h => hw c (by simp [h]))
    simp [List.takeWhile_cons, List.dropWhile_cons, hc, this.1, this.2]
theorem run_take (s : List UInt8) : s = s.takeWhile aln ++ s.dropWhile aln ∧ (∀ c ∈ s.takeWhile aln, aln c = true) ∧ ∀ c l, s.dropWhile aln = c :: l → aln c = false := by
  induction s with
  | nil => exact ⟨rfl, fun c h => by simp at h, fun c l h => by simp at h⟩
  | cons d s ih =>
    by_cases hd : aln d = true
    · obtain ⟨i1, i2, i3⟩ := ih
      refine ⟨?_, ?_, ?_⟩
      · rw [List.takeWhile_cons, if_pos hd, List.dropWhile_cons, if_pos hd, List.cons_append, ← i1]
      · rw [List.takeWhile_cons, if_pos hd]
        intro c hc
        rcases List.mem_cons.1 hc with rfl | h
        · exact hd
        · exact i2 c h
      · rw [List.dropWhile_cons, if_pos hd]; exact i3
    · refine ⟨?_, ?_, ?_⟩
      · rw [List.takeWhile_cons, if_neg hd, List.dropWhile_cons, if_neg hd]; rfl
      · rw [List.takeWhile_cons, if_neg hd]
        intro c hc
        simp at hc
      · rw [List.dropWhile_cons, if_neg hd]
        intro c l e
        injection e with e1
        rw [← e1]; simpa using hd
/-- what may stand behind a term that is read in front -/
def stop (r : List UInt8) : Prop := ∀ c l, r = c :: l → aln c = false ∧ c ≠ 40
theorem pT_complete {s : List UInt8} {t : Tm} (h : Prs s t) : ∀ f r, s.length < f → stop r → pT f (s ++ r) = some (t, r) := by
  induction h with
  | @atom s h =>
    intro f r hf hr
    obtain ⟨f, rfl⟩ : ∃ g, f = g + 1 := ⟨f - 1, by omega⟩
    obtain ⟨h1, h2⟩ := take_run h.2.2 (fun c l e => (hr c l e).1)
    unfold pT
    rw [h1, h2]
    cases r with
    | nil => simp [h.1, h.2.1]
    | cons c l =>
      have := (hr c l rfl).2
      split
      · rename_i r' e
        injection e with e1
        exact absurd e1 this
      · simp [h.1, h.2.1]
  | @one k p a hk h ih =>
    intro f r hf hr
    obtain ⟨f, rfl⟩ : ∃ g, f = g + 1 := ⟨f - 1, by omega⟩
    have e : word k ++ 40 :: (p ++ [41]) ++ r = word k ++ (40 :: (p ++ 41 :: r)) := by simp
    obtain ⟨h1, h2⟩ := take_run (aln_word k) (r := 40 :: (p ++ 41 :: r)) (fun c l e => by injection e with e1; rw [← e1]; decide)
    rw [e]
    unfold pT
    rw [h1, h2]
    simp only
    rw [numW_word k (by omega), if_pos hk, ih f (41 :: r) (by simp at hf; omega) (fun c l e => by injection e with e1; rw [← e1]; decide)]
    rfl
  | @two k p q a b h3 h7 h h' ih ih' =>
    intro f r hf hr
    obtain ⟨f, rfl⟩ : ∃ g, f = g + 1 := ⟨f - 1, by omega⟩
    have e : word k ++ 40 :: (p ++ 44 :: (q ++ [41])) ++ r = word k ++ (40 :: (p ++ 44 :: (q ++ 41 :: r))) := by simp
    obtain ⟨h1, h2⟩ := take_run (aln_word k) (r := 40 :: (p ++ 44 :: (q ++ 41 :: r))) (fun c l e => by injection e with e1; rw [← e1]; decide)
    rw [e]
    unfold pT
    rw [h1, h2]
    simp only
    rw [numW_word k h7, if_neg (by omega), if_pos h7, ih f (44 :: (q ++ 41 :: r)) (by simp at hf; omega) (fun c l e => by injection e with e1; rw [← e1]; decide)]
    simp only
    rw [ih' f (41 :: r) (by simp at hf; omega) (fun c l e => by injection e with e1; rw [← e1]; decide)]
    rfl
theorem pT_sound : ∀ (f : Nat) (s : List UInt8) (t : Tm) (r : List UInt8), pT f s = some (t, r) → ∃ p, s = p ++ r ∧ Prs p t
  | 0, s, t, r, h => by simp [pT] at h
  | f + 1, s, t, r, h => by
    obtain ⟨e1, e2, e3⟩ := run_take s
    unfold pT at h
    simp only at h
    generalize hw : s.takeWhile aln = w at *
    generalize hd : s.dropWhile aln = d at *
    split at h
    · rename_i r'
      by_cases h3 : numW w < 3
      · rw [if_pos h3] at h
        cases hp : pT f r' with
        | none => rw [hp] at h; simp at h
        | some y =>
          obtain ⟨a, r2⟩ := y
          rw [hp] at h
          split at h
          · rename_i a' r3 e
            simp only [Option.some.injEq, Prod.mk.injEq] at e h
            obtain ⟨rfl, rfl⟩ := e
            obtain ⟨rfl, rfl⟩ := h
            obtain ⟨p, rfl, hpr⟩ := pT_sound f r' a (41 :: r3) hp
            refine ⟨word (numW w) ++ 40 :: (p ++ [41]), ?_, .one h3 hpr⟩
            rw [e1, word_numW (by omega)]; simp
          · cases h
      · rw [if_neg h3] at h
        by_cases h7 : numW w < 7
        · rw [if_pos h7] at h
          cases hp : pT f r' with
          | none => rw [hp] at h; simp at h
          | some y =>
            obtain ⟨a, r2⟩ := y
            rw [hp] at h
            split at h
            · rename_i a' r3 e
              simp only [Option.some.injEq, Prod.mk.injEq] at e
              obtain ⟨rfl, rfl⟩ := e
              cases hq : pT f r3 with
              | none => rw [hq] at h; simp at h
              | some z =>
                obtain ⟨b, r4⟩ := z
                rw [hq] at h
                split at h
                · rename_i b' r5 e
                  simp only [Option.some.injEq, Prod.mk.injEq] at e h
                  obtain ⟨rfl, rfl⟩ := e
                  obtain ⟨rfl, rfl⟩ := h
                  obtain ⟨p, rfl, hpr⟩ := pT_sound f r' a _ hp
                  obtain ⟨q, rfl, hqr⟩ := pT_sound f _ b _ hq
                  refine ⟨word (numW w) ++ 40 :: (p ++ 44 :: (q ++ [41])), ?_, .two (by omega) h7 hpr hqr⟩
                  rw [e1, word_numW h7]; simp
                · cases h
            · cases h
        · rw [if_neg h7] at h; cases h
    · split at h
      · rename_i hok
        simp only [Option.some.injEq, Prod.mk.injEq] at h
        obtain ⟨rfl, rfl⟩ := h
        exact ⟨w, e1, .atom ⟨hok.1, hok.2, e2⟩⟩
      · cases h
/-- the whole of a text -/
def parse (s : List UInt8) : Option Tm := match pT (s.length + 1) s with
  | some (t, []) => some t
  | _ => none
theorem parse_iff {s : List UInt8} {t : Tm} : parse s = some t ↔ Prs s t := by
  unfold parse
  constructor
  · intro h
    split at h
    · rename_i t' e
      simp only [Option.some.injEq] at h
      subst h
      obtain ⟨p, e2, hp⟩ := pT_sound _ _ _ _ e
      rw [List.append_nil] at e2
      rw [e2]; exact hp
    · cases h
  · intro h
    have := pT_complete h (s.length + 1) [] (by omega) (fun c l e => by simp at e)
    rw [List.append_nil] at this
    rw [this]
theorem Prs.uniq {s : List UInt8} {t u : Tm} (h : Prs s t) (h' : Prs s u) : t = u := by
  have h1 := parse_iff.2 h
  have h2 := parse_iff.2 h'
  rw [h1] at h2
  exact Option.some.inj h2
/-- what is written tells the term -/
theorem txt_inj {t u : Tm} (ht : t.wf) (hu : u.wf) (h : t.txt = u.txt) : t = u := by
  have h1 := Prs.self ht
  rw [h] at h1
  exact h1.uniq (Prs.self hu)
theorem txt_ne {t : Tm} (h : t.wf) : t.txt ≠ [] := by
  cases t with
  | atom s => exact h.1
  | one k a => unfold Tm.txt; simp
  | two k a b => unfold Tm.txt; simp
end Go.Proofs.YtfcemnebhapidaaDoor.Te
