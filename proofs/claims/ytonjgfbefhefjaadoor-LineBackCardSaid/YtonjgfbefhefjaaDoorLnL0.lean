/- The reference's Line, plainly: letter by letter. -/
import Derived.Test.YtonjgfbefhefjaaDoorLnSpec
set_option linter.unusedVariables false
set_option linter.unusedSimpArgs false
namespace Go.Proofs.YtonjgfbefhefjaaDoor.Ln
open Go
def rl : List UInt8 → List (List UInt8) → List Int → List UInt8 → Nat → Option (List (List UInt8))
  | [], ns, ks, t, tx => if ns = [] ∧ ks = [] ∧ ¬ (tx = 0 ∧ t ≠ []) then some [] else none
  | c :: cs, ns, ks, t, tx =>
    if c = 35 then (if 0 < ks.length ∧ 0 ≤ ks.headD 0 ∧ ks.headD 0 ≤ 999999999 then (rl cs ns ks.tail t tx).map (Lib.itoa (ks.headD 0) :: ·) else none)
    else if c = 116 then (if t.length ≤ 900 then (rl cs ns ks t (tx + 1)).map (hexL t :: ·) else none)
    else if c = 42 then (if ns.length ≤ 16 ∧ ∀ x ∈ ns, okN x then (rl cs [] ks t tx).map (ns.map wn ++ ·) else none)
    else (if 0 < ns.length ∧ okN (ns.headD []) then (rl cs ns.tail ks t tx).map (wn (ns.headD []) :: ·) else none)
theorem rl_num (cs : List UInt8) (ns : List (List UInt8)) (ks : List Int) (t : List UInt8) (tx : Nat) : rl (35 :: cs) ns ks t tx = (if 0 < ks.length ∧ 0 ≤ ks.headD 0 ∧ ks.headD 0 ≤ 999999999 then (rl cs ns ks.tail t tx).map (Lib.itoa (ks.headD 0) :: ·) else none) := by rw [rl]; exact if_pos rfl
theorem rl_text (cs : List UInt8) (ns : List (List UInt8)) (ks : List Int) (t : List UInt8) (tx : Nat) : rl (116 :: cs) ns ks t tx = (if t.length ≤ 900 then (rl cs ns ks t (tx + 1)).map (hexL t :: ·) else none) := by rw [rl]; exact (if_neg (by decide)).trans (if_pos rfl)
theorem rl_star (cs : List UInt8) (ns : List (List UInt8)) (ks : List Int) (t : List UInt8) (tx : Nat) : rl (42 :: cs) ns ks t tx = (if ns.length ≤ 16 ∧ ∀ x ∈ ns, okN x then (rl cs [] ks t tx).map (ns.map wn ++ ·) else none) := by rw [rl]; exact (if_neg (by decide)).trans ((if_neg (by decide)).trans (if_pos rfl))
theorem rl_name {c : UInt8} (h1 : c ≠ 35) (h2 : c ≠ 116) (h3 : c ≠ 42) (cs : List UInt8) (ns : List (List UInt8)) (ks : List Int) (t : List UInt8) (tx : Nat) : rl (c :: cs) ns ks t tx = (if 0 < ns.length ∧ okN (ns.headD []) then (rl cs ns.tail ks t tx).map (wn (ns.headD []) :: ·) else none) := by rw [rl]; exact (if_neg h1).trans ((if_neg h2).trans (if_neg h3))
theorem wr_num (cs : List UInt8) (ns : List (List UInt8)) (ks : List Int) (t : List UInt8) : wr (35 :: cs) ns ks t = Lib.itoa (ks.headD 0) :: wr cs ns ks.tail t := by rw [wr]; exact if_pos rfl
theorem wr_text (cs : List UInt8) (ns : List (List UInt8)) (ks : List Int) (t : List UInt8) : wr (116 :: cs) ns ks t = hexL t :: wr cs ns ks t := by rw [wr]; exact (if_neg (by decide)).trans (if_pos rfl)
theorem wr_name (cs : List UInt8) (ns : List (List UInt8)) (ks : List Int) (t : List UInt8) : wr (110 :: cs) ns ks t = wn (ns.headD []) :: wr cs ns.tail ks t := by rw [wr]; exact (if_neg (by decide)).trans ((if_neg (by decide)).trans (if_pos rfl))
def shB : List UInt8 → Bool
  | [] => true
  | c :: s => (c == 42 && s == []) || ((c == 35 || c == 116 || c == 110) && shB s)
def okR (sh : List UInt8) (ns : List (List UInt8)) (ks : List Int) (t : List UInt8) (tx : Nat) : Prop :=
  sh.count 110 ≤ ns.length ∧ ns.length ≤ sh.count 110 + 16 * sh.count 42 ∧ ks.length = sh.count 35 ∧ t.length ≤ 900 * (sh.count 116 + tx) ∧ (∀ x ∈ ns, okN x) ∧ ∀ k ∈ ks, 0 ≤ k ∧ k ≤ 999999999
instance (sh : List UInt8) (ns : List (List UInt8)) (ks : List Int) (t : List UInt8) (tx : Nat) : Decidable (okR sh ns ks t tx) := by unfold okR; infer_instance
theorem rl_eq : ∀ (sh : List UInt8) (ns : List (List UInt8)) (ks : List Int) (t : List UInt8) (tx : Nat), shB sh = true → sh.count 116 + tx ≤ 1 → (tx = 1 → t.length ≤ 900) →
    rl sh ns ks t tx = if okR sh ns ks t tx then some (wr sh ns ks t) else none
  | [], ns, ks, t, tx, _, h1, h2 => by
    have key : (ns = [] ∧ ks = [] ∧ ¬ (tx = 0 ∧ t ≠ [])) ↔ okR [] ns ks t tx := by
      unfold okR
      simp only [List.count_nil, List.length_nil]
      constructor
      · rintro ⟨rfl, rfl, h⟩
        refine ⟨by simp, by simp, by simp, ?_, by simp, by simp⟩
        by_cases h0 : tx = 0
        · have : t = [] := Decidable.byContradiction fun e => h ⟨h0, e⟩
          rw [this]; simp
        · simp at h1
          have : tx = 1 := by omega
          have := h2 this
          omega
      · rintro ⟨_, hn, hk, ht, _, _⟩
        refine ⟨List.length_eq_zero_iff.1 (by omega), List.length_eq_zero_iff.1 hk, fun e => e.2 (List.length_eq_zero_iff.1 (by rw [e.1] at ht; omega))⟩
    rw [rl]
    by_cases h : okR [] ns ks t tx
    · rw [if_pos h, if_pos (key.2 h)]
      have : ns = [] := (key.2 h).1
      rw [this]; rfl
    · rw [if_neg h, if_neg (fun e => h (key.1 e))]
  | c :: cs, ns, ks, t, tx, hs, h1, h2 => by
    rw [shB] at hs
    simp only [Bool.or_eq_true, Bool.and_eq_true, beq_iff_eq] at hs
    rcases hs with ⟨rfl, hs⟩ | ⟨hc, hs⟩
    · subst hs
      rw [rl_star]
      have h1' : tx ≤ 1 := by simpa using h1
      have ih := rl_eq [] [] ks t tx rfl (by simpa using h1') h2
      rw [ih]
      have key : (ns.length ≤ 16 ∧ ∀ x ∈ ns, okN x) ∧ okR [] [] ks t tx ↔ okR [42] ns ks t tx := by
        unfold okR
        simp
        constructor
        · rintro ⟨⟨a, b⟩, c, d, e⟩; exact ⟨a, c, d, b, e⟩
        · rintro ⟨a, c, d, b, e⟩; exact ⟨⟨a, b⟩, c, d, e⟩
      have hw : wr [42] ns ks t = ns.map wn := rfl
      have hw0 : wr [] [] ks t = [] := rfl
      by_cases ha : ns.length ≤ 16 ∧ ∀ x ∈ ns, okN x
      · rw [if_pos ha]
        by_cases hb : okR [] [] ks t tx
        · rw [if_pos hb, if_pos (key.1 ⟨ha, hb⟩), hw, hw0]; simp
        · rw [if_neg hb, if_neg (fun e => hb (key.2 e).2)]; rfl
      · rw [if_neg ha, if_neg (fun e => ha (key.2 e).1)]
    · rcases hc with (rfl | rfl) | rfl
      · rw [rl_num, wr_num]
        have h1' : cs.count 116 + tx ≤ 1 := by simpa using h1
        rw [rl_eq cs ns ks.tail t tx hs h1' h2]
        cases ks with
        | nil =>
          rw [if_neg (by simp), if_neg]
          unfold okR; simp
        | cons k ks =>
          rw [show (k :: ks).tail = ks from rfl, show (k :: ks).headD 0 = k from rfl]
          have key : (0 ≤ k ∧ k ≤ 999999999) ∧ okR cs ns ks t tx ↔ okR (35 :: cs) ns (k :: ks) t tx := by
            unfold okR
            simp
            constructor
            · rintro ⟨⟨a, b⟩, c, d, e, f, g, h⟩; exact ⟨c, d, e, f, g, ⟨a, b⟩, h⟩
            · rintro ⟨c, d, e, f, g, ⟨a, b⟩, h⟩; exact ⟨⟨a, b⟩, c, d, e, f, g, h⟩
          by_cases ha : 0 ≤ k ∧ k ≤ 999999999
          · rw [if_pos ⟨by simp, ha⟩]
            by_cases hb : okR cs ns ks t tx
            · rw [if_pos hb, if_pos (key.1 ⟨ha, hb⟩)]; rfl
            · rw [if_neg hb, if_neg (fun e => hb (key.2 e).2)]; rfl
          · rw [if_neg (fun e => ha e.2), if_neg (fun e => ha (key.2 e).1)]
      · rw [rl_text, wr_text]
        have h1' : cs.count 116 + 1 + tx ≤ 1 := by simpa using h1
        have hc0 : cs.count 116 = 0 := by omega
        have ht0 : tx = 0 := by omega
        subst ht0
        have key : t.length ≤ 900 ∧ okR cs ns ks t 1 ↔ okR (116 :: cs) ns ks t 0 := by
          unfold okR
          simp [hc0]
          intro _ _ _ a _ _
          exact a
        by_cases ha : t.length ≤ 900
        · rw [if_pos ha, rl_eq cs ns ks t 1 hs (by omega) (fun _ => ha)]
          by_cases hb : okR cs ns ks t 1
          · rw [if_pos hb, if_pos (key.1 ⟨ha, hb⟩)]; rfl
          · rw [if_neg hb, if_neg (fun e => hb (key.2 e).2)]; rfl
        · rw [if_neg ha, if_neg (fun e => ha (key.2 e).1)]
      · rw [rl_name (by decide) (by decide) (by decide), wr_name]
        have h1' : cs.count 116 + tx ≤ 1 := by simpa using h1
        rw [rl_eq cs ns.tail ks t tx hs h1' h2]
        cases ns with
        | nil =>
          rw [if_neg (by simp), if_neg]
          unfold okR; simp
        | cons n ns =>
          rw [show (n :: ns).tail = ns from rfl, show (n :: ns).headD [] = n from rfl]
          have key : okN n ∧ okR cs ns ks t tx ↔ okR (110 :: cs) (n :: ns) ks t tx := by
            unfold okR
            simp
            constructor
            · rintro ⟨a, c, d, e, f, g, h⟩; exact ⟨c, by omega, e, f, ⟨a, g⟩, h⟩
            · rintro ⟨c, d, e, f, ⟨a, g⟩, h⟩; exact ⟨a, c, by omega, e, f, g, h⟩
          by_cases ha : okN n
          · rw [if_pos ⟨by simp, ha⟩]
            by_cases hb : okR cs ns ks t tx
            · rw [if_pos hb, if_pos (key.1 ⟨ha, hb⟩)]; rfl
            · rw [if_neg hb, if_neg (fun e => hb (key.2 e).2)]; rfl
          · rw [if_neg (fun e => ha e.2), if_neg (fun e => ha (key.2 e).1)]
theorem tab_sh : ∀ r ∈ tab, shB r.2 = true ∧ r.2.count 116 ≤ 1 ∧ r.2.length ≤ 100 := by decide +kernel
theorem rl_ok {c : Cm} {sh : List UInt8} (hr : (c.word, sh) ∈ tab) (ho : ok sh c) : rl sh c.names c.nums c.text 0 = some (wr sh c.names c.nums c.text) := by
  obtain ⟨h1, h2, _⟩ := tab_sh _ hr
  exact (rl_eq sh _ _ _ _ h1 h2 (by simp)).trans (if_pos (show okR sh c.names c.nums c.text 0 from ho))
theorem rl_bad {c : Cm} {sh : List UInt8} (hr : (c.word, sh) ∈ tab) (ho : ¬ ok sh c) : rl sh c.names c.nums c.text 0 = none := by
  obtain ⟨h1, h2, _⟩ := tab_sh _ hr
  exact (rl_eq sh _ _ _ _ h1 h2 (by simp)).trans (if_neg (show ¬ okR sh c.names c.nums c.text 0 from ho))
end Go.Proofs.YtonjgfbefhefjaaDoor.Ln
