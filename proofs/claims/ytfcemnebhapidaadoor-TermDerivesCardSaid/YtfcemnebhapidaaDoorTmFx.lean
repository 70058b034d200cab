/- What the document's Derived finds, plainly: a closed list of terms, and what is made of them in it. -/
import Derived.Test.YtfcemnebhapidaaDoorTmKs
set_option linter.unusedVariables false
set_option linter.unusedSimpArgs false
namespace Go.Proofs.YtfcemnebhapidaaDoor.Te
open Go.RowKit
/-- what All looks at behind a term -/
def exp : Tm → List Tm
  | .atom _ => []
  | .one _ a => [a]
  | .two k a b => [a, b] ++ if k = 4 then [.one 1 a, .one 1 b] else []
/-- with each term what All looks at -/
def Clo (M : List Tm) : Prop := ∀ t ∈ M, ∀ u ∈ exp t, u ∈ M
theorem Clo.one {M : List Tm} (h : Clo M) {k : Nat} {a : Tm} (hm : Tm.one k a ∈ M) : a ∈ M := h _ hm a (by simp [exp])
theorem Clo.fst {M : List Tm} (h : Clo M) {k : Nat} {a b : Tm} (hm : Tm.two k a b ∈ M) : a ∈ M := h _ hm a (by simp [exp])
theorem Clo.snd {M : List Tm} (h : Clo M) {k : Nat} {a b : Tm} (hm : Tm.two k a b ∈ M) : b ∈ M := h _ hm b (by simp [exp])
theorem Clo.pt1 {M : List Tm} (h : Clo M) {a b : Tm} (hm : Tm.two 4 a b ∈ M) : Tm.one 1 a ∈ M := h _ hm _ (by simp [exp])
theorem Clo.pt2 {M : List Tm} (h : Clo M) {a b : Tm} (hm : Tm.two 4 a b ∈ M) : Tm.one 1 b ∈ M := h _ hm _ (by simp [exp])
/-- those of M that are had -/
def hadL (M : List Tm) (hs : List Bool) : List Tm := (M.zip hs).filterMap fun x => if x.2 then some x.1 else none
theorem hadL_mem {M : List Tm} {hs : List Bool} {t : Tm} : t ∈ hadL M hs ↔ ∃ j : Nat, M[j]? = some t ∧ hs[j]? = some true := by
  unfold hadL
  rw [List.mem_filterMap]
  constructor
  · rintro ⟨⟨u, b⟩, hm, hx⟩
    cases b with
    | false => simp at hx
    | true =>
      simp at hx
      subst hx
      obtain ⟨j, hj⟩ := List.getElem?_of_mem hm
      rw [List.getElem?_zip_eq_some] at hj
      exact ⟨j, hj.1, hj.2⟩
  · rintro ⟨j, h1, h2⟩
    exact ⟨(t, true), List.mem_of_getElem? (List.getElem?_zip_eq_some.2 ⟨h1, h2⟩), rfl⟩
/-- nothing more is made at t, of those that are had -/
def Quiet (K : List Tm) (t : Tm) : Prop :=
  (t ∈ K → (∀ a b, t = .two 3 a b → a ∈ K ∧ b ∈ K) ∧ (∀ a b, t = .two 5 a b → b ∈ K) ∧ ∀ a b, t = .two 6 a b → a ∈ K → b ∈ K)
  ∧ (∀ k a, t = .one k a → a ∈ K → t ∈ K) ∧ (∀ k a b, t = .two k a b → a ∈ K → b ∈ K → t ∈ K)
  ∧ (∀ a b, t = .two 4 a b → a ∈ K → Tm.one 1 b ∈ K → t ∈ K) ∧ (∀ a b, t = .two 4 a b → b ∈ K → Tm.one 1 a ∈ K → t ∈ K)
theorem syn_in {M K : List Tm} (hM : Clo M) (hq : ∀ t ∈ M, Quiet K t) : ∀ (t : Tm), t ∈ M → syn K t = true → t ∈ K
  | .atom s, _, h => by unfold syn at h; simpa using h
  | .one k a, hm, h => by
    unfold syn at h
    rw [Bool.or_eq_true, decide_eq_true_eq] at h
    rcases h with h | h
    · exact h
    · exact (hq _ hm).2.1 k a rfl (syn_in hM hq a (hM.one hm) h)
  | .two k a b, hm, h => by
    have ia := syn_in hM hq a (hM.fst hm)
    have ib := syn_in hM hq b (hM.snd hm)
    unfold syn at h
    rw [Bool.or_eq_true, decide_eq_true_eq] at h
    rcases h with h | h
    · exact h
    · split at h
      · rename_i hk
        subst hk
        simp only [Bool.or_eq_true, Bool.and_eq_true, decide_eq_true_eq] at h
        rcases h with (⟨h1, h2⟩ | ⟨h1, h2⟩) | ⟨h1, h2⟩
        · exact (hq _ hm).2.2.1 4 a b rfl (ia h1) (ib h2)
        · exact (hq _ hm).2.2.2.1 a b rfl (ia h1) h2
        · exact (hq _ hm).2.2.2.2 a b rfl (ib h1) h2
      · rw [Bool.and_eq_true] at h
        exact (hq _ hm).2.2.1 k a b rfl (ia h.1) (ib h.2)
/-- at a fixed point just what can be made is had -/
theorem fix_der {L M K : List Tm} (hM : Clo M) (hKM : ∀ t ∈ K, t ∈ M) (hLK : ∀ t ∈ L, t ∈ K) (hs : ∀ t ∈ K, Der (· ∈ L) t) (hq : ∀ t ∈ M, Quiet K t) {t : Tm} (ht : t ∈ M) : t ∈ K ↔ Der (· ∈ L) t := by
  refine ⟨hs t, fun h => syn_in hM hq t ht (der_syn hLK ?_ ?_ h)⟩
  · intro x hx _
    exact ⟨((hq x (hKM x hx)).1 hx).1, ((hq x (hKM x hx)).1 hx).2.1⟩
  · intro a b hx hsy
    have hm := hKM _ hx
    exact ((hq _ hm).1 hx).2.2 a b rfl (syn_in hM hq a (hM.fst hm) hsy)
/-- where a term stands first; its length: nowhere -/
def pos (M : List Tm) (t : Tm) : Nat := M.idxOf t
theorem pos_at {M : List Tm} {t : Tm} (h : t ∈ M) : M[pos M t]? = some t := by
  unfold pos
  have hl := List.idxOf_lt_length_of_mem h
  rw [List.getElem?_eq_getElem hl, List.getElem_idxOf]
theorem pos_lt {M : List Tm} {t : Tm} (h : t ∈ M) : pos M t < M.length := List.idxOf_lt_length_of_mem h
theorem pos_of {M : List Tm} (hn : M.Nodup) {j : Nat} {t : Tm} (h : M[j]? = some t) : pos M t = j := by
  obtain ⟨hj, rfl⟩ := List.getElem?_eq_some_iff.1 h
  exact hn.idxOf_getElem j hj
theorem had_pos {M : List Tm} {hs : List Bool} (hn : M.Nodup) {t : Tm} (ht : t ∈ M) : t ∈ hadL M hs ↔ hs[pos M t]? = some true := by
  rw [hadL_mem]
  constructor
  · rintro ⟨j, h1, h2⟩
    rw [pos_of hn h1]; exact h2
  · intro h
    exact ⟨_, pos_at ht, h⟩
/-- one more is had -/
theorem had_set {M : List Tm} {hs : List Bool} (hn : M.Nodup) (hl : hs.length = M.length) {j : Nat} {u : Tm} (hj : M[j]? = some u) (t : Tm) : t ∈ hadL M (hs.set j true) ↔ t ∈ hadL M hs ∨ t = u := by
  rw [hadL_mem, hadL_mem]
  have hjl : j < hs.length := by rw [hl]; exact (List.getElem?_eq_some_iff.1 hj).1
  constructor
  · rintro ⟨i, h1, h2⟩
    by_cases e : i = j
    · subst e
      rw [hj] at h1
      exact .inr (Option.some.inj h1).symm
    · rw [List.getElem?_set_ne (Ne.symm e)] at h2
      exact .inl ⟨i, h1, h2⟩
  · rintro (⟨i, h1, h2⟩ | rfl)
    · by_cases e : i = j
      · subst e
        exact ⟨i, h1, by rw [List.getElem?_set_self hjl]⟩
      · exact ⟨i, h1, by rw [List.getElem?_set_ne (Ne.symm e)]; exact h2⟩
    · exact ⟨j, hj, by rw [List.getElem?_set_self hjl]⟩
/-- how many are had: the loop's measure -/
def had (hs : List Bool) : Nat := hs.count true
theorem had_le (hs : List Bool) : had hs ≤ hs.length := List.count_le_length
theorem had_up {hs : List Bool} {j : Nat} (h : hs[j]? = some false) : had (hs.set j true) = had hs + 1 := by
  unfold had
  induction hs generalizing j with
  | nil => simp at h
  | cons b hs ih =>
    cases j with
    | zero =>
      simp at h
      subst h
      simp [List.count_cons]
    | succ j =>
      simp at h
      simp [List.count_cons, ih h]
      omega
end Go.Proofs.YtfcemnebhapidaaDoor.Te
