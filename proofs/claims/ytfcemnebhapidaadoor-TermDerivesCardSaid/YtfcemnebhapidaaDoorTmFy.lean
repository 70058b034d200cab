/- The passes of the document's Derived, plainly. -/
import Derived.Test.YtfcemnebhapidaaDoorTmFx
set_option linter.unusedVariables false
set_option linter.unusedSimpArgs false
namespace Go.Proofs.YtfcemnebhapidaaDoor.Te
open Go.RowKit
/-- on a pass that began with hs0 -/
structure Ps (L M : List Tm) (hs0 hs : List Bool) (cb : Bool) : Prop where
  len : hs.length = M.length
  snd : ∀ t ∈ hadL M hs, Der (· ∈ L) t
  sup : ∀ t ∈ L, t ∈ hadL M hs
  up : had hs0 ≤ had hs
  yes : cb = true → had hs0 < had hs
  no : cb = false → hs = hs0
theorem Ps.fire {L M : List Tm} {hs0 hs : List Bool} {cb : Bool} (h : Ps L M hs0 hs cb) (hn : M.Nodup) {p : Nat} {u : Tm} (hu : M[p]? = some u) (hf : hs[p]? = some false) (hd : Der (· ∈ L) u) : Ps L M hs0 (hs.set p true) true := by
  have hup := had_up hf
  refine ⟨by rw [List.length_set]; exact h.len, fun t ht => ?_, fun t ht => (had_set hn h.len hu t).2 (.inl (h.sup t ht)), by have := h.up; omega, fun _ => by have := h.up; omega, fun e => by cases e⟩
  rcases (had_set hn h.len hu t).1 ht with h1 | rfl
  · exact h.snd t h1
  · exact hd
theorem Ps.start {L M : List Tm} {hs : List Bool} (hl : hs.length = M.length) (hs1 : ∀ t ∈ hadL M hs, Der (· ∈ L) t) (hs2 : ∀ t ∈ L, t ∈ hadL M hs) : Ps L M hs hs false := ⟨hl, hs1, hs2, Nat.le_refl _, (fun e => by cases e), fun _ => rfl⟩
/-- the j-th part of what is had is had with it -/
def Tkn (K : List Tm) (t : Tm) (j : Nat) : Prop := (∃ a b, t = .two 3 a b) ∨ (j = 1 ∧ ∃ a b, t = .two 5 a b) ∨ (j = 1 ∧ ∃ a b, t = .two 6 a b ∧ a ∈ K)
theorem quiet_had {K : List Tm} {t : Tm} (ht : t ∈ K) (hA : ∀ (j : Nat) (u : Tm), t.prt[j]? = some u → Tkn K t j → u ∈ K) : Quiet K t := by
  refine ⟨fun _ => ⟨fun a b e => ⟨hA 0 a (by rw [e]; rfl) (.inl ⟨a, b, e⟩), hA 1 b (by rw [e]; rfl) (.inl ⟨a, b, e⟩)⟩, fun a b e => hA 1 b (by rw [e]; rfl) (.inr (.inl ⟨rfl, a, b, e⟩)), fun a b e ha => hA 1 b (by rw [e]; rfl) (.inr (.inr ⟨rfl, a, b, e, ha⟩))⟩, fun _ _ _ _ => ht, fun _ _ _ _ _ _ => ht, fun _ _ _ _ _ => ht, fun _ _ _ _ _ => ht⟩
theorem tkn_der {L K : List Tm} {t u : Tm} {j : Nat} (hK : ∀ x ∈ K, Der (· ∈ L) x) (ht : t ∈ K) (hj : t.prt[j]? = some u) (h : Tkn K t j) : Der (· ∈ L) u := by
  have hd := hK t ht
  rcases h with ⟨a, b, rfl⟩ | ⟨rfl, a, b, rfl⟩ | ⟨rfl, a, b, rfl, ha⟩
  · match j, hj with
    | 0, hj => simp [Tm.prt] at hj; subst hj; exact .fst hd
    | 1, hj => simp [Tm.prt] at hj; subst hj; exact .snd hd
    | j + 2, hj => simp [Tm.prt] at hj
  · simp [Tm.prt] at hj; subst hj; exact .sgn hd
  · simp [Tm.prt] at hj; subst hj; exact .opn hd (hK a ha)
/-- all parts of a made-up term are had -/
def AllP (K : List Tm) (t : Tm) : Prop := (∀ s, t ≠ .atom s) ∧ ∀ u ∈ t.prt, u ∈ K
def Sh1 (K : List Tm) (t : Tm) : Prop := ∃ a b, t = .two 4 a b ∧ a ∈ K ∧ Tm.one 1 b ∈ K
def Sh2 (K : List Tm) (t : Tm) : Prop := ∃ a b, t = .two 4 a b ∧ b ∈ K ∧ Tm.one 1 a ∈ K
theorem ok_der {L K : List Tm} {t : Tm} (hK : ∀ x ∈ K, Der (· ∈ L) x) (h : AllP K t ∨ Sh1 K t ∨ Sh2 K t) : Der (· ∈ L) t := by
  rcases h with ⟨h1, h2⟩ | ⟨a, b, rfl, ha, hb⟩ | ⟨a, b, rfl, ha, hb⟩
  · cases t with
    | atom s => exact absurd rfl (h1 s)
    | one k a => exact .mk1 (hK a (h2 a (by simp [Tm.prt])))
    | two k a b => exact .mk2 (hK a (h2 a (by simp [Tm.prt]))) (hK b (h2 b (by simp [Tm.prt])))
  · exact .shl (hK a ha) (hK _ hb)
  · exact .shr (hK b ha) (hK _ hb)
theorem quiet_no {K : List Tm} {t : Tm} (ht : t ∉ K) (h : ¬ (AllP K t ∨ Sh1 K t ∨ Sh2 K t)) : Quiet K t := by
  refine ⟨fun e => absurd e ht, fun k a e ha => ?_, fun k a b e ha hb => ?_, fun a b e ha hb => ?_, fun a b e ha hb => ?_⟩
  · exact absurd (.inl ⟨(fun s e2 => by rw [e] at e2; cases e2), fun u hu => by rw [e] at hu; simp [Tm.prt] at hu; rw [hu]; exact ha⟩) h
  · exact absurd (.inl ⟨(fun s e2 => by rw [e] at e2; cases e2), fun u hu => by rw [e] at hu; simp [Tm.prt] at hu; rcases hu with rfl | rfl; exact ha; exact hb⟩) h
  · exact absurd (.inr (.inl ⟨a, b, e, ha, hb⟩)) h
  · exact absurd (.inr (.inr ⟨a, b, e, ha, hb⟩)) h
theorem bit_some {M : List Tm} {hs : List Bool} (hl : hs.length = M.length) {t : Tm} (ht : t ∈ M) : ∃ b, hs[pos M t]? = some b := ⟨_, List.getElem?_eq_getElem (by rw [hl]; exact pos_lt ht)⟩
theorem bit_iff {M : List Tm} {hs : List Bool} (hn : M.Nodup) {t : Tm} (ht : t ∈ M) {b : Bool} (hb : hs[pos M t]? = some b) : t ∈ hadL M hs ↔ b = true := by
  rw [had_pos hn ht, hb]; simp
/-- words and what they say -/
theorem wd_pair {t : Tm} (h : t.wf) : (t.knd = [112, 97, 105, 114]) ↔ ∃ a b, t = .two 3 a b := by
  constructor
  · intro e
    cases t with
    | atom s => exact absurd e (by show atomW ≠ _; decide)
    | one k a => have := numW_word k (by have := h.1; omega); rw [show word k = [112, 97, 105, 114] from e, show numW [112, 97, 105, 114] = 3 by decide] at this; have := h.1; omega
    | two k a b => have := numW_word k h.2.1; rw [show word k = [112, 97, 105, 114] from e, show numW [112, 97, 105, 114] = 3 by decide] at this; subst this; exact ⟨a, b, rfl⟩
  · rintro ⟨a, b, rfl⟩; rfl
theorem wd_sign {t : Tm} (h : t.wf) : (t.knd = [115, 105, 103, 110]) ↔ ∃ a b, t = .two 5 a b := by
  constructor
  · intro e
    cases t with
    | atom s => exact absurd e (by show atomW ≠ _; decide)
    | one k a => have := numW_word k (by have := h.1; omega); rw [show word k = [115, 105, 103, 110] from e, show numW [115, 105, 103, 110] = 5 by decide] at this; have := h.1; omega
    | two k a b => have := numW_word k h.2.1; rw [show word k = [115, 105, 103, 110] from e, show numW [115, 105, 103, 110] = 5 by decide] at this; subst this; exact ⟨a, b, rfl⟩
  · rintro ⟨a, b, rfl⟩; rfl
theorem wd_six {t : Tm} (h : t.wf) : (t.knd = [115, 101, 97, 108]) ↔ ∃ a b, t = .two 6 a b := by
  constructor
  · intro e
    cases t with
    | atom s => exact absurd e (by show atomW ≠ _; decide)
    | one k a => have := numW_word k (by have := h.1; omega); rw [show word k = [115, 101, 97, 108] from e, show numW [115, 101, 97, 108] = 6 by decide] at this; have := h.1; omega
    | two k a b => have := numW_word k h.2.1; rw [show word k = [115, 101, 97, 108] from e, show numW [115, 101, 97, 108] = 6 by decide] at this; subst this; exact ⟨a, b, rfl⟩
  · rintro ⟨a, b, rfl⟩; rfl
theorem wd_atom {t : Tm} (h : t.wf) : (t.knd = [97, 116, 111, 109]) ↔ ∃ s, t = .atom s := by
  constructor
  · intro e
    cases t with
    | atom s => exact ⟨s, rfl⟩
    | one k a => have := numW_word k (by have := h.1; omega); rw [show word k = [97, 116, 111, 109] from e, show numW [97, 116, 111, 109] = 7 by decide] at this; have := h.1; omega
    | two k a b => have := numW_word k h.2.1; rw [show word k = [97, 116, 111, 109] from e, show numW [97, 116, 111, 109] = 7 by decide] at this; have := h.2.1; omega
  · rintro ⟨s, rfl⟩; rfl
end Go.Proofs.YtfcemnebhapidaaDoor.Te
