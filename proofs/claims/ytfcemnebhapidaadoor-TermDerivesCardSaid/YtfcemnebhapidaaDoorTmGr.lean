/- What grows and what is fresh, plainly. -/
import Derived.Test.YtfcemnebhapidaaDoorTmKs
set_option linter.unusedVariables false
set_option linter.unusedSimpArgs false
namespace Go.Proofs.YtfcemnebhapidaaDoor.Te
open Go.RowKit
theorem txt_nodup {K : List Tm} (hn : K.Nodup) (hw : ∀ t ∈ K, t.wf) : (K.map Tm.txt).Nodup := by
  induction K with
  | nil => exact List.nodup_nil
  | cons t K ih =>
    rw [List.map_cons, List.nodup_cons]
    rw [List.nodup_cons] at hn
    refine ⟨fun h => ?_, ih hn.2 (fun u hu => hw u (by simp [hu]))⟩
    obtain ⟨u, hu, e⟩ := List.mem_map.1 h
    have := txt_inj (hw u (by simp [hu])) (hw t (by simp)) e
    subst this
    exact hn.1 hu
theorem prts_nodup {L K : List Tm} (h : Kn L K) : (prtsOf K).Nodup := by
  unfold prtsOf
  exact (List.mergeSort_perm _ _).nodup_iff.2 (txt_nodup h.nd h.wf)
theorem prts_sorted (K : List Tm) : (prtsOf K).Pairwise (· ≤ ·) := by
  unfold prtsOf
  have := List.pairwise_mergeSort (le := fun x y : List UInt8 => decide (x ≤ y)) (fun a b c h1 h2 => by
    rw [decide_eq_true_iff] at *; exact List.le_trans h1 h2) (fun a b => by
    rw [Bool.or_eq_true, decide_eq_true_iff, decide_eq_true_iff]; exact List.le_total a b) (K.map Tm.txt)
  exact this.imp (fun h => of_decide_eq_true h)
/-- how far the first list has been found behind j of the second -/
structure Grd (P Q : List (List UInt8)) (m j : Nat) : Prop where
  le : m ≤ P.length
  in_ : ∀ x ∈ P.drop m, x ∈ Q.drop j
theorem Grd.start {P Q : List (List UInt8)} (h : ∀ x ∈ P, x ∈ Q) : Grd P Q 0 0 := ⟨Nat.zero_le _, fun x hx => by simpa using h x (by simpa using hx)⟩
theorem drop_cons {α : Type} {l : List α} {k : Nat} {x : α} (h : l[k]? = some x) : l.drop k = x :: l.drop (k + 1) := by
  obtain ⟨hk, e⟩ := List.getElem?_eq_some_iff.1 h
  rw [List.drop_eq_getElem_cons hk, e]
theorem Grd.hit {P Q : List (List UInt8)} {m j : Nat} (h : Grd P Q m j) (hP : P.Nodup) {y : List UInt8} (hm : P[m]? = some y) (hj : Q[j]? = some y) : Grd P Q (m + 1) (j + 1) := by
  have hlt := (List.getElem?_eq_some_iff.1 hm).1
  refine ⟨hlt, fun x hx => ?_⟩
  have h1 := h.in_ x (by rw [drop_cons hm]; simp [hx])
  rw [drop_cons hj] at h1
  rcases List.mem_cons.1 h1 with rfl | h1
  · have := (List.nodup_cons.1 (drop_cons hm ▸ hP.sublist (List.drop_sublist m P))).1
    exact absurd hx this
  · exact h1
theorem Grd.miss {P Q : List (List UInt8)} {m j : Nat} (h : Grd P Q m j) (hP : P.Pairwise (· ≤ ·)) (hQ : Q.Pairwise (· ≤ ·)) {y : List UInt8} (hm : P[m]? ≠ some y) (hj : Q[j]? = some y) : Grd P Q m (j + 1) := by
  refine ⟨h.le, fun x hx => ?_⟩
  have h1 := h.in_ x hx
  rw [drop_cons hj] at h1
  rcases List.mem_cons.1 h1 with rfl | h1
  · -- x stands first in what is left of Q; P's next one is not x
    cases hp : P[m]? with
    | none =>
      rw [List.drop_of_length_le (by rw [List.getElem?_eq_none_iff] at hp; exact hp)] at hx
      simp at hx
    | some z =>
      have hzx : z ≠ x := fun e => hm (by rw [hp, e])
      have hd := drop_cons hp
      rw [hd] at hx
      have hx2 : x ∈ P.drop (m + 1) := by
        rcases List.mem_cons.1 hx with e | hx
        · exact absurd e.symm hzx
        · exact hx
      have hle : z ≤ x := (List.pairwise_cons.1 (hd ▸ hP.sublist (List.drop_sublist m P))).1 x hx2
      have hz := h.in_ z (by rw [hd]; simp)
      rw [drop_cons hj] at hz
      rcases List.mem_cons.1 hz with e | hz
      · exact absurd e hzx
      · have hle2 : x ≤ z := (List.pairwise_cons.1 (drop_cons hj ▸ hQ.sublist (List.drop_sublist j Q))).1 z hz
        exact absurd (List.le_antisymm hle hle2) hzx
  · exact h1
theorem Grd.fin {P Q : List (List UInt8)} {m : Nat} (h : Grd P Q m Q.length) : m = P.length := by
  have h1 := h.in_
  rw [List.drop_length] at h1
  have h2 : P.drop m = [] := by
    cases hd : P.drop m with
    | nil => rfl
    | cons x l => exact absurd (h1 x (by rw [hd]; simp)) (by simp)
  have h3 := congrArg List.length h2
  rw [List.length_drop] at h3
  have := h.le
  simp at h3
  omega
/-- whatever was learned, in whichever order -/
theorem pts_same {L L' : List Tm} (h : ∃ K, Kn L K) (h' : ∃ K, Kn L' K) (hl : ∀ t, t ∈ L ↔ t ∈ L') : ptsL L = ptsL L' := by
  obtain ⟨K, h⟩ := h
  obtain ⟨K', h'⟩ := h'
  rw [← h.pts, ← h'.pts]
  unfold prtsOf
  exact mergeSort_of_perm ((h.same h' hl).map _)
theorem der_same {L L' : List Tm} (hl : ∀ t, t ∈ L ↔ t ∈ L') (t : Tm) : derB L t = derB L' t := by
  rw [Bool.eq_iff_iff, derB_iff, derB_iff]
  exact ⟨fun h => h.mono fun t ht => (hl t).1 ht, fun h => h.mono fun t ht => (hl t).2 ht⟩
theorem der_mono {L L' : List Tm} (hl : ∀ t ∈ L, t ∈ L') {t : Tm} (h : derB L t = true) : derB L' t = true :=
  (derB_iff _ _).2 (((derB_iff _ _).1 h).mono hl)
theorem pts_grd {L L' : List Tm} (h : ∃ K, Kn L K) (h' : ∃ K, Kn L' K) (hl : ∀ t ∈ L, t ∈ L') : Grd (ptsL L) (ptsL L') 0 0 ∧ (ptsL L).Nodup ∧ (ptsL L).Pairwise (· ≤ ·) ∧ (ptsL L').Pairwise (· ≤ ·) := by
  obtain ⟨K, h⟩ := h
  obtain ⟨K', h'⟩ := h'
  rw [← h.pts, ← h'.pts]
  refine ⟨Grd.start fun x hx => ?_, prts_nodup h, prts_sorted K, prts_sorted K'⟩
  obtain ⟨t, ht, rfl⟩ := prts_mem.1 hx
  exact prts_mem.2 ⟨t, h.sub h' hl ht, rfl⟩
/-- an atom stands in a term -/
def occ (a : Tm) : Tm → Bool
  | .atom s => decide (Tm.atom s = a)
  | .one k x => decide (Tm.one k x = a) || occ a x
  | .two k x y => decide (Tm.two k x y = a) || occ a x || occ a y
/-- it stands in a term but within S -/
def occS (S a : Tm) : Tm → Bool
  | .atom s => decide (Tm.atom s = a)
  | .one k x => decide (Tm.one k x ≠ S) && (decide (Tm.one k x = a) || occS S a x)
  | .two k x y => decide (Tm.two k x y ≠ S) && (decide (Tm.two k x y = a) || occS S a x || occS S a y)
theorem occS_le {S a : Tm} : ∀ {t : Tm}, occ a t = false → occS S a t = false
  | .atom s, h => h
  | .one k x, h => by
    unfold occ at h; unfold occS
    rw [Bool.or_eq_false_iff] at h
    rw [h.1, occS_le h.2]; simp
  | .two k x y, h => by
    unfold occ at h; unfold occS
    rw [Bool.or_eq_false_iff, Bool.or_eq_false_iff] at h
    rw [h.1.1, occS_le h.1.2, occS_le h.2]; simp
/-- what is made of what an atom does not stand in -/
theorem der_occ {L : Tm → Prop} {s : List UInt8} (hL : ∀ t, L t → occ (.atom s) t = false) {t : Tm} (h : Der L t) : occ (.atom s) t = false := by
  induction h with
  | base h => exact hL _ h
  | fst _ ih => unfold occ at ih; simp at ih; exact ih.1
  | snd _ ih => unfold occ at ih; simp at ih; exact ih.2
  | sgn _ ih => unfold occ at ih; simp at ih; exact ih.2
  | opn _ _ ih _ => unfold occ at ih; simp at ih; exact ih.2
  | mk1 _ ih => unfold occ; simp [ih]
  | mk2 _ _ i1 i2 => unfold occ; simp [i1, i2]
  | shl _ _ i1 i2 => unfold occ at i2 ⊢; simp at i2; simp [i1, i2]
  | shr _ _ i1 i2 => unfold occ at i2 ⊢; simp at i2; simp [i1, i2]
/-- sealed with a key that it stands in itself: it is not had -/
def Sld (s c : List UInt8) : Tm := .two 6 (.one 0 (.atom s)) (.two 3 (.atom c) (.atom s))
theorem der_occS {L : Tm → Prop} {s c : List UInt8} (hL : ∀ t, L t → occ (.atom s) t = false ∨ t = Sld s c) {t : Tm} (h : Der L t) : occS (Sld s c) (.atom s) t = false := by
  induction h with
  | base h =>
    rcases hL _ h with h | rfl
    · exact occS_le h
    · unfold Sld occS; simp
  | fst _ ih => unfold occS at ih; simp [Sld] at ih; exact ih.1
  | snd _ ih => unfold occS at ih; simp [Sld] at ih; exact ih.2
  | sgn _ ih => unfold occS at ih; simp [Sld] at ih; exact ih.2
  | @opn a b _ _ i1 i2 =>
    by_cases e : Tm.two 6 a b = Sld s c
    · unfold Sld at e
      injection e with _ e1 e2
      subst e1
      unfold occS at i2
      simp [Sld, occS] at i2
    · unfold occS at i1
      simp [e] at i1; exact i1.2
  | mk1 _ ih => unfold occS; simp [ih]
  | mk2 _ _ i1 i2 => unfold occS; simp [i1, i2]
  | @shl a b _ _ i1 i2 =>
    have hne : Tm.one 1 b ≠ Sld s c := by unfold Sld; intro e; cases e
    unfold occS at i2 ⊢
    simp [hne] at i2; simp [i1, i2]
  | @shr a b _ _ i1 i2 =>
    have hne : Tm.one 1 a ≠ Sld s c := by unfold Sld; intro e; cases e
    unfold occS at i2 ⊢
    simp [hne] at i2; simp [i1, i2]
theorem fresh_atom {L : List Tm} {s : List UInt8} (hL : ∀ t ∈ L, occ (.atom s) t = false) : derB L (.atom s) = false := by
  cases h : derB L (.atom s) with
  | false => rfl
  | true => have := der_occ hL ((derB_iff _ _).1 h); simp [occ] at this
theorem fresh_one {L : List Tm} {s : List UInt8} (k : Nat) (hL : ∀ t ∈ L, occ (.atom s) t = false) : derB L (.one k (.atom s)) = false := by
  cases h : derB L (.one k (.atom s)) with
  | false => rfl
  | true => have := der_occ hL ((derB_iff _ _).1 h); simp [occ] at this
theorem fresh_sealed {L : List Tm} {s c : List UInt8} (hL : ∀ t ∈ L, occ (.atom s) t = false) : derB (L ++ [Sld s c]) (.atom s) = false := by
  cases h : derB (L ++ [Sld s c]) (.atom s) with
  | false => rfl
  | true =>
    have := der_occS (s := s) (c := c) (fun t ht => by
      rcases List.mem_append.1 ht with h | h
      · exact .inl (hL t h)
      · exact .inr (by simpa using h)) ((derB_iff _ _).1 h)
    simp [occS] at this
theorem opened {L : List Tm} {s c : List UInt8} : derB (L ++ [Sld s c] ++ [.one 0 (.atom s)]) (.atom s) = true :=
  is_der (.snd (a := .atom c) (.opn (a := .one 0 (.atom s)) (.base (by unfold Sld; simp)) (.base (by simp))))
end Go.Proofs.YtfcemnebhapidaaDoor.Te
