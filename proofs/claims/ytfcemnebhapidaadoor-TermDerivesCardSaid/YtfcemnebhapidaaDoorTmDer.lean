/- What can be made of what was learned, plainly. -/
import Derived.Test.YtfcemnebhapidaaDoorTmSpec
set_option linter.unusedVariables false
set_option linter.unusedSimpArgs false
namespace Go.Proofs.YtfcemnebhapidaaDoor.Te
/-- can it be made of what is at hand -/
def syn (K : List Tm) : Tm → Bool
  | .atom s => decide (Tm.atom s ∈ K)
  | .one k a => decide (Tm.one k a ∈ K) || syn K a
  | .two k a b => decide (Tm.two k a b ∈ K) || if k = 4 then (syn K a && syn K b) || (syn K a && decide (Tm.one 1 b ∈ K)) || (syn K b && decide (Tm.one 1 a ∈ K)) else syn K a && syn K b
theorem syn_mem {K : List Tm} {t : Tm} (h : t ∈ K) : syn K t = true := by
  cases t <;> unfold syn <;> simp [h]
/-- a term, and what can be taken apart without a key -/
def tk : Tm → List Tm → List Tm
  | .atom s, K => if Tm.atom s ∈ K then K else .atom s :: K
  | .one k a, K => if Tm.one k a ∈ K then K else .one k a :: K
  | .two k a b, K => if Tm.two k a b ∈ K then K else if k = 3 then tk b (tk a (.two k a b :: K)) else if k = 5 then tk b (.two k a b :: K) else .two k a b :: K
theorem tk_sub : ∀ (t : Tm) (K : List Tm) {x : Tm}, x ∈ K → x ∈ tk t K
  | .atom s, K, x, h => by unfold tk; split <;> simp [h]
  | .one k a, K, x, h => by unfold tk; split <;> simp [h]
  | .two k a b, K, x, h => by
    unfold tk
    split
    · exact h
    · split
      · exact tk_sub b _ (tk_sub a _ (by simp [h]))
      · split
        · exact tk_sub b _ (by simp [h])
        · simp [h]
theorem tk_self : ∀ (t : Tm) (K : List Tm), t ∈ tk t K
  | .atom s, K => by unfold tk; split <;> simp [*]
  | .one k a, K => by unfold tk; split <;> simp [*]
  | .two k a b, K => by
    unfold tk
    split
    · assumption
    · split
      · exact tk_sub b _ (tk_sub a _ (by simp))
      · split
        · exact tk_sub b _ (by simp)
        · simp
/-- what is known by pairs and signs, but for some -/
def Cls (E K : List Tm) : Prop := ∀ x ∈ K, x ∉ E → (∀ a b, x = .two 3 a b → a ∈ K ∧ b ∈ K) ∧ ∀ a b, x = .two 5 a b → b ∈ K
theorem Cls.weak {E K : List Tm} (h : Cls E K) (t : Tm) : Cls (t :: E) K := fun x hx hn => h x hx (fun e => hn (by simp [e]))
theorem Cls.cons {E K : List Tm} (h : Cls E K) (t : Tm) : Cls (t :: E) (t :: K) := fun x hx hn => by
  rcases List.mem_cons.1 hx with rfl | hx
  · exact absurd (by simp) hn
  · obtain ⟨h1, h2⟩ := h x hx (fun e => hn (by simp [e]))
    exact ⟨fun a b e => ⟨by simp [(h1 a b e).1], by simp [(h1 a b e).2]⟩, fun a b e => by simp [h2 a b e]⟩
theorem Cls.drop {E K : List Tm} {t : Tm} (h : Cls (t :: E) K) (h3 : ∀ a b, t = .two 3 a b → a ∈ K ∧ b ∈ K) (h5 : ∀ a b, t = .two 5 a b → b ∈ K) : Cls E K := fun x hx hn => by
  by_cases e : x = t
  · subst e; exact ⟨h3, h5⟩
  · exact h x hx (fun hm => by rcases List.mem_cons.1 hm with h1 | h1; exact e h1; exact hn h1)
theorem tk_cls : ∀ (t : Tm) (E K : List Tm), Cls E K → Cls E (tk t K)
  | .atom s, E, K, h => by
    unfold tk
    split
    · exact h
    · exact (h.cons _).drop (fun a b e => by cases e) (fun a b e => by cases e)
  | .one k a, E, K, h => by
    unfold tk
    split
    · exact h
    · exact (h.cons _).drop (fun a b e => by cases e) (fun a b e => by cases e)
  | .two k a b, E, K, h => by
    unfold tk
    split
    · exact h
    · split
      · rename_i hk
        refine (tk_cls b _ _ (tk_cls a _ _ (h.cons (.two k a b)))).drop (fun a' b' e => ?_) (fun a' b' e => ?_)
        · injection e with _ e1 e2
          subst e1 e2
          exact ⟨tk_sub b _ (tk_self a _), tk_self b _⟩
        · injection e with e0 _ _
          omega
      · split
        · rename_i hk
          refine (tk_cls b _ _ (h.cons (.two k a b))).drop (fun a' b' e => ?_) (fun a' b' e => ?_)
          · injection e with e0 _ _
            omega
          · injection e with _ e1 e2
            subst e1 e2
            exact tk_self b _
        · exact (h.cons _).drop (fun a' b' e => by injection e with e0 _ _; omega) (fun a' b' e => by injection e with e0 _ _; omega)
/-- what can be made -/
inductive Der (L : Tm → Prop) : Tm → Prop
  | base {t : Tm} (h : L t) : Der L t
  | fst {a b : Tm} (h : Der L (.two 3 a b)) : Der L a
  | snd {a b : Tm} (h : Der L (.two 3 a b)) : Der L b
  | sgn {a b : Tm} (h : Der L (.two 5 a b)) : Der L b
  | opn {a b : Tm} (h : Der L (.two 6 a b)) (h' : Der L a) : Der L b
  | mk1 {k : Nat} {a : Tm} (h : Der L a) : Der L (.one k a)
  | mk2 {k : Nat} {a b : Tm} (h : Der L a) (h' : Der L b) : Der L (.two k a b)
  | shl {a b : Tm} (h : Der L a) (h' : Der L (.one 1 b)) : Der L (.two 4 a b)
  | shr {a b : Tm} (h : Der L b) (h' : Der L (.one 1 a)) : Der L (.two 4 a b)
theorem Der.mono {L L' : Tm → Prop} (hl : ∀ t, L t → L' t) {t : Tm} (h : Der L t) : Der L' t := by
  induction h with
  | base h => exact .base (hl _ h)
  | fst _ ih => exact .fst ih
  | snd _ ih => exact .snd ih
  | sgn _ ih => exact .sgn ih
  | opn _ _ i1 i2 => exact .opn i1 i2
  | mk1 _ ih => exact .mk1 ih
  | mk2 _ _ i1 i2 => exact .mk2 i1 i2
  | shl _ _ i1 i2 => exact .shl i1 i2
  | shr _ _ i1 i2 => exact .shr i1 i2
/-- what is taken apart -/
inductive Apt (L : Tm → Prop) : Tm → Prop
  | base {t : Tm} (h : L t) : Apt L t
  | fst {a b : Tm} (h : Apt L (.two 3 a b)) : Apt L a
  | snd {a b : Tm} (h : Apt L (.two 3 a b)) : Apt L b
  | sgn {a b : Tm} (h : Apt L (.two 5 a b)) : Apt L b
  | opn {a b : Tm} (h : Apt L (.two 6 a b)) (h' : Der L a) : Apt L b
theorem Apt.der {L : Tm → Prop} {t : Tm} (h : Apt L t) : Der L t := by
  induction h with
  | base h => exact .base h
  | fst _ ih => exact .fst ih
  | snd _ ih => exact .snd ih
  | sgn _ ih => exact .sgn ih
  | opn _ h' ih => exact .opn ih h'
theorem Apt.mono {L L' : Tm → Prop} (hl : ∀ t, L t → L' t) {t : Tm} (h : Apt L t) : Apt L' t := by
  induction h with
  | base h => exact .base (hl _ h)
  | fst _ ih => exact .fst ih
  | snd _ ih => exact .snd ih
  | sgn _ ih => exact .sgn ih
  | opn _ h' ih => exact .opn ih (h'.mono hl)
/-- what is sealed is open, where its key can be made -/
def Opn (K : List Tm) : Prop := ∀ a b, Tm.two 6 a b ∈ K → syn K a = true → b ∈ K
theorem syn_two {K : List Tm} {k : Nat} {a b : Tm} (hk : k ≠ 4) (h : syn K (.two k a b) = true) : Tm.two k a b ∈ K ∨ (syn K a = true ∧ syn K b = true) := by
  unfold syn at h
  rw [if_neg hk] at h
  simpa using h
theorem syn_mk2 {K : List Tm} {k : Nat} {a b : Tm} (ha : syn K a = true) (hb : syn K b = true) : syn K (.two k a b) = true := by
  unfold syn
  split <;> simp [ha, hb]
theorem der_syn {L : Tm → Prop} {K : List Tm} (hL : ∀ t, L t → t ∈ K) (hC : Cls [] K) (hO : Opn K) {t : Tm} (h : Der L t) : syn K t = true := by
  induction h with
  | base h => exact syn_mem (hL _ h)
  | fst _ ih =>
    rcases syn_two (by decide) ih with h | h
    · exact syn_mem ((hC _ h (by simp)).1 _ _ rfl).1
    · exact h.1
  | snd _ ih =>
    rcases syn_two (by decide) ih with h | h
    · exact syn_mem ((hC _ h (by simp)).1 _ _ rfl).2
    · exact h.2
  | sgn _ ih =>
    rcases syn_two (by decide) ih with h | h
    · exact syn_mem ((hC _ h (by simp)).2 _ _ rfl)
    · exact h.2
  | opn _ _ i1 i2 =>
    rcases syn_two (by decide) i1 with h | h
    · exact syn_mem (hO _ _ h i2)
    · exact h.2
  | mk1 _ ih => unfold syn; rw [ih]; simp
  | mk2 _ _ i1 i2 => exact syn_mk2 i1 i2
  | @shl a b _ _ i1 i2 =>
    unfold syn at i2
    rw [Bool.or_eq_true, decide_eq_true_eq] at i2
    rcases i2 with h | h
    · unfold syn; simp [i1, h]
    · exact syn_mk2 i1 h
  | @shr a b _ _ i1 i2 =>
    unfold syn at i2
    rw [Bool.or_eq_true, decide_eq_true_eq] at i2
    rcases i2 with h | h
    · unfold syn; simp [i1, h]
    · exact syn_mk2 h i1
theorem syn_der {L : Tm → Prop} {K : List Tm} (hK : ∀ t ∈ K, Der L t) : ∀ {t : Tm}, syn K t = true → Der L t
  | .atom s, h => hK _ (by unfold syn at h; simpa using h)
  | .one k a, h => by
    unfold syn at h
    rw [Bool.or_eq_true, decide_eq_true_eq] at h
    rcases h with h | h
    · exact hK _ h
    · exact .mk1 (syn_der hK h)
  | .two k a b, h => by
    unfold syn at h
    rw [Bool.or_eq_true, decide_eq_true_eq] at h
    rcases h with h | h
    · exact hK _ h
    · split at h
      · rename_i hk
        subst hk
        simp only [Bool.or_eq_true, Bool.and_eq_true, decide_eq_true_eq] at h
        rcases h with (⟨h1, h2⟩ | ⟨h1, h2⟩) | ⟨h1, h2⟩
        · exact .mk2 (syn_der hK h1) (syn_der hK h2)
        · exact .shl (syn_der hK h1) (hK _ h2)
        · exact .shr (syn_der hK h1) (hK _ h2)
      · rw [Bool.and_eq_true] at h
        exact .mk2 (syn_der hK h.1) (syn_der hK h.2)
/-- what is known behind the learning of L: all that is taken apart, and no more -/
structure Kn (L K : List Tm) : Prop where
  nd : K.Nodup
  wf : ∀ t ∈ K, t.wf
  all : ∀ t ∈ L, t ∈ K
  apt : ∀ t ∈ K, Apt (· ∈ L) t
  cls : Cls [] K
  opn : Opn K
theorem Kn.syn_iff {L K : List Tm} (h : Kn L K) (t : Tm) : syn K t = true ↔ Der (· ∈ L) t :=
  ⟨syn_der fun t ht => (h.apt t ht).der, der_syn h.all h.cls h.opn⟩
theorem Kn.mem_iff {L K : List Tm} (h : Kn L K) (t : Tm) : t ∈ K ↔ Apt (· ∈ L) t := by
  refine ⟨h.apt t, fun ha => ?_⟩
  induction ha with
  | base h' => exact h.all _ h'
  | fst _ ih => exact ((h.cls _ ih (by simp)).1 _ _ rfl).1
  | snd _ ih => exact ((h.cls _ ih (by simp)).1 _ _ rfl).2
  | sgn _ ih => exact (h.cls _ ih (by simp)).2 _ _ rfl
  | opn _ h' ih => exact h.opn _ _ ih ((h.syn_iff _).2 h')
/-- the same learned, the same known -/
theorem Kn.same {L K L' K' : List Tm} (h : Kn L K) (h' : Kn L' K') (hl : ∀ t, t ∈ L ↔ t ∈ L') : K.Perm K' :=
  (List.perm_ext_iff_of_nodup h.nd h'.nd).2 fun t => by
    rw [h.mem_iff, h'.mem_iff]
    exact ⟨fun h => h.mono fun t ht => (hl t).1 ht, fun h => h.mono fun t ht => (hl t).2 ht⟩
theorem Kn.sub {L K L' K' : List Tm} (h : Kn L K) (h' : Kn L' K') (hl : ∀ t ∈ L, t ∈ L') {t : Tm} (ht : t ∈ K) : t ∈ K' :=
  (h'.mem_iff t).2 (((h.mem_iff t).1 ht).mono hl)
/-- the texts that are known, rising -/
def prtsOf (K : List Tm) : List (List UInt8) := (K.map Tm.txt).mergeSort fun x y => decide (x ≤ y)
/-! ### the steps of Learn -/
/-- a term is taken: more is known, nothing but what can be -/
theorem tk_nd : ∀ (t : Tm) (K : List Tm), K.Nodup → (tk t K).Nodup
  | .atom s, K, h => by unfold tk; split; exact h; exact List.nodup_cons.2 ⟨by assumption, h⟩
  | .one k a, K, h => by unfold tk; split; exact h; exact List.nodup_cons.2 ⟨by assumption, h⟩
  | .two k a b, K, h => by
    unfold tk
    split
    · exact h
    · rename_i hn
      have h1 : (Tm.two k a b :: K).Nodup := List.nodup_cons.2 ⟨hn, h⟩
      split
      · exact tk_nd b _ (tk_nd a _ h1)
      · split
        · exact tk_nd b _ h1
        · exact h1
theorem tk_wf : ∀ (t : Tm) (K : List Tm), t.wf → (∀ x ∈ K, x.wf) → ∀ x ∈ tk t K, x.wf
  | .atom s, K, ht, h => by
    unfold tk
    split
    · exact h
    · intro x hx
      rcases List.mem_cons.1 hx with rfl | hx
      · exact ht
      · exact h x hx
  | .one k a, K, ht, h => by
    unfold tk
    split
    · exact h
    · intro x hx
      rcases List.mem_cons.1 hx with rfl | hx
      · exact ht
      · exact h x hx
  | .two k a b, K, ht, h => by
    have h1 : ∀ x ∈ Tm.two k a b :: K, x.wf := fun x hx => by
      rcases List.mem_cons.1 hx with rfl | hx
      · exact ht
      · exact h x hx
    unfold tk
    split
    · exact h
    · split
      · exact tk_wf b _ ht.2.2.2.1 (tk_wf a _ ht.2.2.1 h1)
      · split
        · exact tk_wf b _ ht.2.2.2.1 h1
        · exact h1
theorem tk_apt {L : Tm → Prop} : ∀ (t : Tm) (K : List Tm), Apt L t → (∀ x ∈ K, Apt L x) → ∀ x ∈ tk t K, Apt L x
  | .atom s, K, ht, h => by
    unfold tk
    split
    · exact h
    · intro x hx
      rcases List.mem_cons.1 hx with rfl | hx
      · exact ht
      · exact h x hx
  | .one k a, K, ht, h => by
    unfold tk
    split
    · exact h
    · intro x hx
      rcases List.mem_cons.1 hx with rfl | hx
      · exact ht
      · exact h x hx
  | .two k a b, K, ht, h => by
    have h1 : ∀ x ∈ Tm.two k a b :: K, Apt L x := fun x hx => by
      rcases List.mem_cons.1 hx with rfl | hx
      · exact ht
      · exact h x hx
    unfold tk
    split
    · exact h
    · split
      · rename_i hk
        subst hk
        exact tk_apt b _ (.snd ht) (tk_apt a _ (.fst ht) h1)
      · split
        · rename_i hk
          subst hk
          exact tk_apt b _ (.sgn ht) h1
        · exact h1
/-- all that stands in a term -/
def subs : Tm → List Tm
  | .atom s => [.atom s]
  | .one k a => .one k a :: subs a
  | .two k a b => .two k a b :: (subs a ++ subs b)
theorem subs_self (t : Tm) : t ∈ subs t := by cases t <;> simp [subs]
/-- what is taken stands in U, when U holds what stands in its terms -/
def Hold (U : List Tm) : Prop := ∀ x ∈ U, (∀ k a, x = .one k a → a ∈ U) ∧ ∀ k a b, x = .two k a b → a ∈ U ∧ b ∈ U
theorem subs_hold : ∀ (t : Tm) {x : Tm}, x ∈ subs t → (∀ k a, x = .one k a → a ∈ subs t) ∧ ∀ k a b, x = .two k a b → a ∈ subs t ∧ b ∈ subs t
  | .atom s, x, h => by
    simp [subs] at h
    subst h
    exact ⟨fun k a e => (by cases e), fun k a b e => (by cases e)⟩
  | .one k a, x, h => by
    unfold subs at h ⊢
    rcases List.mem_cons.1 h with rfl | h
    · exact ⟨fun k' a' e => (by injection e with _ e; subst e; exact List.mem_cons_of_mem _ (subs_self _)), fun k a b e => (by cases e)⟩
    · obtain ⟨h1, h2⟩ := subs_hold a h
      exact ⟨fun k' a' e => List.mem_cons_of_mem _ (h1 k' a' e), fun k' a' b' e => ⟨List.mem_cons_of_mem _ (h2 k' a' b' e).1, List.mem_cons_of_mem _ (h2 k' a' b' e).2⟩⟩
  | .two k a b, x, h => by
    unfold subs at h ⊢
    rcases List.mem_cons.1 h with rfl | h
    · exact ⟨fun k' a' e => (by cases e), fun k' a' b' e => by
        injection e with _ e1 e2
        subst e1 e2
        exact ⟨List.mem_cons_of_mem _ (List.mem_append_left _ (subs_self _)), List.mem_cons_of_mem _ (List.mem_append_right _ (subs_self _))⟩⟩
    · rcases List.mem_append.1 h with h | h
      · obtain ⟨h1, h2⟩ := subs_hold a h
        exact ⟨fun k' a' e => List.mem_cons_of_mem _ (List.mem_append_left _ (h1 k' a' e)), fun k' a' b' e => ⟨List.mem_cons_of_mem _ (List.mem_append_left _ (h2 k' a' b' e).1), List.mem_cons_of_mem _ (List.mem_append_left _ (h2 k' a' b' e).2)⟩⟩
      · obtain ⟨h1, h2⟩ := subs_hold b h
        exact ⟨fun k' a' e => List.mem_cons_of_mem _ (List.mem_append_right _ (h1 k' a' e)), fun k' a' b' e => ⟨List.mem_cons_of_mem _ (List.mem_append_right _ (h2 k' a' b' e).1), List.mem_cons_of_mem _ (List.mem_append_right _ (h2 k' a' b' e).2)⟩⟩
theorem tk_in {U : List Tm} (hU : Hold U) : ∀ (t : Tm) (K : List Tm), t ∈ U → (∀ x ∈ K, x ∈ U) → ∀ x ∈ tk t K, x ∈ U
  | .atom s, K, ht, h => by
    unfold tk
    split
    · exact h
    · intro x hx
      rcases List.mem_cons.1 hx with rfl | hx
      · exact ht
      · exact h x hx
  | .one k a, K, ht, h => by
    unfold tk
    split
    · exact h
    · intro x hx
      rcases List.mem_cons.1 hx with rfl | hx
      · exact ht
      · exact h x hx
  | .two k a b, K, ht, h => by
    have h1 : ∀ x ∈ Tm.two k a b :: K, x ∈ U := fun x hx => by
      rcases List.mem_cons.1 hx with rfl | hx
      · exact ht
      · exact h x hx
    have h2 := (hU _ ht).2 k a b rfl
    unfold tk
    split
    · exact h
    · split
      · exact tk_in hU b _ h2.2 (tk_in hU a _ h2.1 h1)
      · split
        · exact tk_in hU b _ h2.2 h1
        · exact h1
theorem tk_len : ∀ (t : Tm) (K : List Tm), K.length ≤ (tk t K).length
  | .atom s, K => by unfold tk; split <;> simp
  | .one k a, K => by unfold tk; split <;> simp
  | .two k a b, K => by
    unfold tk
    split
    · exact Nat.le_refl _
    · split
      · have h1 := tk_len b (tk a (.two k a b :: K))
        have h2 := tk_len a (.two k a b :: K)
        simp at h2; omega
      · split
        · have h1 := tk_len b (.two k a b :: K)
          simp at h1; omega
        · simp
theorem tk_more {t : Tm} {K : List Tm} (h : t ∉ K) : K.length < (tk t K).length := by
  cases t with
  | atom s => unfold tk; rw [if_neg h]; simp
  | one k a => unfold tk; rw [if_neg h]; simp
  | two k a b =>
    unfold tk
    rw [if_neg h]
    split
    · have h1 := tk_len b (tk a (.two k a b :: K))
      have h2 := tk_len a (.two k a b :: K)
      simp at h2; omega
    · split
      · have h1 := tk_len b (.two k a b :: K)
        simp at h1; omega
      · simp
theorem nodup_len {U : List Tm} : ∀ {K : List Tm}, K.Nodup → (∀ x ∈ K, x ∈ U) → K.length ≤ U.length := by
  induction U with
  | nil =>
    intro K _ h
    cases K with
    | nil => exact Nat.le_refl _
    | cons x K => exact absurd (h x (by simp)) (by simp)
  | cons u U ih =>
    intro K hn h
    have h1 := ih (K := K.erase u) (hn.erase u) (fun x hx => by
      have hx2 := List.mem_of_mem_erase hx
      rcases List.mem_cons.1 (h x hx2) with rfl | h3
      · exact absurd hx (List.Nodup.not_mem_erase hn)
      · exact h3)
    by_cases hu : u ∈ K
    · rw [List.length_erase_of_mem hu] at h1
      simp; omega
    · rw [List.erase_of_not_mem hu] at h1
      simp; omega
end Go.Proofs.YtfcemnebhapidaaDoor.Te
