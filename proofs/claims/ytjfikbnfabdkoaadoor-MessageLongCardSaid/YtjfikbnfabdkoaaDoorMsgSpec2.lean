/- Messages: the reference's order of looking. -/
import Derived.Test.YtjfikbnfabdkoaaDoorMsgSpec
set_option linter.unusedVariables false
set_option linter.unusedSimpArgs false
namespace Go.Proofs.YtjfikbnfabdkoaaDoor.Mg
open Go.Proofs.YtjfikbnfabdkoaaDoor.Wi Go.Proofs.YtjfikbnfabdkoaaDoor.Be
/-- is a cookie wrong? -/
def wS : List UInt8 → List ByteArray → Bool
  | [], _ => false
  | c :: l, s => if c = 99 then decide ((hd s).size ≠ 16) || wS l s.tail else if c = 115 ∨ c = 114 then wS l s.tail else wS l s
/-- is a text too long? -/
def bS : List UInt8 → List ByteArray → Bool
  | [], _ => false
  | c :: l, s => if c = 99 then bS l s.tail else if c = 115 ∨ c = 114 then decide (32768 < (hd s).size) || bS l s.tail else bS l s
def wN (n : List (List ByteArray)) : Bool := n.any fun x => !x.all okN
def bN (n : List (List ByteArray)) : Bool := n.any fun x => decide (4096 < (joinC x).length)
theorem chk_eq : ∀ (l : List UInt8) (s : List ByteArray) (n : List (List ByteArray)) (w b : Bool), n.length = l.count 110 →
    (chk l s n w b).1 = (w || wS l s || wN n) ∧ ((chk l s n w b).1 = false → (chk l s n w b).2 = (b || bS l s || bN n))
  | [], s, n, w, b, hn => by
    have : n = [] := List.eq_nil_of_length_eq_zero (by simpa using hn)
    subst this
    simp [chk, wS, bS, wN, bN]
  | c :: l, s, n, w, b, hn => by
    by_cases h99 : c = 99
    · subst h99
      have ih := chk_eq l s.tail n (decide ((hd s).size ≠ 16) || w) b (by simpa using hn)
      simp only [chk, wS, bS, if_true]
      refine ⟨?_, fun h => ?_⟩
      · rw [ih.1]; cases decide ((hd s).size ≠ 16) <;> cases w <;> simp
      · rw [ih.2 h]
    by_cases h1 : c = 115 ∨ c = 114
    · have hn2 : n.length = l.count 110 := by
        rcases h1 with rfl | rfl <;> simpa using hn
      have ih := chk_eq l s.tail n w (decide (32768 < (hd s).size) || b) hn2
      simp only [chk, wS, bS, if_neg h99, if_pos h1]
      refine ⟨ih.1, fun h => ?_⟩
      rw [ih.2 h]; cases decide (32768 < (hd s).size) <;> cases b <;> simp
    by_cases h110 : c = 110
    · subst h110
      cases n with
      | nil => simp at hn
      | cons x n =>
        have ih := chk_eq l s n (w || !x.all okN) (b || (x.all okN && decide (4096 < (joinC x).length))) (by simpa using hn)
        have e1 : chk (110 :: l) s (x :: n) w b = chk l s n (w || !x.all okN) (b || (x.all okN && decide (4096 < (joinC x).length))) := rfl
        have e2 : wS (110 :: l) s = wS l s := rfl
        have e3 : bS (110 :: l) s = bS l s := rfl
        rw [e1, e2, e3]
        refine ⟨?_, fun h => ?_⟩
        · rw [ih.1]
          simp only [wN, List.any_cons]
          cases w <;> cases x.all okN <;> cases wS l s <;> simp
        · rw [ih.2 h]
          have h2 := ih.1.symm.trans h
          have hx : x.all okN = true := by
            cases hh : x.all okN
            · rw [hh] at h2; simp at h2
            · rfl
          simp only [bN, List.any_cons, hx, Bool.true_and]
          cases b <;> cases decide (4096 < (joinC x).length) <;> cases bS l s <;> simp
    · have hn2 : n.length = l.count 110 := by rw [hn, List.count_cons_of_ne h110]
      have ih := chk_eq l s n w b hn2
      simp only [chk, wS, bS, if_neg h99, if_neg h1, if_neg h110]
      exact ih
/-- the reference's number -/
def refC (m : Msg) : Nat :=
  if isK m.kind = false then 20 else if counted (ltr m.kind) m = false then 1
  else if wS (ltr m.kind) m.s then 1 else if wN m.n then 1 else if bS (ltr m.kind) m.s || bN m.n then 4 else 0
theorem refC_eq (m : Msg) : refC m = checkC m := by
  unfold refC checkC
  by_cases hk : isK m.kind = false
  · rw [if_pos hk, if_pos hk]
  rw [if_neg hk, if_neg hk]
  by_cases hc : counted (ltr m.kind) m = false
  · rw [if_pos hc, if_pos hc]
  rw [if_neg hc, if_neg hc]
  have hn : m.n.length = (ltr m.kind).count 110 := by
    have : counted (ltr m.kind) m = true := by simpa using hc
    unfold counted at this
    simp only [Bool.and_eq_true, decide_eq_true_eq] at this
    exact this.1.2
  have h := chk_eq (ltr m.kind) m.s m.n false false hn
  cases hw : wS (ltr m.kind) m.s
  · cases hN : wN m.n
    · have h1 : (chk (ltr m.kind) m.s m.n false false).1 = false := by rw [h.1, hw, hN]; rfl
      rw [h1, h.2 h1]
      simp
    · have h1 : (chk (ltr m.kind) m.s m.n false false).1 = true := by rw [h.1, hw, hN]; rfl
      rw [h1]; simp
  · have h1 : (chk (ltr m.kind) m.s m.n false false).1 = true := by rw [h.1, hw]; rfl
    rw [h1]; simp
/-- what may be comes back -/
theorem parse_bytes (m : Msg) (t : ByteArray) (hu : ∀ x ∈ m.u, x < 4294967296) (h0 : checkC m = 0) (ht : t.data.toList = bytesL m) : parseC t = 0 ∧ parseM t = m := by
  have hk : isK m.kind = true := by
    cases h : isK m.kind
    · unfold checkC at h0; rw [if_pos h] at h0; cases h0
    · rfl
  have hr := isK_range hk
  have hc : counted (ltr m.kind) m = true := by
    cases h : counted (ltr m.kind) m
    · unfold checkC at h0; rw [hk, if_neg (by decide), if_pos h] at h0; cases h0
    · rfl
  have hchk : chk (ltr m.kind) m.s m.n false false = (false, false) := by
    unfold checkC at h0
    rw [hk, if_neg (by decide), hc, if_neg (by decide)] at h0
    cases h1 : (chk (ltr m.kind) m.s m.n false false).1
    · cases h2 : (chk (ltr m.kind) m.s m.n false false).2
      · exact Prod.ext h1 h2
      · rw [h1, h2] at h0; cases h0
    · rw [h1] at h0; cases h0
  unfold counted at hc
  simp only [Bool.and_eq_true, decide_eq_true_eq] at hc
  unfold bytesL at ht
  rw [if_neg (by rw [h0]; decide)] at ht
  obtain ⟨g1, g2, g3⟩ := raw_back t [UInt8.ofNat m.kind.toNat] (enc (ltr m.kind) m.u m.s m.n m.b) 1 ht rfl
  have hkind : kindOf t = m.kind := by
    unfold kindOf
    rw [g1]
    have : numV [UInt8.ofNat m.kind.toNat] = m.kind.toNat := by
      show 0 * 256 + (UInt8.ofNat m.kind.toNat).toNat = _
      rw [UInt8.toNat_ofNat']; omega
    rw [this]; omega
  have hd : decOf t = (⟨#[]⟩, 0, m) := by
    unfold decOf
    rw [hkind, dec_enc (ltr m.kind) m.u m.s m.n m.b ⟨m.kind, [], [], [], []⟩ (rawS t 0 1) (ltr_good _) hu hc.1.1.1 hc.1.1.2 hc.1.2 hc.2 hchk g2]
    simp
  have hp : parseC t = 0 := by
    unfold parseC
    rw [g3, if_neg (by decide), hkind, hk, if_neg (by decide), hd]
    have he : endC ⟨#[]⟩ 0 = 0 := if_neg (fun e => e.2 rfl)
    rw [he, if_neg (by decide)]
    exact h0
  refine ⟨hp, ?_⟩
  unfold parseM
  rw [if_pos hp, hd]
end Go.Proofs.YtjfikbnfabdkoaaDoor.Mg
