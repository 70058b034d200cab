/- Messages by value: what their slices read as. -/
import Derived.Test.YtjfikbnfabdkoaaDoorMsgFld
import Derived.Test.YtjfikbnfabdkoaaDoorMsgSpec2
set_option linter.unusedVariables false
set_option linter.unusedSimpArgs false
namespace Go.Proofs.YtjfikbnfabdkoaaDoor.Mg
open Go.RowKit Go.Proofs.YtjfikbnfabdkoaaDoor.Wi Go.Proofs.YtjfikbnfabdkoaaDoor.Ow Go.Proofs.YtjfikbnfabdkoaaDoor.Be
/-- v is a slice that reads as xs -/
def SL (w : World) (v : Value) (xs : List Value) : Prop := ∃ (A : Option Addr) (n c : Nat), v = .slice A n c ∧ xs.length = n ∧ Rd w A xs ∧ n ≤ c ∧ c ≤ maxLen
theorem SL.below {w w' : World} {v : Value} {xs : List Value} (h : SL w v xs) (hb : Below w.heap.size w w') : SL w' v xs := by
  obtain ⟨A, n, c, h1, h2, h3, h4⟩ := h
  exact ⟨A, n, c, h1, h2, h3.below hb, h4⟩
theorem SL.nil (w : World) : SL w (.slice none 0 0) [] := ⟨none, 0, 0, rfl, rfl, Rd.nil _ _, Nat.le_refl _, Nat.zero_le _⟩
theorem SL.owns {w : World} {B : Nat} {E : TypeId} {v : Value} {xs : List Value} (h : Owns w B E v xs) {A : Option Addr} {n c : Nat} (hv : v = .slice A n c) (hc : c ≤ maxLen) : SL w v xs := by
  obtain ⟨A', c', h1, h2, h3⟩ := h.form
  rw [hv] at h1
  injection h1 with e1 e2 e3
  subst e1 e2 e3
  exact ⟨A, _, _, hv, rfl, h2, h3, hc⟩
/-- what is left behind the first -/
theorem Rd.tail {w : World} {b o : Nat} {x : Value} {xs : List Value} (h : Rd w (some ⟨b, o, none⟩) (x :: xs)) {A' : Option Addr} {n : Nat} (hn : xs.length = n) (hA : n ≠ 0 → A' = some ⟨b, o + 1, none⟩) : Rd w A' xs := fun j y hy => by
  have hj : j < xs.length := (List.getElem?_eq_some_iff.1 hy).1
  rw [hA (by omega)]
  obtain ⟨b', o', e, hl, hc⟩ := h (j + 1) y (by simpa using hy)
  injection e with e; injection e with e1 e2 e3
  subst e1 e2
  exact ⟨b, o + 1, rfl, hl, by rw [show o + 1 + j = o + (j + 1) by omega]; exact hc⟩
/-- the first, and its place -/
theorem SL.first {w : World} {v : Value} {x : Value} {xs : List Value} (h : SL w v (x :: xs)) : ∃ b o c, v = .slice (some ⟨b, o, none⟩) (xs.length + 1) c ∧ w.cell? ⟨b, o, none⟩ = some x ∧ b < w.heap.size ∧ xs.length + 1 ≤ c ∧ c ≤ maxLen ∧
    ∀ A', (xs.length ≠ 0 → A' = some ⟨b, o + 1, none⟩) → SL w (.slice A' xs.length (c - 1)) xs := by
  obtain ⟨A, n, c, rfl, rfl, h3, h4, h5⟩ := h
  obtain ⟨b, o, rfl, hl, hc⟩ := h3 0 x rfl
  simp only [List.length_cons] at *
  exact ⟨b, o, c, rfl, hc, hl, h4, h5, fun A' hA => ⟨A', _, _, rfl, rfl, Rd.tail h3 rfl hA, by omega, by omega⟩⟩
/-- a slice of lists of texts -/
def SLN (w : World) (v : Value) (ns : List (List ByteArray)) : Prop := ∃ vs, SL w v vs ∧ vs.length = ns.length ∧ ∀ (j : Nat) (l : List ByteArray), ns[j]? = some l → ∃ u, vs[j]? = some u ∧ SL w u (l.map Value.string)
theorem SLN.below {w w' : World} {v : Value} {ns : List (List ByteArray)} (h : SLN w v ns) (hb : Below w.heap.size w w') : SLN w' v ns := by
  obtain ⟨vs, h1, h2, h3⟩ := h
  exact ⟨vs, h1.below hb, h2, fun j l hl => by obtain ⟨u, a, b⟩ := h3 j l hl; exact ⟨u, a, SL.below b hb⟩⟩
theorem SLN.nil (w : World) : SLN w (.slice none 0 0) [] := ⟨[], SL.nil w, rfl, fun j l h => by simp at h⟩
theorem SLN.first {w : World} {v : Value} {x : List ByteArray} {xs : List (List ByteArray)} (h : SLN w v (x :: xs)) : ∃ b o c u, v = .slice (some ⟨b, o, none⟩) (xs.length + 1) c ∧ w.cell? ⟨b, o, none⟩ = some u ∧ SL w u (x.map Value.string) ∧ b < w.heap.size ∧ xs.length + 1 ≤ c ∧ c ≤ maxLen ∧
    ∀ A', (xs.length ≠ 0 → A' = some ⟨b, o + 1, none⟩) → SLN w (.slice A' xs.length (c - 1)) xs := by
  obtain ⟨vs, h1, h2, h3⟩ := h
  cases vs with
  | nil => simp at h2
  | cons u vs =>
    obtain ⟨u', e, hu⟩ := h3 0 x rfl
    simp only [List.getElem?_cons_zero, Option.some.injEq] at e
    subst e
    simp only [List.length_cons, Nat.add_right_cancel_iff] at h2
    obtain ⟨b, o, c, hv, hc, hl, h4, h5, h6⟩ := h1.first
    rw [h2] at hv h4 h6
    exact ⟨b, o, c, u, hv, hc, hu, hl, h4, h5, fun A' hA => ⟨vs, h6 A' hA, h2, fun j l hl => by simpa using h3 (j + 1) l (by simpa using hl)⟩⟩
/-- a message's four slices -/
structure IsMsg (w : World) (m : Msg) (vu vs vn vb : Value) : Prop where
  u : SL w vu (m.u.map fun (x : Nat) => .int .u32 (x : Int))
  s : SL w vs (m.s.map Value.string)
  n : SLN w vn m.n
  b : SL w vb (m.b.map Value.bool)
theorem IsMsg.below {w w' : World} {m : Msg} {vu vs vn vb : Value} (h : IsMsg w m vu vs vn vb) (hb : Below w.heap.size w w') : IsMsg w' m vu vs vn vb := ⟨h.u.below hb, h.s.below hb, h.n.below hb, h.b.below hb⟩
/-- numbers and lists of a size that the walks bear -/
structure Fit (m : Msg) : Prop where
  u : ∀ x ∈ m.u, x < 4294967296
  s : ∀ x ∈ m.s, x.size ≤ 1000000
  n : ∀ l ∈ m.n, l.length ≤ 100000 ∧ (joinC l).length ≤ 1000000 ∧ ∀ x ∈ l, x.size ≤ 1000000
end Go.Proofs.YtjfikbnfabdkoaaDoor.Mg
