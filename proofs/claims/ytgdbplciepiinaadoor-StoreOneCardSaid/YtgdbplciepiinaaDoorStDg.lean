/- slices.DeleteFunc over keys. -/
import Derived.Test.YtgdbplciepiinaaDoorStDf
set_option linter.unusedVariables false
set_option linter.unusedSimpArgs false
namespace Go.Proofs.YtgdbplciepiinaaDoor.St
open Go.RowKit Go.Proofs.YtgdbplciepiinaaDoor.Ow Go.Proofs.YtgdbplciepiinaaDoor.Cv
abbrev kept (l : List (List UInt8)) (k : List UInt8) : List (List UInt8) := l.filter fun y => decide (y ≠ k)
theorem idx_lt {l : List (List UInt8)} {k : List UInt8} (h : k ∈ l) : idx l k < l.length := by
  unfold idx
  exact List.findIdx_lt_length_of_exists ⟨k, h, beq_self_eq_true k⟩
theorem idx_kept {l : List (List UInt8)} {k : List UInt8} (h : k ∈ l) : kept (l.take (idx l k + 1)) k = l.take (idx l k) := by
  have hi := idx_lt h
  have hx : l[idx l k] = k := by
    have := List.findIdx_getElem (w := hi)
    have h2 := eq_of_beq this
    exact h2
  rw [List.take_succ_eq_append_getElem hi]
  unfold kept
  rw [List.filter_append, hx]
  have e1 : (l.take (idx l k)).filter (fun y => decide (y ≠ k)) = l.take (idx l k) := by
    rw [List.filter_eq_self]
    intro y hy
    obtain ⟨j, hj⟩ := List.mem_iff_getElem?.1 hy
    have hj2 : j < idx l k := by have := (List.getElem?_eq_some_iff.1 hj).1; rw [List.length_take] at this; omega
    rw [List.getElem?_take_of_lt hj2] at hj
    have := List.not_of_lt_findIdx (p := (· == k)) hj2
    rw [(List.getElem?_eq_some_iff.1 hj).2] at this
    simpa using this
  rw [e1]
  simp
/-- the loop's state, plainly -/
structure DSt (l : List (List UInt8)) (k : List UInt8) (p q : Nat) (M : List (List UInt8)) : Prop where
  pq : p < q
  qn : q ≤ l.length
  len : M.length = l.length
  all : ∀ y ∈ M, y.length = 32
  front : M.take p = kept (l.take q) k
  back : M.drop q = l.drop q
theorem DSt.at_ {l : List (List UInt8)} {k : List UInt8} {p q : Nat} {M : List (List UInt8)} (h : DSt l k p q M) {x : List UInt8} (hx : l[q]? = some x) : M[q]? = some x := by
  have := congrArg (·[0]?) h.back
  simpa [hx] using this
theorem DSt.skip {l : List (List UInt8)} {k : List UInt8} {p q : Nat} {M : List (List UInt8)} (h : DSt l k p q M) {x : List UInt8} (hx : l[q]? = some x) (he : x = k) : DSt l k p (q + 1) M := by
  have hq := (List.getElem?_eq_some_iff.1 hx).1
  refine ⟨by have := h.pq; omega, hq, h.len, h.all, ?_, ?_⟩
  · rw [h.front, List.take_succ_eq_append_getElem hq, (List.getElem?_eq_some_iff.1 hx).2]
    unfold kept
    rw [List.filter_append, he]
    simp
  · have := congrArg (·.drop 1) h.back
    simpa using this
theorem DSt.move {l : List (List UInt8)} {k : List UInt8} {p q : Nat} {M : List (List UInt8)} (h : DSt l k p q M) {x : List UInt8} (hx : l[q]? = some x) (hl : x.length = 32) (he : x ≠ k) : DSt l k (p + 1) (q + 1) (M.set p x) := by
  have hq := (List.getElem?_eq_some_iff.1 hx).1
  have hp : p < M.length := by have := h.pq; have := h.len; omega
  refine ⟨by have := h.pq; omega, hq, by rw [List.length_set]; exact h.len, fun y hy => ?_, ?_, ?_⟩
  · rcases List.mem_or_eq_of_mem_set hy with h1 | h1
    · exact h.all y h1
    · rw [h1]; exact hl
  · rw [List.take_succ_eq_append_getElem (by rw [List.length_set]; exact hp), List.getElem_set_self, List.take_set_of_le (Nat.le_refl _), h.front, List.take_succ_eq_append_getElem hq, (List.getElem?_eq_some_iff.1 hx).2]
    unfold kept
    rw [List.filter_append]
    simp [he]
  · rw [List.drop_set_of_lt (by have := h.pq; omega)]
    have := congrArg (·.drop 1) h.back
    simpa using this
end Go.Proofs.YtgdbplciepiinaaDoor.St
