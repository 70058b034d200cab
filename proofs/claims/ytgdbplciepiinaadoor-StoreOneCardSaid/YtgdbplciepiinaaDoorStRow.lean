/- A row of arrays of 32 bytes, one of them written; the tail cleared. -/
import Derived.Test.YtgdbplciepiinaaDoorStSl
import Derived.Deep.MidRow
set_option linter.unusedVariables false
set_option linter.unusedSimpArgs false
namespace Go.Proofs.YtgdbplciepiinaaDoor.St
open Go.RowKit Go.Proofs.YtgdbplciepiinaaDoor.Ow
theorem rangeAt_append {w : World} {b o : Nat} {x y : List Value} : w.rangeAt b o (x ++ y) ↔ w.rangeAt b o x ∧ w.rangeAt b (o + x.length) y := by
  constructor
  · intro h
    refine ⟨fun j v hv => h j v ?_, fun j v hv => ?_⟩
    · rw [List.getElem?_append_left (List.getElem?_eq_some_iff.1 hv).1]; exact hv
    · have := h (x.length + j) v (by rw [List.getElem?_append_right (by omega), show x.length + j - x.length = j by omega]; exact hv)
      rw [← Nat.add_assoc] at this; exact this
  · rintro ⟨h1, h2⟩ j v hv
    by_cases hj : j < x.length
    · rw [List.getElem?_append_left hj] at hv; exact h1 j v hv
    · rw [List.getElem?_append_right (by omega)] at hv
      have := h2 _ v hv
      rw [show o + x.length + (j - x.length) = o + j by omega] at this; exact this
theorem grown_setCells (b : Nat) : ∀ (vs : List Value) (o : Nat) (w : World), w.grownBy (w.setCells b o vs) (some b)
  | [], _, w => World.grownBy.refl w _
  | v :: r, o, w => by
    rw [World.setCells]
    have g1 := Cl.grown_setCell w b o v
    have g2 := grown_setCells b r (o + 1) (w.setCell ⟨b, o, none⟩ v)
    exact ⟨g2.os.trans g1.os, g2.tape.trans g1.tape, g2.output.trans g1.output, Nat.le_trans g1.size g2.size, fun k hk hne => (g2.block k (Nat.lt_of_lt_of_le hk g1.size) hne).trans (g1.block k hk hne)⟩
/-- block g holds the arrays M, and may be written -/
def KR (w : World) (g : Nat) (M : List (List UInt8)) : Prop := w.rangeAt g 0 (cells M) ∧ w.there g 0 (M.length * 32)
theorem KR.set {w : World} {g : Nat} {M : List (List UInt8)} (h : KR w g M) (hM : ∀ y ∈ M, y.length = 32) {p : Nat} (hp : p < M.length) {x : List UInt8} (hx : x.length = 32) : KR (w.setCells g (p * 32) (bv x)) g (M.set p x) := by
  have e1 : M = M.take p ++ (M[p] :: M.drop (p + 1)) := by rw [← List.drop_eq_getElem_cons hp, List.take_append_drop]
  have e2 : M.set p x = M.take p ++ (x :: M.drop (p + 1)) := by rw [List.set_eq_take_append_cons_drop, if_pos hp]
  have lt : (cells (M.take p)).length = p * 32 := by rw [cells_length _ (fun y hy => hM y (List.mem_of_mem_take hy)), List.length_take, Nat.min_eq_left (by omega)]
  have lb : (bv x).length = 32 := by rw [bv_length, hx]
  have h1 := h.1
  rw [e1, cells_append, show M[p] :: M.drop (p + 1) = [M[p]] ++ M.drop (p + 1) from rfl, cells_append, cells_one] at h1
  obtain ⟨ha, hb⟩ := rangeAt_append.1 h1
  obtain ⟨_, hc⟩ := rangeAt_append.1 hb
  rw [bv_length, hM _ (List.getElem_mem hp), lt] at hc
  have ht : w.there g (p * 32) (bv x).length := fun j hj => by
    have := h.2 (p * 32 + j) (by rw [lb] at hj; omega)
    rw [Nat.zero_add] at this; exact this
  refine ⟨?_, by rw [List.length_set]; exact World.there_setCells h.2 _ _ _⟩
  rw [e2, cells_append, show x :: M.drop (p + 1) = [x] ++ M.drop (p + 1) from rfl, cells_append, cells_one]
  refine rangeAt_append.2 ⟨World.rangeAt_setCells_apart ha _ _ _ (.inr (.inl (by omega))), rangeAt_append.2 ⟨?_, ?_⟩⟩
  · rw [lt, Nat.zero_add]; exact World.rangeAt_setCells_same w g (p * 32) (bv x) ht
  · rw [lt, lb]
    exact World.rangeAt_setCells_apart hc _ _ _ (.inr (.inr (by omega)))
theorem KR.at_ {w : World} {g : Nat} {M : List (List UInt8)} (h : KR w g M) (hM : ∀ y ∈ M, y.length = 32) {j : Nat} {x : List UInt8} (hx : M[j]? = some x) : w.rangeAt g (j * 32) (bv x) := fun i v hv => by
  have := h.1 (j * 32 + i) v (cells_at hM hx i v hv)
  rw [Nat.zero_add] at this; exact this
theorem KR.own {w : World} {B g c n : Nat} {l : List (List UInt8)} (h : w.ownsRow B 34 32 (.slice (some ⟨g, 0, none⟩) n c) n (cells l)) (hn : l.length = n) : KR w g l := by
  rcases h.2 with ⟨hv, _⟩ | ⟨g', cap, cur, hv, _, hg, hc, _, hs, ht⟩
  · cases hv
  · injection hv with hv
    injection hv with hv
    injection hv with hv
    subst hv
    have hlen := h.1
    refine ⟨fun j v hv => ?_, fun j hj => ?_⟩
    · have := World.ownsRow.cells h (g := g) rfl j v hv
      rw [Addr.add_mid] at this; exact this
    · have hj2 : j < (cells l).length := by rw [hlen, ← hn]; exact hj
      have := World.ownsRow.cells h (g := g) rfl j _ (List.getElem?_eq_getElem hj2)
      rw [Addr.add_mid] at this
      exact ⟨by rw [this]; rfl, frozen_of_row w g _ _ _ hg⟩
theorem KR.below {w w' : World} {g : Nat} {M : List (List UInt8)} (h : KR w g M) (hb : Below w.heap.size w w') : KR w' g M := by
  refine ⟨fun j v hv => (hb.cell (World.block_lt_of_cell? w _ (h.1 j v hv))).trans (h.1 j v hv), fun j hj => ?_⟩
  obtain ⟨h1, h2⟩ := h.2 j hj
  obtain ⟨u, hu⟩ := Option.isSome_iff_exists.1 h1
  have hl := World.block_lt_of_cell? w _ hu
  exact ⟨by rw [hb.cell hl]; exact h1, (hb.frozen hl).trans h2⟩
end Go.Proofs.YtgdbplciepiinaaDoor.St
