/- Slices of words: read, owned, appended to. -/
import Derived.Test.YtoehmjkgjleaaaaDoorCells
import Derived.Test.YtoehmjkgjleaaaaDoorRegion
import Derived.Lib.Hide
set_option linter.unusedVariables false
set_option linter.unusedSimpArgs false
namespace Go.Proofs.YtoehmjkgjleaaaaDoor.Ws
open Go.RowKit Go.Proofs.YtoehmjkgjleaaaaDoor.Cl
def vals (xs : List Nat) : List Value := xs.map fun (x : Nat) => Value.int .u64 (x : Int)
theorem vals_length (xs : List Nat) : (vals xs).length = xs.length := by simp [vals]
/-- a slice that reads as the words xs -/
def Words (w : World) (v : Value) (xs : List Nat) : Prop := ∃ b c, v = .slice (some ⟨b, 0, none⟩) xs.length c ∧ xs.length ≤ c ∧ b < w.heap.size ∧ ∀ j, j < xs.length → w.cell? ⟨b, j, none⟩ = some (.int .u64 (nth xs j : Nat))
theorem Words.below {w w' : World} {v : Value} {xs : List Nat} (h : Words w v xs) (hb : Below w.heap.size w w') : Words w' v xs := by
  obtain ⟨b, c, hv, hc, hl, hx⟩ := h
  exact ⟨b, c, hv, hc, Nat.lt_of_lt_of_le hl hb.size, fun j hj => (hb.cell (p := ⟨b, j, none⟩) hl).trans (hx j hj)⟩
/-- a slice that the call owns, from block B on -/
def Own (w : World) (B T : Nat) (g cap : Nat) (xs : List Nat) : Prop := w.ownsRow B T 1 (.slice (some ⟨g, 0, none⟩) xs.length cap) xs.length (vals xs)
theorem Own.cell {w : World} {B T g cap : Nat} {xs : List Nat} (h : Own w B T g cap xs) (j : Nat) (hj : j < xs.length) : w.cell? ⟨g, j, none⟩ = some (.int .u64 (nth xs j : Nat)) := by
  rw [World.ownsRow.cellAt h j (by omega)]
  simp [vals, nth, hj]
theorem Own.lt {w : World} {B T g cap : Nat} {xs : List Nat} (h : Own w B T g cap xs) : B ≤ g ∧ g < w.heap.size := World.ownsRow.lt h g rfl
theorem Own.below {w w' : World} {B T g cap : Nat} {xs : List Nat} (h : Own w B T g cap xs) (hb : Below w.heap.size w w') : Own w' B T g cap xs :=
  World.ownsRow.kept h (row := none) ⟨hb.os, hb.tape, hb.output, hb.size, fun k hk _ => hb.block k hk⟩ (.inr (by simp [Value.ownBlock]))
theorem Own.cap {w : World} {B T g cap : Nat} {xs : List Nat} (h : Own w B T g cap xs) : xs.length ≤ cap := by
  rcases h.2 with ⟨h, _⟩ | ⟨g', cap', cur, hv, _, _, hc, _⟩
  · cases h
  · cases hv; exact hc
theorem Own.words {w : World} {B T g cap : Nat} {xs : List Nat} (h : Own w B T g cap xs) : Words w (.slice (some ⟨g, 0, none⟩) xs.length cap) xs :=
  ⟨g, cap, rfl, h.cap, h.lt.2, fun j hj => h.cell j hj⟩
theorem Own.new (w : World) (T B : Nat) (xs : List Nat) (hB : B ≤ w.heap.size) (hm : xs.length ≤ maxLen) : Own (w.alloc (.cells (u64s xs) T)) B T w.heap.size xs.length xs := by
  have := World.ownsRow_lit (base := B) (e := T) (size := 1) w (u64s xs) xs.length hB hm (by simp [u64s])
  exact this
theorem append_vals {w : World} {B T : Nat} {v : Value} {xs : List Nat} {x : Nat} (h : w.ownsRow B T 1 v (xs.length + 1) (vals xs ++ [.int .u64 (x : Int)])) : ∃ g cap, v = .slice (some ⟨g, 0, none⟩) (xs ++ [x]).length cap ∧ Own w B T g cap (xs ++ [x]) := by
  have e : vals xs ++ [.int .u64 (x : Int)] = vals (xs ++ [x]) := by simp [vals]
  rw [e] at h
  have hl : xs.length + 1 = (xs ++ [x]).length := by simp
  rw [hl] at h
  rcases h.2 with ⟨_, h0⟩ | ⟨g, cap, cur, hv, _⟩
  · simp at h0
  · subst hv; exact ⟨g, cap, rfl, h⟩
theorem Own.row {w : World} {B T g cap n : Nat} {xs : List Nat} (h : Own w B T g cap xs) (hn : xs.length = n) : w.ownsRow B T 1 (.slice (some ⟨g, 0, none⟩) n cap) n (vals xs) := hn ▸ h
theorem append_at {w : World} {B T n : Nat} {v : Value} {xs : List Nat} {x : Nat} (hn : xs.length = n) (h : w.ownsRow B T 1 v (n + 1) (vals xs ++ [.int .u64 (x : Int)])) : ∃ g cap, v = .slice (some ⟨g, 0, none⟩) (n + 1) cap ∧ Own w B T g cap (xs ++ [x]) := by
  subst hn
  obtain ⟨g, cap, hv, ho⟩ := append_vals h
  exact ⟨g, cap, by rw [hv]; simp, ho⟩
theorem one_src (w : World) (T : TypeId) (x : Int) : ∀ (j : Nat) u, [Value.int .u64 x][j]? = some u → (w.alloc (.cells #[.int .u64 x] T)).cell? ((⟨w.heap.size, 0, none⟩ : Addr).add j) = some u := by
  intro j u hj
  match j, hj with
  | 0, hj => simp at hj; subst hj; exact (Rg.Blk.new w _ _).cell 0 rfl
theorem own_of_row {w : World} {B T n : Nat} {v : Value} {xs : List Nat} (hn : xs.length = n) (hpos : 0 < n) (h : w.ownsRow B T 1 v n (vals xs)) : ∃ g cap, v = .slice (some ⟨g, 0, none⟩) n cap ∧ Own w B T g cap xs := by
  subst hn
  rcases h.2 with ⟨_, h0⟩ | ⟨g, cap, cur, hv, _⟩
  · omega
  · subst hv; exact ⟨g, cap, rfl, h⟩
/-- eight words at block g -/
def At8 (w : World) (g : Nat) (xs : List Nat) : Prop := g < w.heap.size ∧ ∀ j, j < 8 → w.cell? ⟨g, j, none⟩ = some (.int .u64 (nth xs j : Nat))
theorem At8.below {w w' : World} {g : Nat} {xs : List Nat} (h : At8 w g xs) (hb : Below w.heap.size w w') : At8 w' g xs :=
  ⟨Nat.lt_of_lt_of_le h.1 hb.size, fun j hj => (hb.cell (p := ⟨g, j, none⟩) h.1).trans (h.2 j hj)⟩
theorem Own.at8 {w : World} {B T g cap : Nat} {xs : List Nat} (h : Own w B T g cap xs) (hl : xs.length = 8) : At8 w g xs := ⟨h.lt.2, fun j hj => h.cell j (by omega)⟩
theorem At8.grown {w w' : World} {g : Nat} {xs : List Nat} {row : Option Nat} (h : At8 w g xs) (hg : w.grownBy w' row) (hn : some g ≠ row) : At8 w' g xs :=
  ⟨Nat.lt_of_lt_of_le h.1 hg.size, fun j hj => (World.cell?_of_block (w := w) (a := ⟨g, j, none⟩) (hg.block g h.1 hn)).trans (h.2 j hj)⟩
end Go.Proofs.YtoehmjkgjleaaaaDoor.Ws
