/- The two tables in memory. -/
import Derived.Test.YtoehmjkgjleaaaaDoorShaMath2
import Derived.Test.YtoehmjkgjleaaaaDoorRegion
set_option linter.unusedVariables false
set_option linter.unusedSimpArgs false
namespace Go.Proofs.YtoehmjkgjleaaaaDoor.Sha
open Go.RowKit Go.Proofs.YtoehmjkgjleaaaaDoor.Cl
/-- the world holds both tables -/
structure Tables (w : World) : Prop where
  words : ∀ t, t < 80 → w.cell? ⟨1, t, none⟩ = some (.int .u64 (nth wordsL t : Nat))
  first : ∀ t, t < 8 → w.cell? ⟨0, t, none⟩ = some (.int .u64 (nth firstL t : Nat))
  size : 2 ≤ w.heap.size
theorem Tables.below {w w' : World} {B : Nat} (h : Tables w) (hb : Below B w w') (hB : 2 ≤ B) : Tables w' :=
  ⟨fun t ht => (hb.cell (p := ⟨1, t, none⟩) (Nat.lt_of_lt_of_le (by dsimp only; decide) hB)).trans (h.words t ht),
   fun t ht => (hb.cell (p := ⟨0, t, none⟩) (Nat.lt_of_lt_of_le (by dsimp only; decide) hB)).trans (h.first t ht),
   Nat.le_trans h.size hb.size⟩
theorem nth_words_lt (t : Nat) : nth wordsL t < 18446744073709551616 :=
  getD_lt (l := wordsL) (by decide) (by decide) t
end Go.Proofs.YtoehmjkgjleaaaaDoor.Sha
