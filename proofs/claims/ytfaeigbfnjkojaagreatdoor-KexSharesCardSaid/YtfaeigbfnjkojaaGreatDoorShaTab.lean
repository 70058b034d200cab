/- The two tables in memory. -/
import Derived.Test.YtfaeigbfnjkojaaGreatDoorShaMath2
import Derived.Test.YtfaeigbfnjkojaaGreatDoorGenA
set_option linter.unusedVariables false
set_option linter.unusedSimpArgs false
namespace Go.Proofs.YtfaeigbfnjkojaaGreatDoor.Sha
open Go.RowKit Go.Proofs.YtfaeigbfnjkojaaGreatDoor.Cl
/-- the world holds both tables -/
structure Tables (w : World) : Prop where
  words : ∀ t, t < 80 → w.cell? ⟨22, t, none⟩ = some (.int .u64 (nth wordsL t : Nat))
  first : ∀ t, t < 8 → w.cell? ⟨21, t, none⟩ = some (.int .u64 (nth firstL t : Nat))
  size : 23 ≤ w.heap.size
theorem Tables.below {w w' : World} {B : Nat} (h : Tables w) (hb : Below B w w') (hB : 23 ≤ B) : Tables w' :=
  ⟨fun t ht => (hb.cell (p := ⟨22, t, none⟩) (Nat.lt_of_lt_of_le (by dsimp only; decide) hB)).trans (h.words t ht),
   fun t ht => (hb.cell (p := ⟨21, t, none⟩) (Nat.lt_of_lt_of_le (by dsimp only; decide) hB)).trans (h.first t ht),
   Nat.le_trans h.size hb.size⟩
theorem nth_words_lt (t : Nat) : nth wordsL t < 18446744073709551616 :=
  getD_lt (l := wordsL) (by decide) (by decide) t
end Go.Proofs.YtfaeigbfnjkojaaGreatDoor.Sha
