/- A word of an array by value. -/
import Derived.Test.YtfaeigbfnjkojaaGreatDoorGenA
set_option linter.unusedVariables false
set_option linter.unusedSimpArgs false
namespace Go.Proofs.YtfaeigbfnjkojaaGreatDoor.Cl
open Go.RowKit
theorem index_words {P : Program} (ty elem : TypeId) (len : Nat) (xs : List Nat) (j : Nat) (hu : P.underlying ty = some (.array len elem)) (he : P.underlying elem = some (.int .u64))
    (hi : (P.info? elem).map (·.size) = some 1) (hl : xs.length = len) (hj : j < len) (w : World) :
    (Instr.index ty (.agg (u64s xs)) (.int .i64 (j : Int))).run P w = .ok (.int .u64 (nth xs j : Nat)) w := by
  cases hq : P.info? elem with
  | none => simp [hq] at hi
  | some i =>
  have hs : i.size = 1 := by simpa [hq] using hi
  have h2 : (u64s xs)[j]? = some (.int .u64 (nth xs j : Nat)) := by simp [u64s, nth, List.getElem?_eq_getElem (show j < xs.length by omega)]
  unfold Instr.index
  simp [go_sem, run_underlying hu, run_underlying he, hq, hs, sizeOf, typeInfo, hj, h2, part, isAgg]
end Go.Proofs.YtfaeigbfnjkojaaGreatDoor.Cl
