/- Some of the errors of package api. -/
import Derived.Test.YtfcemnebhapidaaDoorErrA
set_option linter.unusedVariables false
set_option linter.unusedSimpArgs false
namespace Go.Proofs.YtfcemnebhapidaaDoor.Ei
open Go.RowKit
structure ErrsIn (s : List Nat) (w : World) (a : Nat → Addr) : Prop where
  cell : ∀ k, (k ∈ s ∧ k < 20) → w.cell? ⟨errG.getD k 0, 0, none⟩ = some (.iface 137 (.pointer (some (a (k + 1)))))
theorem ErrsIn.below {s : List Nat} {w w' : World} {a : Nat → Addr} (h : ErrsIn s w a) (hb : Below w.heap.size w w') : ErrsIn s w' a :=
  ⟨fun k hk => (hb.cell (World.block_lt_of_cell? w _ (h.cell k hk))).trans (h.cell k hk)⟩
theorem ErrsIn.of {s : List Nat} {w : World} {a : Nat → Addr} (h : ErrsAll w a) : ErrsIn s w a := ⟨fun k hk => h.cell k hk.2⟩
end Go.Proofs.YtfcemnebhapidaaDoor.Ei
