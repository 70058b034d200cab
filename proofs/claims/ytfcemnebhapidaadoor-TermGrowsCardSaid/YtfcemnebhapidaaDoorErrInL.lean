/- Some of the errors of package api, out of the row's condition. -/
import Derived.Test.YtfcemnebhapidaaDoorErrIn
import Derived.Test.YtfcemnebhapidaaDoorLaidAll
set_option linter.unusedVariables false
set_option linter.unusedSimpArgs false
namespace Go.Proofs.YtfcemnebhapidaaDoor.Ei
open Go.RowKit Go.ChangeShapes
theorem errsIn_of {s : List Nat} {W : World} {r : List (String × DataW Unit)} (h : laidMet Tryd.prog r W) (m : ∀ k, (k ∈ s ∧ k < 20) → ∃ D, (errN.getD k "", D) ∈ r ∧ IsErr D) : ∃ a, ErrsIn s W a := by
  obtain ⟨ps, hv, hnd, hrows⟩ := h
  have hr : Rows W ps := hrows
  have each : ∀ k, (k ∈ s ∧ k < 20) → ∃ a : Addr, W.cell? ⟨errG.getD k 0, 0, none⟩ = some (.iface 137 (.pointer (some a))) := fun k hk => by
    obtain ⟨D, hm, hD⟩ := m k hk
    obtain ⟨a, ha, _⟩ := place_of hD (errN_g k hk.2).1 (errN_g k hk.2).2 r ps hv hr hm
    exact ⟨a, ha⟩
  refine ⟨fun k => if hk : k - 1 ∈ s ∧ k - 1 < 20 then Classical.choose (each (k - 1) hk) else ⟨0, 0, none⟩, ⟨fun k hk => ?_⟩⟩
  have e : k + 1 - 1 ∈ s ∧ k + 1 - 1 < 20 := hk
  rw [dif_pos e]
  exact Classical.choose_spec (each (k + 1 - 1) e)
end Go.Proofs.YtfcemnebhapidaaDoor.Ei
