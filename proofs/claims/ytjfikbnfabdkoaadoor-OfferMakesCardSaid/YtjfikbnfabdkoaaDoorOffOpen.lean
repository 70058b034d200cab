/- The argument offer.Lists, opened. -/
import Derived.Test.YtjfikbnfabdkoaaDoorLawOfferMakes
import Derived.Test.YtjfikbnfabdkoaaDoorOpenArr
import Derived.Test.YtjfikbnfabdkoaaDoorMsgLaid
set_option linter.unusedVariables false
set_option linter.unusedSimpArgs false
namespace Go.Proofs.YtjfikbnfabdkoaaDoor.Of
open Go.RowKit Go.ChangeShapes Go.WideShapes Go.Proofs.YtjfikbnfabdkoaaDoor.Ow Go.Proofs.YtjfikbnfabdkoaaDoor.Og Go.Proofs.YtjfikbnfabdkoaaDoor.Mg
variable {H : Type} {enc : TypeId × Value → H} {W : World}
theorem SL_of {t : TypeId} {v : Value} (ht : Tryd.prog.underlying t = some (.slice 9)) (h : Reads enc Tryd.prog W t v) : ∃ xs : List ByteArray, SL W v (xs.map Value.string) := by
  obtain ⟨A, n, c, xs, h1, h2, h3, h4, h5⟩ := open_SLs ht Tryd.underlying9 (by kernel_rfl) h
  exact ⟨xs, A, n, c, h1, by rw [List.length_map]; exact h2, h3, h4, h5⟩
set_option maxRecDepth 100000 in
theorem open_lists {r : Reach} {b0 : Nat} {v : Value} {d : DataW H} {ps : List MemPlace} (hval : Value.okWide Tryd.prog W r b0 25 v)
    (h : DataW.Trod enc Tryd.prog W 0 (fun _ => true) true 25 v d ps) : ∃ (v0 v1 v2 v3 v4 : Value) (x0 x1 x2 x3 x4 : List ByteArray), v = .agg #[v0, v1, v2, v3, v4] ∧ SL W v0 (x0.map Value.string) ∧ SL W v1 (x1.map Value.string) ∧ SL W v2 (x2.map Value.string) ∧ SL W v3 (x3.map Value.string) ∧ SL W v4 (x4.map Value.string) := by
  obtain ⟨v0, v1, v2, v3, v4, rfl, h0, h1, h2, h3, h4⟩ := open_agg5 Tryd.underlying25 (by kernel_rfl) (by kernel_rfl) hval h
  obtain ⟨x0, s0⟩ := SL_of Tryd.underlying23 h0
  obtain ⟨x1, s1⟩ := SL_of Tryd.underlying23 h1
  obtain ⟨x2, s2⟩ := SL_of Tryd.underlying23 h2
  obtain ⟨x3, s3⟩ := SL_of Tryd.underlying23 h3
  obtain ⟨x4, s4⟩ := SL_of Tryd.underlying23 h4
  exact ⟨v0, v1, v2, v3, v4, x0, x1, x2, x3, x4, rfl, s0, s1, s2, s3, s4⟩
theorem errsO_of {W : World} {r : List (String × DataW Unit)} (h : laidMet Tryd.prog r W) (m : ∀ k, (k = 0 ∨ k = 3 ∨ k = 12 ∨ k = 19) → ∃ D, (Ei.errN.getD k "", D) ∈ r ∧ Ei.IsErr D) : ∃ a, ErrsO W a := by
  obtain ⟨ps, hv, hnd, hrows⟩ := h
  have hr : Ei.Rows W ps := hrows
  have each : ∀ k, (k = 0 ∨ k = 3 ∨ k = 12 ∨ k = 19) → ∃ a : Addr, W.cell? ⟨Ei.errG.getD k 0, 0, none⟩ = some (.iface 189 (.pointer (some a))) := fun k hk => by
    obtain ⟨D, hm, hD⟩ := m k hk
    obtain ⟨a, ha, _⟩ := Ei.place_of hD (Ei.errN_g k (by omega)).1 (Ei.errN_g k (by omega)).2 r ps hv hr hm
    exact ⟨a, ha⟩
  refine ⟨fun k => if hk : k - 1 = 0 ∨ k - 1 = 3 ∨ k - 1 = 12 ∨ k - 1 = 19 then Classical.choose (each (k - 1) hk) else ⟨0, 0, none⟩, ⟨fun k hk => ?_⟩⟩
  have e : k + 1 - 1 = 0 ∨ k + 1 - 1 = 3 ∨ k + 1 - 1 = 12 ∨ k + 1 - 1 = 19 := by omega
  rw [dif_pos e]
  exact Classical.choose_spec (each (k + 1 - 1) e)
end Go.Proofs.YtjfikbnfabdkoaaDoor.Of
