/- The table of kinds and the errors, out of the row's condition. -/
import Derived.Test.YtjfikbnfabdkoaaGreatDoorLaidAll
import Derived.Test.YtjfikbnfabdkoaaGreatDoorMsgB
import Derived.Deep.Strs
import Derived.OpenShut
set_option linter.unusedVariables false
set_option linter.unusedSimpArgs false
namespace Go.Proofs.YtjfikbnfabdkoaaGreatDoor.Mg
open Go.RowKit Go.Proofs.YtjfikbnfabdkoaaGreatDoor.Wi Go.Proofs.YtjfikbnfabdkoaaGreatDoor.Ow Go.Proofs.YtjfikbnfabdkoaaGreatDoor.Be
def rowD (r : Nat × List UInt8 × List UInt8) : DataW Unit := .agg [.lit (.int .i64 (r.1 : Int)), .lit (.string r.2.1), .lit (.string r.2.2)]
def rowsD : DataW Unit := .agg (rowsL.map rowD)
theorem cells_row : Tryz.prog.cellsOf 92 = 3 := by kernel_rfl
theorem cells_intM : Tryz.prog.cellsOf 3 = 1 := by kernel_rfl
theorem cells_strM : Tryz.prog.cellsOf 9 = 1 := by kernel_rfl
theorem gRows : Tryz.prog.globalNamed "speakeasy/message.rows" = some 21 := by kernel_rfl
theorem tRows : (Tryz.prog.globals[21]?).map (·.type) = some 126 := by kernel_rfl
theorem rows_len : rowsL.length = 29 := rfl
theorem lit_str {s : ByteArray} {l : List UInt8} {p : List MemPlace} {y : DataW Unit × List MemPlace} (h : y = (.lit (.string s.data.toList), p)) (h2 : y.1 = .lit (.string l)) : s = mkS l := by
  subst h
  injection h2 with h2
  injection h2 with h2
  rw [← h2, mkS_of]
theorem tab_head {W : World} {D : DataW Unit} {r : List (String × DataW Unit)} {ps : List MemPlace} (h : DataW.LaidVars Tryz.prog W (("speakeasy/message.rows", D) :: r) ps) (hD : D = rowsD) : TabR W := by
  obtain ⟨g0, t0, cs0, f0, p0, q0, hg0, ht0, hv0, hd0, hq, e0⟩ := h
  obtain rfl := Option.some.inj (gRows.symm.trans hg0)
  obtain rfl := Option.some.inj (tRows.symm.trans ht0)
  obtain ⟨l0⟩ := cs0
  have hc : ∀ j, W.cell? ⟨21, j, none⟩ = l0[j]? := fun j => by simpa using World.var?_cell gRows hv0 j
  obtain ⟨xs, m, hf, hx, hl, hn, he⟩ := DataW.trod_array Tryz.underlying126 hd0
  have hxs : xs.map (·.1) = rowsL.map rowD := by
    have h1 := congrArg Prod.fst hx
    rw [hD] at h1
    unfold rowsD at h1
    injection h1 with h1
    exact h1.symm
  have each : ∀ i r, rowsL[i]? = some r → l0[i * 3]? = some (.int .i64 (r.1 : Int)) ∧ l0[i * 3 + 1]? = some (.string (mkS r.2.1)) ∧ l0[i * 3 + 2]? = some (.string (mkS r.2.2)) := by
    intro i r hr
    have hi : i < 29 := (List.getElem?_eq_some_iff.1 hr).1
    have h1 := he i hi
    obtain ⟨x, hxi⟩ : ∃ x, xs[i]? = some x := ⟨_, List.getElem?_eq_getElem (by omega)⟩
    rw [hxi] at h1
    have hfst : x.1 = rowD r := by
      have := congrArg (·[i]?) hxs
      simpa [hxi, hr] using this
    rw [cells_row] at h1
    obtain ⟨y0, y1, y2, n, hx3, hl3, t0, t1, t2⟩ := Go.Deep.trod_struct3 Tryz.underlying92 h1
    simp only [cells_intM, cells_strM] at t0 t1 t2
    obtain ⟨z0, a0, b0, _⟩ := DataW.trod_int Tryz.underlying3 t0
    obtain ⟨s1, a1, b1, _⟩ := DataW.trod_string Tryz.underlying9 t1
    obtain ⟨s2, a2, b2, _⟩ := DataW.trod_string Tryz.underlying9 t2
    rw [hx3] at hfst
    unfold rowD at hfst
    simp only [DataW.agg.injEq, List.cons.injEq, and_true] at hfst
    obtain ⟨g0, g1, g2⟩ := hfst
    have k0 : z0 = (r.1 : Int) := by
      rw [b0] at g0
      injection g0 with g0
      injection g0 with _ g0
    have k1 := lit_str b1 g1
    have k2 := lit_str b2 g2
    subst k0 k1 k2
    have c0 := congrArg (·[0]?) a0
    have c1 := congrArg (·[0]?) a1
    have c2 := congrArg (·[0]?) a2
    refine ⟨?_, ?_, ?_⟩
    · simpa [List.getElem?_take, List.getElem?_drop] using c0
    · simpa [List.getElem?_take, List.getElem?_drop] using c1
    · simpa [List.getElem?_take, List.getElem?_drop] using c2
  intro j v hv
  rw [hc]
  have hj : j < 87 := by rw [← rowsV_size]; exact (Array.getElem?_eq_some_iff.1 hv).1
  obtain ⟨r, hr, hex⟩ := rowsV_at (j / 3) (by omega)
  obtain ⟨d0, d1, d2⟩ := each _ r hr
  have hv2 : (rowsV.extract (j / 3 * 3) (j / 3 * 3 + 3))[j % 3]? = some v := by
    rw [Array.getElem?_extract, if_pos (by rw [rowsV_size]; omega), show j / 3 * 3 + j % 3 = j by omega]
    exact hv
  rw [hex] at hv2
  have hm : j % 3 = 0 ∨ j % 3 = 1 ∨ j % 3 = 2 := by omega
  rcases hm with hm | hm | hm
  · rw [hm] at hv2
    rw [show j = j / 3 * 3 by omega, d0]; simpa using hv2
  · rw [hm] at hv2
    rw [show j = j / 3 * 3 + 1 by omega, d1]; simpa using hv2
  · rw [hm] at hv2
    rw [show j = j / 3 * 3 + 2 by omega, d2]; simpa using hv2
theorem tab_in {W : World} {D : DataW Unit} (hD : D = rowsD) : ∀ (r : List (String × DataW Unit)) (ps : List MemPlace), DataW.LaidVars Tryz.prog W r ps → ("speakeasy/message.rows", D) ∈ r → TabR W
  | [], _, _, hm => by simp at hm
  | x :: r, ps, h, hm => by
    rcases List.mem_cons.1 hm with e | hm
    · subst e
      exact tab_head h hD
    · obtain ⟨p, q, hq, rfl⟩ := Ei.tail_of h
      exact tab_in hD r q hq hm
theorem tab_of {W : World} {r : List (String × DataW Unit)} {D : DataW Unit} (h : laidMet Tryz.prog r W) (hD : D = rowsD) (hm : ("speakeasy/message.rows", D) ∈ r) : TabR W := by
  obtain ⟨ps, hv, _, _⟩ := h
  exact tab_in hD r ps hv hm
theorem errsM_of {W : World} {r : List (String × DataW Unit)} (h : laidMet Tryz.prog r W) (m : ∀ k, (k < 4 ∨ k = 19) → ∃ D, (Ei.errN.getD k "", D) ∈ r ∧ Ei.IsErr D) : ∃ a, ErrsM W a := by
  obtain ⟨ps, hv, hnd, hrows⟩ := h
  have hr : Ei.Rows W ps := hrows
  have each : ∀ k, (k < 4 ∨ k = 19) → ∃ a : Addr, W.cell? ⟨Ei.errG.getD k 0, 0, none⟩ = some (.iface 162 (.pointer (some a))) := fun k hk => by
    obtain ⟨D, hm, hD⟩ := m k hk
    obtain ⟨a, ha, _⟩ := Ei.place_of hD (Ei.errN_g k (by omega)).1 (Ei.errN_g k (by omega)).2 r ps hv hr hm
    exact ⟨a, ha⟩
  refine ⟨fun k => if hk : k - 1 < 4 ∨ k - 1 = 19 then Classical.choose (each (k - 1) hk) else ⟨0, 0, none⟩, ⟨fun k hk => ?_⟩⟩
  have e : k + 1 - 1 < 4 ∨ k + 1 - 1 = 19 := by omega
  rw [dif_pos e]
  exact Classical.choose_spec (each (k + 1 - 1) e)
end Go.Proofs.YtjfikbnfabdkoaaGreatDoor.Mg
