/- Line: the two tables, out of the row's condition. -/
import Derived.Test.YtonjgfbefhefjaaDoorLaidAll
import Derived.Test.YtonjgfbefhefjaaDoorLnP0
import Derived.Lib.LaidTab
import Derived.OpenShut
import Derived.ChangeSame
set_option linter.unusedVariables false
set_option linter.unusedSimpArgs false
namespace Go.Proofs.YtonjgfbefhefjaaDoor.Ln
open Go Go.RowKit Go.ChangeShapes Go.Proofs.YtonjgfbefhefjaaDoor.Ow
def rowD (r : List UInt8 × List UInt8) : DataW Unit := .agg [.lit (.string r.1), .lit (.string r.2)]
def rowsD : DataW Unit := .agg (tab.map rowD)
theorem cells_row : Tryd.prog.cellsOf 63 = 2 := by kernel_rfl
theorem cells_str : Tryd.prog.cellsOf 9 = 1 := by kernel_rfl
theorem gRows : Tryd.prog.globalNamed "speakeasy/line.rows" = some 20 := by kernel_rfl
theorem tRows : (Tryd.prog.globals[20]?).map (·.type) = some 64 := by kernel_rfl
theorem lit_str {s : ByteArray} {l : List UInt8} {p : List MemPlace} {y : DataW Unit × List MemPlace} (h : y = (.lit (.string s.data.toList), p)) (h2 : y.1 = .lit (.string l)) : s = strB l := by
  subst h
  injection h2 with h2
  injection h2 with h2
  rw [← h2]; rfl
theorem tab_head {W : World} {D : DataW Unit} {r : List (String × DataW Unit)} {ps : List MemPlace} (h : DataW.LaidVars Tryd.prog W (("speakeasy/line.rows", D) :: r) ps) (hD : D = rowsD) : TabR W := by
  obtain ⟨g0, t0, cs0, f0, p0, q0, hg0, ht0, hv0, hd0, hq, e0⟩ := h
  obtain rfl := Option.some.inj (gRows.symm.trans hg0)
  obtain rfl := Option.some.inj (tRows.symm.trans ht0)
  obtain ⟨l0⟩ := cs0
  have hc : ∀ j, W.cell? ⟨20, j, none⟩ = l0[j]? := fun j => by simpa using World.var?_cell gRows hv0 j
  obtain ⟨xs, m, hf, hx, hl, hn, he⟩ := DataW.trod_array Tryd.underlying64 hd0
  have hxs : xs.map (·.1) = tab.map rowD := by
    have h1 := congrArg Prod.fst hx
    rw [hD] at h1
    unfold rowsD at h1
    injection h1 with h1
    exact h1.symm
  have each : ∀ i r, tab[i]? = some r → l0[i * 2]? = some (.string (strB r.1)) ∧ l0[i * 2 + 1]? = some (.string (strB r.2)) := by
    intro i r hr
    have hi : i < 24 := (List.getElem?_eq_some_iff.1 hr).1
    have h1 := he i hi
    obtain ⟨x, hxi⟩ : ∃ x, xs[i]? = some x := ⟨_, List.getElem?_eq_getElem (by omega)⟩
    rw [hxi] at h1
    have hfst : x.1 = rowD r := by
      have := congrArg (·[i]?) hxs
      simpa [hxi, hr] using this
    rw [cells_row] at h1
    obtain ⟨y1, y2, n, hx3, hl3, t1, t2⟩ := trod_struct2 Tryd.underlying63 h1
    simp only [cells_str] at t1 t2
    obtain ⟨s1, a1, b1, _⟩ := DataW.trod_string Tryd.underlying9 t1
    obtain ⟨s2, a2, b2, _⟩ := DataW.trod_string Tryd.underlying9 t2
    rw [hx3] at hfst
    unfold rowD at hfst
    simp only [DataW.agg.injEq, List.cons.injEq, and_true] at hfst
    obtain ⟨g1, g2⟩ := hfst
    have k1 := lit_str b1 g1
    have k2 := lit_str b2 g2
    subst k1 k2
    have c1 := congrArg (·[0]?) a1
    have c2 := congrArg (·[0]?) a2
    refine ⟨?_, ?_⟩
    · simpa [List.getElem?_take, List.getElem?_drop] using c1
    · simpa [List.getElem?_take, List.getElem?_drop] using c2
  intro j v hv
  rw [hc]
  have hj : j < 48 := by rw [← rowsV_size]; exact (Array.getElem?_eq_some_iff.1 hv).1
  obtain ⟨r, hr, hex⟩ := rowsV_at (j / 2) (by omega)
  obtain ⟨d1, d2⟩ := each _ r hr
  have hv2 : (rowsV.extract (j / 2 * 2) (j / 2 * 2 + 2))[j % 2]? = some v := by
    rw [Array.getElem?_extract, if_pos (by rw [rowsV_size]; omega), show j / 2 * 2 + j % 2 = j by omega]
    exact hv
  rw [hex] at hv2
  have hm : j % 2 = 0 ∨ j % 2 = 1 := by omega
  rcases hm with hm | hm
  · rw [hm] at hv2
    rw [show j = j / 2 * 2 by omega, d1]; simpa using hv2
  · rw [hm] at hv2
    rw [show j = j / 2 * 2 + 1 by omega, d2]; simpa using hv2
theorem tab_in {W : World} {D : DataW Unit} (hD : D = rowsD) : ∀ (r : List (String × DataW Unit)) (ps : List MemPlace), DataW.LaidVars Tryd.prog W r ps → ("speakeasy/line.rows", D) ∈ r → TabR W
  | [], _, _, hm => by simp at hm
  | x :: r, ps, h, hm => by
    rcases List.mem_cons.1 hm with e | hm
    · subst e
      exact tab_head h hD
    · obtain ⟨p, q, hq, rfl⟩ := Ei.tail_of h
      exact tab_in hD r q hq hm
theorem tab_of {W : World} {r : List (String × DataW Unit)} {D : DataW Unit} (h : laidMet Tryd.prog r W) (hD : D = rowsD) (hm : ("speakeasy/line.rows", D) ∈ r) : TabR W := by
  obtain ⟨ps, hv, _, _⟩ := h
  exact tab_in hD r ps hv hm
theorem gPow : Tryd.prog.globalNamed "internal/strconv.uint64pow10" = some 24 := by kernel_rfl
theorem tPow : (Tryd.prog.globals[24]?).map (·.type) = some 117 := by kernel_rfl
theorem pow_head {W : World} {D : DataW Unit} {r : List (String × DataW Unit)} {ps : List MemPlace} (h : DataW.LaidVars Tryd.prog W (("internal/strconv.uint64pow10", D) :: r) ps) (hD : D = Lib.tabData .u64 Lib.pow10Tab) : TabP W := by
  obtain ⟨g0, t0, cs0, f0, p0, q0, hg0, ht0, hv0, hd0, hq, e0⟩ := h
  obtain rfl := Option.some.inj (gPow.symm.trans hg0)
  obtain rfl := Option.some.inj (tPow.symm.trans ht0)
  subst hD
  unfold TabP Lib.TabIs
  rw [hv0, ← Lib.cells_of_tab Tryd.underlying117 Tryd.underlying104 (by kernel_rfl) (by kernel_rfl) hd0]
theorem pow_in {W : World} {D : DataW Unit} (hD : D = Lib.tabData .u64 Lib.pow10Tab) : ∀ (r : List (String × DataW Unit)) (ps : List MemPlace), DataW.LaidVars Tryd.prog W r ps → ("internal/strconv.uint64pow10", D) ∈ r → TabP W
  | [], _, _, hm => by simp at hm
  | x :: r, ps, h, hm => by
    rcases List.mem_cons.1 hm with e | hm
    · subst e
      exact pow_head h hD
    · obtain ⟨p, q, hq, rfl⟩ := Ei.tail_of h
      exact pow_in hD r q hq hm
theorem pow_of {W : World} {r : List (String × DataW Unit)} {D : DataW Unit} (h : laidMet Tryd.prog r W) (hD : D = Lib.tabData .u64 Lib.pow10Tab) (hm : ("internal/strconv.uint64pow10", D) ∈ r) : TabP W := by
  obtain ⟨ps, hv, _, _⟩ := h
  exact pow_in hD r ps hv hm
end Go.Proofs.YtonjgfbefhefjaaDoor.Ln
