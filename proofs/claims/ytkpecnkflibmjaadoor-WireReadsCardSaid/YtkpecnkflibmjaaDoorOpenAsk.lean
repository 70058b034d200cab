/- The argument []Ask, opened. -/
import Derived.Test.YtkpecnkflibmjaaDoorLawWireReads
import Derived.Test.YtkpecnkflibmjaaDoorOpenFld
set_option linter.unusedVariables false
set_option linter.unusedSimpArgs false
namespace Go.Proofs.YtkpecnkflibmjaaDoor.Wi
open Go.RowKit Go.ChangeShapes Go.WideShapes Go.Proofs.YtkpecnkflibmjaaDoor.Ow
variable {H : Type} {enc : TypeId × Value → H} {W : World}
theorem cells_ask : Tryd.prog.cellsOf 66 = 2 := by kernel_rfl
set_option maxRecDepth 100000 in
theorem open_asks {r : Reach} {b0 : Nat} {v : Value} {d : DataW H} {ps : List MemPlace} (hval : Value.okWide Tryd.prog W r b0 60 v)
    (h : DataW.Trod enc Tryd.prog W 0 (fun _ => true) true 60 v d ps) : ∃ (A : Option Addr) (c : Nat) (xs : List (Int × Int)), v = .slice A xs.length c ∧ RdA W A xs ∧ xs.length ≤ c ∧ c ≤ maxLen := by
  obtain ⟨a, len, cap, rfl⟩ := okWide_slice Tryd.underlying60 hval
  obtain ⟨fuel, hf⟩ := h
  rcases DataW.trod_slice Tryd.underlying60 hf with ⟨hcs, _⟩ | ⟨a', len', cap', elems, rest, n, _, hcs, _, _, hl, hm, hlen, hel, _, _⟩
  · simp [Value.cells] at hcs
    obtain ⟨rfl, rfl, rfl⟩ := hcs
    exact ⟨none, 0, [], rfl, fun j f h => by simp at h, Nat.le_refl _, Nat.zero_le _⟩
  · simp [Value.cells] at hcs
    obtain ⟨rfl, rfl, rfl⟩ := hcs
    have each : ∀ i, i < len → ∃ q : Int × Int, (∃ b o, some a' = some ⟨b, o, none⟩ ∧ b < W.heap.size ∧ W.cell? ⟨b, o + i * 2, none⟩ = some (.int .i64 q.1) ∧ W.cell? ⟨b, o + i * 2 + 1, none⟩ = some (.int .i64 q.2)) ∧
        -9223372036854775808 ≤ q.2 ∧ q.2 ≤ 9223372036854775807 := by
      intro i hi
      have h1 := hel i hi
      rw [List.getElem?_eq_getElem (by omega), Option.bind_eq_some_iff] at h1
      obtain ⟨cs, hcs, hy⟩ := h1
      obtain ⟨_, hl4, hc⟩ := World.cells?_some hcs
      rw [cells_ask] at hl4 hc
      match cs, hl4 with
      | [c0, c1], _ =>
        obtain ⟨y0, y1, m, _, _, t0, t1⟩ := Go.ChangeShapes.trod_struct2 Tryd.underlying66 hy
        simp only [cells_int, List.drop, List.take] at t0 t1
        obtain ⟨k0, e0, _, _⟩ := DataW.trod_int Tryd.underlying3 t0
        obtain ⟨n0, e1, _, w1⟩ := DataW.trod_int Tryd.underlying3 t1
        simp only [List.cons.injEq, and_true] at e0 e1
        subst e0 e1
        have hw := bounds_i64 w1
        obtain ⟨b, o, spot⟩ := a'
        have hpair : spot = none ∧ b < W.heap.size := by
          have g1 := hel 0 (by omega)
          rw [List.getElem?_eq_getElem (by omega), Option.bind_eq_some_iff] at g1
          obtain ⟨cz, hcz, _⟩ := g1
          obtain ⟨_, hlz, hz⟩ := World.cells?_some hcz
          rw [cells_ask] at hlz hz
          have hz0 := hz 0 (by decide)
          rw [List.getElem?_eq_getElem (by omega), Nat.zero_mul] at hz0
          have e0 : ((⟨b, o, spot⟩ : Addr).add 0).add 0 = ⟨b, o, spot⟩ := by unfold Addr.add; rfl
          rw [e0] at hz0
          exact ⟨by simpa using World.cell?_spot hz0, World.block_lt_of_cell? W _ hz0⟩
        obtain ⟨rfl, hlt⟩ := hpair
        have hadd : ∀ o j : Nat, (⟨b, o, none⟩ : Addr).add j = ⟨b, o + j, none⟩ := by intro o j; unfold Addr.add; split <;> simp_all
        have h0 := hc 0 (by decide)
        have h1 := hc 1 (by decide)
        rw [hadd, hadd] at h0 h1
        exact ⟨(k0, n0), ⟨b, o, rfl, hlt, by simpa using h0, by simpa using h1⟩, by simp only; omega, by simp only; omega⟩
    obtain ⟨fs, hfl, hq⟩ := list_of len each
    subst hfl
    exact ⟨some a', cap, fs, rfl, hq, hl, hm⟩
end Go.Proofs.YtkpecnkflibmjaaDoor.Wi
