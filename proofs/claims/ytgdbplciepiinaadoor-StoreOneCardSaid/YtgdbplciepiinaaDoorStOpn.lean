/- The argument []Act, opened. -/
import Derived.Test.YtgdbplciepiinaaDoorStPl
import Derived.Deep.Strs
set_option linter.unusedVariables false
set_option linter.unusedSimpArgs false
namespace Go.Proofs.YtgdbplciepiinaaDoor.St
open Go.RowKit Go.ChangeShapes Go.WideShapes Go.Proofs.YtgdbplciepiinaaDoor.Ow
variable {H : Type} {enc : TypeId × Value → H} {W : World}
theorem cells_act : Tryd.prog.cellsOf 33 = 3 := by kernel_rfl
theorem cells_u8 : Tryd.prog.cellsOf 5 = 1 := by kernel_rfl
theorem cells_intT : Tryd.prog.cellsOf 3 = 1 := by kernel_rfl
theorem cells_str : Tryd.prog.cellsOf 9 = 1 := by kernel_rfl
set_option maxRecDepth 100000 in
theorem open_acts {r : Reach} {b0 : Nat} {v : Value} {d : DataW H} {ps : List MemPlace} (hval : Value.okWide Tryd.prog W r b0 25 v)
    (h : DataW.Trod enc Tryd.prog W 0 (fun _ => true) true 25 v d ps) : ∃ (A : Option Addr) (c : Nat) (xs : List Ac), v = .slice A xs.length c ∧ RdAc W A xs ∧ xs.length ≤ c ∧ c ≤ maxLen := by
  obtain ⟨a, len, cap, rfl⟩ := okWide_slice Tryd.underlying25 hval
  obtain ⟨fuel, hf⟩ := h
  rcases DataW.trod_slice Tryd.underlying25 hf with ⟨hcs, _⟩ | ⟨a', len', cap', elems, rest, n, _, hcs, _, _, hl, hm, hlen, hel, _, _⟩
  · simp [Value.cells] at hcs
    obtain ⟨rfl, rfl, rfl⟩ := hcs
    exact ⟨none, 0, [], rfl, fun j f h => by simp at h, Nat.le_refl _, Nat.zero_le _⟩
  · simp [Value.cells] at hcs
    obtain ⟨rfl, rfl, rfl⟩ := hcs
    have each : ∀ i, i < len → ∃ q : Ac, ∃ b o, some a' = some ⟨b, o, none⟩ ∧ b < W.heap.size ∧ ∀ j v, (actV q)[j]? = some v → W.cell? ⟨b, (o + i * 3) + j, none⟩ = some v := by
      intro i hi
      have h1 := hel i hi
      rw [List.getElem?_eq_getElem (by omega), Option.bind_eq_some_iff] at h1
      obtain ⟨cs, hcs, hy⟩ := h1
      obtain ⟨_, hl4, hc⟩ := World.cells?_some hcs
      rw [cells_act] at hl4 hc
      match cs, hl4 with
      | [c0, c1, c2], _ =>
        obtain ⟨y0, y1, y2, m, _, _, t0, t1, t2⟩ := Go.Deep.trod_struct3 Tryd.underlying33 hy
        simp only [cells_intT, cells_u8, cells_str, List.drop, List.take] at t0 t1 t2
        obtain ⟨k0, e0, _, _⟩ := DataW.trod_int Tryd.underlying3 t0
        obtain ⟨n0, e1, _, w1⟩ := DataW.trod_int Tryd.underlying5 t1
        obtain ⟨s0, e2, _, _⟩ := DataW.trod_string Tryd.underlying9 t2
        simp only [List.cons.injEq, and_true] at e0 e1 e2
        subst e0 e1 e2
        obtain ⟨x, rfl⟩ : ∃ x : UInt8, n0 = (x.toNat : Int) := by
          have hw := bounds_u8 w1
          refine ⟨UInt8.ofNat n0.toNat, ?_⟩
          rw [UInt8.toNat_ofNat_of_lt' (by show n0.toNat < 256; omega)]
          omega
        obtain ⟨b, o, spot⟩ := a'
        have hpair : spot = none ∧ b < W.heap.size := by
          have g1 := hel 0 (by omega)
          rw [List.getElem?_eq_getElem (by omega), Option.bind_eq_some_iff] at g1
          obtain ⟨cz, hcz, _⟩ := g1
          obtain ⟨_, hlz, hz⟩ := World.cells?_some hcz
          rw [cells_act] at hlz hz
          have hz0 := hz 0 (by decide)
          rw [List.getElem?_eq_getElem (by omega), Nat.zero_mul] at hz0
          have e0 : ((⟨b, o, spot⟩ : Addr).add 0).add 0 = ⟨b, o, spot⟩ := by unfold Addr.add; rfl
          rw [e0] at hz0
          exact ⟨by simpa using World.cell?_spot hz0, World.block_lt_of_cell? W _ hz0⟩
        obtain ⟨rfl, hlt⟩ := hpair
        have hadd : ∀ o j : Nat, (⟨b, o, none⟩ : Addr).add j = ⟨b, o + j, none⟩ := by intro o j; unfold Addr.add; split <;> simp_all
        refine ⟨(k0, x, s0), b, o, rfl, hlt, fun j v hv => ?_⟩
        have hj : j < 3 := (Array.getElem?_eq_some_iff.1 hv).1
        have hcj := hc j hj
        rw [hadd, hadd] at hcj
        rw [hcj]
        match j, hj, hv with
        | 0, _, hv => exact hv
        | 1, _, hv => exact hv
        | 2, _, hv => exact hv
    obtain ⟨fs, hfl, hq⟩ := Og.list_of len each
    subst hfl
    exact ⟨some a', cap, fs, rfl, hq, hl, hm⟩
end Go.Proofs.YtgdbplciepiinaaDoor.St
