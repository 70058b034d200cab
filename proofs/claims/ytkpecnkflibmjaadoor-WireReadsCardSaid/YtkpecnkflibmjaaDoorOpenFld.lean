/- The argument []Field, opened. -/
import Derived.Test.YtkpecnkflibmjaaDoorLawWireWrites
import Derived.Test.YtkpecnkflibmjaaDoorOpen
import Derived.Lib.SmallJoins
set_option linter.unusedVariables false
set_option linter.unusedSimpArgs false
namespace Go.Proofs.YtkpecnkflibmjaaDoor.Wi
open Go.RowKit Go.ChangeShapes Go.WideShapes Go.Proofs.YtkpecnkflibmjaaDoor.Ow
variable {H : Type} {enc : TypeId × Value → H} {W : World}
theorem cells_field : Tryd.prog.cellsOf 35 = 4 := by kernel_rfl
theorem cells_int : Tryd.prog.cellsOf 3 = 1 := by kernel_rfl
theorem cells_u64 : Tryd.prog.cellsOf 32 = 1 := by kernel_rfl
theorem cells_str : Tryd.prog.cellsOf 9 = 1 := by kernel_rfl
theorem cells_strs : Tryd.prog.cellsOf 33 = 1 := by kernel_rfl
theorem list_of {α : Type} {Q : Nat → α → Prop} : ∀ n, (∀ i, i < n → ∃ f, Q i f) → ∃ fs : List α, fs.length = n ∧ ∀ j f, fs[j]? = some f → Q j f
  | 0, _ => ⟨[], rfl, fun j f h => by simp at h⟩
  | n + 1, h => by
    obtain ⟨fs, hl, hq⟩ := list_of n (fun i hi => h i (by omega))
    obtain ⟨f, hf⟩ := h n (by omega)
    refine ⟨fs ++ [f], by simp [hl], fun j g hg => ?_⟩
    by_cases hj : j < n
    · rw [List.getElem?_append_left (by omega)] at hg; exact hq j g hg
    · have hj2 : j < (fs ++ [f]).length := (List.getElem?_eq_some_iff.1 hg).1
      simp [hl] at hj2
      obtain rfl : j = n := by omega
      rw [List.getElem?_append_right (by omega), hl, Nat.sub_self] at hg
      simp at hg
      subst hg
      exact hf
set_option maxRecDepth 100000 in
theorem open_fields {r : Reach} {b0 : Nat} {v : Value} {d : DataW H} {ps : List MemPlace} (hval : Value.okWide Tryd.prog W r b0 25 v)
    (h : DataW.Trod enc Tryd.prog W 0 (fun _ => true) true 25 v d ps) : ∃ (A : Option Addr) (c : Nat) (fs : List Fld), v = .slice A fs.length c ∧ RdF W A fs ∧ fs.length ≤ c ∧ c ≤ maxLen := by
  obtain ⟨a, len, cap, rfl⟩ := okWide_slice Tryd.underlying25 hval
  obtain ⟨fuel, hf⟩ := h
  rcases DataW.trod_slice Tryd.underlying25 hf with ⟨hcs, _⟩ | ⟨a', len', cap', elems, rest, n, _, hcs, _, _, hl, hm, hlen, hel, _, _⟩
  · simp [Value.cells] at hcs
    obtain ⟨rfl, rfl, rfl⟩ := hcs
    exact ⟨none, 0, [], rfl, fun j f h => by simp at h, Nat.le_refl _, Nat.zero_le _⟩
  · simp [Value.cells] at hcs
    obtain ⟨rfl, rfl, rfl⟩ := hcs
    have each : ∀ i, i < len → ∃ f : Fld, (∃ b o, some a' = some ⟨b, o, none⟩ ∧ b < W.heap.size ∧ ∀ k v, (fieldC f.kind f.n f.s (.slice f.a f.xs.length f.c))[k]? = some v → W.cell? ⟨b, o + i * 4 + k, none⟩ = some v) ∧
        Rd W f.a (f.xs.map Value.string) ∧ f.xs.length ≤ f.c ∧ f.c ≤ maxLen ∧ f.n < 18446744073709551616 := by
      intro i hi
      have h1 := hel i hi
      rw [List.getElem?_eq_getElem (by omega), Option.bind_eq_some_iff] at h1
      obtain ⟨cs, hcs, hy⟩ := h1
      obtain ⟨_, hl4, hc⟩ := World.cells?_some hcs
      rw [cells_field] at hl4 hc
      match cs, hl4 with
      | [c0, c1, c2, c3], _ =>
        obtain ⟨y0, y1, y2, y3, m, _, _, t0, t1, t2, t3⟩ := Go.Joins.trod_struct4 Tryd.underlying35 hy
        simp only [cells_int, cells_u64, cells_str, cells_strs, List.drop, List.take] at t0 t1 t2 t3
        obtain ⟨k0, e0, _, _⟩ := DataW.trod_int Tryd.underlying3 t0
        obtain ⟨n0, e1, _, w1⟩ := DataW.trod_int Tryd.underlying32 t1
        obtain ⟨s0, e2, _, _⟩ := DataW.trod_string Tryd.underlying9 t2
        simp only [List.cons.injEq, and_true] at e0 e1 e2
        subst e0 e1 e2
        have hw := bounds_u64 w1
        obtain ⟨b, o, spot⟩ := a'
        have hpair : spot = none ∧ b < W.heap.size := by
          have g1 := hel 0 (by omega)
          rw [List.getElem?_eq_getElem (by omega), Option.bind_eq_some_iff] at g1
          obtain ⟨cz, hcz, _⟩ := g1
          obtain ⟨_, hlz, hz⟩ := World.cells?_some hcz
          rw [cells_field] at hlz hz
          have hz0 := hz 0 (by decide)
          rw [List.getElem?_eq_getElem (by omega), Nat.zero_mul] at hz0
          have e0 : ((⟨b, o, spot⟩ : Addr).add 0).add 0 = ⟨b, o, spot⟩ := by unfold Addr.add; rfl
          rw [e0] at hz0
          exact ⟨by simpa using World.cell?_spot hz0, World.block_lt_of_cell? W _ hz0⟩
        obtain ⟨rfl, hlt⟩ := hpair
        have hadd : ∀ o j : Nat, (⟨b, o, none⟩ : Addr).add j = ⟨b, o + j, none⟩ := by intro o j; unfold Addr.add; split <;> simp_all
        have hcell : ∀ c, [Value.int .i64 k0, .int .u64 n0, .string s0, c3] = c → ∀ (k : Nat) v, c[k]? = some v → W.cell? ⟨b, o + i * 4 + k, none⟩ = some v := by
          rintro c rfl k v hv
          have hk : k < 4 := (List.getElem?_eq_some_iff.1 hv).1
          have := hc k hk
          rw [hv, hadd, hadd] at this
          exact this
        have hcell := hcell _ rfl
        obtain ⟨n1, rfl⟩ : ∃ n1 : Nat, n0 = n1 := ⟨n0.toNat, by omega⟩
        rcases Go.ChangeShapes.open_strings Tryd.underlying33 Tryd.underlying9 cells_str t3 with ⟨hcs3, _⟩ | ⟨a2, len2, cap2, ss, hcs3, _, hl2, hm2, hss, _, hcell2, hsz⟩
        · simp only [List.cons.injEq, and_true] at hcs3
          subst hcs3
          exact ⟨⟨k0, n1, s0, none, 0, []⟩, ⟨b, o, rfl, hlt, fun k v hv => hcell k v (by simpa [fieldC] using hv)⟩, Rd.nil _ _, Nat.le_refl _, Nat.zero_le _, by simp only; omega⟩
        · simp only [List.cons.injEq, and_true] at hcs3
          subst hcs3
          simp only [if_true] at hss
          have hlen2 : (ss.take len2).length = len2 := by rw [List.length_take]; omega
          refine ⟨⟨k0, n1, s0, some a2, cap2, ss.take len2⟩, ⟨b, o, rfl, hlt, fun k v hv => hcell k v (by rw [hlen2] at hv; simpa [fieldC] using hv)⟩, Og.rd_of_add fun j x hx => ?_, by simp only [hlen2]; exact hl2, hm2, by simp only; omega⟩
          rw [List.getElem?_map, Option.map_eq_some_iff] at hx
          obtain ⟨y, hy, rfl⟩ := hx
          have hj : j < (ss.take len2).length := (List.getElem?_eq_some_iff.1 hy).1
          rw [hcell2 j (by omega)]
          rw [List.getElem?_take_of_lt (by omega)] at hy
          simp [List.getD, hy]
    obtain ⟨fs, hfl, hq⟩ := list_of len each
    subst hfl
    exact ⟨some a', cap, fs, rfl, hq, hl, hm⟩
end Go.Proofs.YtkpecnkflibmjaaDoor.Wi
