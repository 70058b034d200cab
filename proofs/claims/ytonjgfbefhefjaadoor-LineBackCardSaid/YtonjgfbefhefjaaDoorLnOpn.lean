/- Line: arguments by value: a list of ints; a command. -/
import Derived.Test.YtonjgfbefhefjaaDoorLnP0
import Derived.OpenShut
set_option linter.unusedVariables false
set_option linter.unusedSimpArgs false
namespace Go.Proofs.YtonjgfbefhefjaaDoor.Ln
open Go Go.RowKit Go.ChangeShapes Go.WideShapes Go.Joins Go.Deep Go.Proofs.YtonjgfbefhefjaaDoor.Ow Go.Proofs.YtonjgfbefhefjaaDoor.Og
section
variable {H : Type} {enc : TypeId × Value → H} {W : World}
theorem ints_of {v : Value} (h : Reads enc Tryd.prog W 25 v) :
    ∃ (A : Option Addr) (c : Nat) (xs : List Int), v = .slice A xs.length c ∧ Rd W A (xs.map (Value.int .i64)) ∧ xs.length ≤ c ∧ c ≤ maxLen ∧ ∀ n ∈ xs, (Lit.int .i64 n).wf = true := by
  obtain ⟨A, n, c, xs, rfl, hl, hR, hn, hc, hx⟩ := open_sl Tryd.underlying25 (by kernel_rfl) h
  obtain ⟨ys, rfl, hy⟩ := map_of (f := Value.int .i64) (p := fun n => (Lit.int .i64 n).wf = true) (fun x hx' => open_int1 Tryd.underlying3 (hx x hx'))
  rw [List.length_map] at hl
  subst hl
  exact ⟨A, c, ys, rfl, hR, hn, hc, hy⟩
theorem strs_of {v : Value} (h : Reads enc Tryd.prog W 24 v) :
    ∃ (A : Option Addr) (c : Nat) (xs : List ByteArray), v = .slice A xs.length c ∧ Rd W A (xs.map Value.string) ∧ xs.length ≤ c ∧ c ≤ maxLen ∧ ∀ x ∈ xs, x.size ≤ maxLen := by
  obtain ⟨A, n, c, xs, rfl, hl, hR, hn, hc, hx⟩ := open_sl Tryd.underlying24 (by kernel_rfl) h
  obtain ⟨ys, rfl, hy⟩ := map_of (f := Value.string) (p := fun s => s.size ≤ maxLen) (fun x hx' => open_str1 Tryd.underlying9 (hx x hx'))
  rw [List.length_map] at hl
  subst hl
  exact ⟨A, c, ys, rfl, hR, hn, hc, hy⟩
set_option maxRecDepth 100000 in
theorem open_ints {r : Reach} {b0 : Nat} {v : Value} {d : DataW H} {ps : List MemPlace} (hval : Value.okWide Tryd.prog W r b0 25 v) (h : DataW.Trod enc Tryd.prog W 0 (fun _ => true) true 25 v d ps) :
    ∃ (A : Option Addr) (c : Nat) (xs : List Int), v = .slice A xs.length c ∧ Rd W A (xs.map (Value.int .i64)) ∧ xs.length ≤ c ∧ c ≤ maxLen := by
  obtain ⟨a, len, cap, rfl⟩ := okWide_slice Tryd.underlying25 hval
  obtain ⟨fuel, hf⟩ := h
  obtain ⟨A, c, xs, h1, h2, h3, h4, _⟩ := ints_of (enc := enc) ⟨fuel, _, by simpa [Value.cells] using hf⟩
  exact ⟨A, c, xs, h1, h2, h3, h4⟩
theorem open_agg4 {P : Program} {r : Reach} {b0 : Nat} {t : TypeId} {f0 f1 f2 f3 : Field} {v : Value} {d : DataW H} {p : List MemPlace} (hs : P.underlying t = some (.struct #[f0, f1, f2, f3])) (hone : oneCellFields P #[f0, f1, f2, f3] = true) (hC : P.cellsOf t = 4)
    (hv : Value.okWide P W r b0 t v) (h : DataW.Trod enc P W 0 (fun _ => true) true t v d p) :
    ∃ v0 v1 v2 v3 : Value, v = .agg #[v0, v1, v2, v3] ∧ Reads enc P W f0.type v0 ∧ Reads enc P W f1.type v1 ∧ Reads enc P W f2.type v2 ∧ Reads enc P W f3.type v3 := by
  obtain ⟨cs, rfl, hsz⟩ := okWide_struct hs hv
  obtain ⟨l⟩ := cs
  match l, hsz.trans hC with
  | [c0, c1, c2, c3], _ =>
    obtain ⟨fuel, hf⟩ := h
    obtain ⟨xs, n, _, hx, _, hlen, hg⟩ := DataW.trod_struct hs hf
    obtain ⟨o0, k0⟩ := hone_of hone 0 f0 rfl
    obtain ⟨o1, k1⟩ := hone_of hone 1 f1 rfl
    obtain ⟨o2, k2⟩ := hone_of hone 2 f2 rfl
    obtain ⟨o3, k3⟩ := hone_of hone 3 f3 rfl
    match xs, hlen with
    | [y0, y1, y2, y3], _ =>
      exact ⟨c0, c1, c2, c3, rfl, ⟨n, y0, by simpa [Value.cells, o0, k0] using hg 0 f0 rfl⟩, ⟨n, y1, by simpa [Value.cells, o1, k1] using hg 1 f1 rfl⟩, ⟨n, y2, by simpa [Value.cells, o2, k2] using hg 2 f2 rfl⟩, ⟨n, y3, by simpa [Value.cells, o3, k3] using hg 3 f3 rfl⟩⟩
set_option maxRecDepth 100000 in
theorem open_cmd {r : Reach} {b0 : Nat} {v : Value} {d : DataW H} {p : List MemPlace} (hv : Value.okWide Tryd.prog W r b0 32 v) (h : DataW.Trod enc Tryd.prog W 0 (fun _ => true) true 32 v d p) :
    ∃ (s t : ByteArray) (A B : Option Addr) (c e : Nat) (xs : List ByteArray) (ys : List Int), v = .agg #[.string s, .slice A xs.length c, .slice B ys.length e, .string t] ∧
      Rd W A (xs.map Value.string) ∧ xs.length ≤ c ∧ c ≤ maxLen ∧ Rd W B (ys.map (Value.int .i64)) ∧ ys.length ≤ e ∧ e ≤ maxLen ∧ ∀ n ∈ ys, (Lit.int .i64 n).wf = true := by
  obtain ⟨v0, v1, v2, v3, rfl, r0, r1, r2, r3⟩ := open_agg4 Tryd.underlying32 (by kernel_rfl) (by kernel_rfl) hv h
  obtain ⟨s, rfl, _⟩ := open_str1 Tryd.underlying9 r0
  obtain ⟨t, rfl, _⟩ := open_str1 Tryd.underlying9 r3
  obtain ⟨A, c, xs, rfl, a1, a2, a3, _⟩ := strs_of r1
  obtain ⟨B, e, ys, rfl, b1, b2, b3, b4⟩ := ints_of r2
  exact ⟨s, t, A, B, c, e, xs, ys, rfl, a1, a2, a3, b1, b2, b3, b4⟩
end
end Go.Proofs.YtonjgfbefhefjaaDoor.Ln
