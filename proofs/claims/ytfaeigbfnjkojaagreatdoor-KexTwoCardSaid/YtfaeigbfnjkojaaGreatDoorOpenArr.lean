/- Arguments opened: an array of bytes by value. -/
import Derived.Test.YtfaeigbfnjkojaaGreatDoorGenA
set_option linter.unusedVariables false
set_option linter.unusedSimpArgs false
namespace Go.Proofs.YtfaeigbfnjkojaaGreatDoor.Og
open Go.RowKit Go.ChangeShapes Go.WideShapes Go.Joins Go.Deep Go.Proofs.YtfaeigbfnjkojaaGreatDoor.Ow
variable {H : Type} {enc : TypeId × Value → H} {P : Program} {W : World}
/-- an array whose elements have one cell each -/
theorem open_arr {r : Reach} {b0 : Nat} {t e : TypeId} {n : Nat} {v : Value} {d : DataW H} {p : List MemPlace} (ht : P.underlying t = some (.array n e)) (hc : P.cellsOf e = 1) (hC : P.cellsOf t = n)
    (hv : Value.okWide P W r b0 t v) (h : DataW.Trod enc P W 0 (fun _ => true) true t v d p) : ∃ xs : List Value, v = .agg xs.toArray ∧ xs.length = n ∧ ∀ x ∈ xs, Reads enc P W e x := by
  simp only [Value.okWide, ht] at hv
  obtain ⟨cs, rfl, hsz, _⟩ := hv
  obtain ⟨fuel, hf⟩ := h
  obtain ⟨xs, m, _, _, _, hlen, hg⟩ := DataW.trod_array ht hf
  have hcl : cs.size = n := hsz.trans hC
  refine ⟨cs.toList, by simp, by simpa using hcl, fun x hx => ?_⟩
  obtain ⟨i, hi⟩ := List.mem_iff_getElem?.1 hx
  have hin : i < n := by
    have := (List.getElem?_eq_some_iff.1 hi).1
    simp at this; omega
  have h1 := hg i hin
  rw [hc, Nat.mul_one] at h1
  have e1 : ((Value.agg cs).cells.toList.drop i).take 1 = [x] := by
    have e0 : (Value.agg cs).cells.toList = cs.toList := by simp [Value.cells]
    rw [e0, List.drop_eq_getElem_cons (by simpa using (show i < cs.size by omega))]
    rw [List.getElem?_eq_getElem (by simpa using (show i < cs.size by omega))] at hi
    injection hi with hi
    rw [hi]; rfl
  rw [e1, List.getElem?_eq_getElem (by omega)] at h1
  exact ⟨m, _, h1⟩
theorem open_bytes {r : Reach} {b0 : Nat} {t e : TypeId} {n : Nat} {v : Value} {d : DataW H} {p : List MemPlace} (ht : P.underlying t = some (.array n e)) (he : P.underlying e = some (.int .u8)) (hc : P.cellsOf e = 1) (hC : P.cellsOf t = n)
    (hv : Value.okWide P W r b0 t v) (h : DataW.Trod enc P W 0 (fun _ => true) true t v d p) : ∃ l : List UInt8, v = .agg (bv l).toArray ∧ l.length = n := by
  obtain ⟨xs, rfl, hl, hx⟩ := open_arr ht hc hC hv h
  obtain ⟨l, rfl, _⟩ := map_of (f := fun (x : UInt8) => Value.int .u8 (x.toNat : Int)) (p := fun _ => True) (xs := xs) (fun x h => by
    obtain ⟨n, rfl, hw⟩ := open_int1 he (hx x h)
    have hb := bounds_u8 hw
    refine ⟨UInt8.ofNat n.toNat, ?_, trivial⟩
    have : (UInt8.ofNat n.toNat).toNat = n.toNat := by rw [UInt8.toNat_ofNat']; omega
    rw [this, Int.toNat_of_nonneg (by omega)])
  exact ⟨l, rfl, by simpa using hl⟩
theorem open_SLs {t e : TypeId} {v : Value} (ht : P.underlying t = some (.slice e)) (he : P.underlying e = some .string) (hc : P.cellsOf e = 1) (h : Reads enc P W t v) :
    ∃ (A : Option Addr) (n c : Nat) (xs : List ByteArray), v = .slice A n c ∧ xs.length = n ∧ Rd W A (xs.map Value.string) ∧ n ≤ c ∧ c ≤ maxLen := by
  obtain ⟨A, n, c, ys, h1, h2, h3, h4, h5, h6⟩ := open_sl ht hc h
  obtain ⟨xs, rfl, _⟩ := map_of (f := Value.string) (p := fun _ => True) (fun x hx => by
    obtain ⟨s, rfl, _⟩ := open_str1 he (h6 x hx)
    exact ⟨s, rfl, trivial⟩)
  exact ⟨A, n, c, xs, h1, by simpa using h2, h3, h4, h5⟩
end Go.Proofs.YtfaeigbfnjkojaaGreatDoor.Og
