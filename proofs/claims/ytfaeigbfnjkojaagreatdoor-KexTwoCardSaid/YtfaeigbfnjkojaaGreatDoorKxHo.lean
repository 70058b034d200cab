/- An Exchange by value, opened. -/
import Derived.Test.YtfaeigbfnjkojaaGreatDoorKxHa
import Derived.Test.YtfaeigbfnjkojaaGreatDoorOpenArr
set_option linter.unusedVariables false
set_option linter.unusedSimpArgs false
namespace Go.Proofs.YtfaeigbfnjkojaaGreatDoor.Og
open Go.RowKit Go.ChangeShapes Go.WideShapes Go.Joins Go.Deep Go.Proofs.YtfaeigbfnjkojaaGreatDoor.Ow
variable {H : Type} {enc : TypeId × Value → H} {P : Program} {W : World}
theorem arr_reads {t e : TypeId} {n fuel : Nat} {cs : List Value} {y : DataW H × List MemPlace} (ht : P.underlying t = some (.array n e)) (hc : P.cellsOf e = 1) (hC : P.cellsOf t = n) (h : DataW.trod enc P W 0 (fun _ => true) true fuel t cs = some y) : cs.length = n ∧ ∀ x ∈ cs, Reads enc P W e x := by
  obtain ⟨xs, m, _, _, hcl, hlen, hg⟩ := DataW.trod_array ht h
  have hcl : cs.length = n := hcl.trans hC
  refine ⟨hcl, fun x hx => ?_⟩
  obtain ⟨i, hi⟩ := List.mem_iff_getElem?.1 hx
  have hin : i < cs.length := (List.getElem?_eq_some_iff.1 hi).1
  have h1 := hg i (by omega)
  rw [hc, Nat.mul_one] at h1
  have e1 : (cs.drop i).take 1 = [x] := by
    rw [List.drop_eq_getElem_cons hin]
    rw [List.getElem?_eq_getElem hin] at hi
    injection hi with hi
    rw [hi]; rfl
  rw [e1, List.getElem?_eq_getElem (by omega)] at h1
  exact ⟨m, _, h1⟩
theorem arr_bytes {t e : TypeId} {n fuel : Nat} {cs : List Value} {y : DataW H × List MemPlace} (ht : P.underlying t = some (.array n e)) (he : P.underlying e = some (.int .u8)) (hc : P.cellsOf e = 1) (hC : P.cellsOf t = n) (h : DataW.trod enc P W 0 (fun _ => true) true fuel t cs = some y) : ∃ l : List UInt8, cs = Lib.byteCells l ∧ l.length = n := by
  obtain ⟨hl, hx⟩ := arr_reads ht hc hC h
  obtain ⟨l, rfl, _⟩ := map_of (f := fun (x : UInt8) => Value.int .u8 (x.toNat : Int)) (p := fun _ => True) (xs := cs) (fun x h => by
    obtain ⟨n, rfl, hw⟩ := open_int1 he (hx x h)
    have hb := bounds_u8 hw
    refine ⟨UInt8.ofNat n.toNat, ?_, trivial⟩
    have : (UInt8.ofNat n.toNat).toNat = n.toNat := by rw [UInt8.toNat_ofNat']; omega
    rw [this, Int.toNat_of_nonneg (by omega)])
  exact ⟨l, rfl, by simpa using hl⟩
theorem arr_two {t e : TypeId} {fuel : Nat} {cs : List Value} {y : DataW H × List MemPlace} (ht : P.underlying t = some (.array 2 e)) (he : P.underlying e = some .string) (hc : P.cellsOf e = 1) (hC : P.cellsOf t = 2) (h : DataW.trod enc P W 0 (fun _ => true) true fuel t cs = some y) : ∃ s u : ByteArray, cs = [.string s, .string u] := by
  obtain ⟨hl, hx⟩ := arr_reads ht hc hC h
  match cs, hl with
  | [a, b], _ =>
    obtain ⟨s, rfl, _⟩ := open_str1 he (hx a (by simp))
    obtain ⟨u, rfl, _⟩ := open_str1 he (hx b (by simp))
    exact ⟨s, u, rfl⟩
end Go.Proofs.YtfaeigbfnjkojaaGreatDoor.Og
namespace Go.Proofs.YtfaeigbfnjkojaaGreatDoor.Kx
open Go.RowKit Go.ChangeShapes Go.WideShapes Go.Joins Go.Deep Go.Proofs.YtfaeigbfnjkojaaGreatDoor.Ow Go.Proofs.YtfaeigbfnjkojaaGreatDoor.Og
variable {H : Type} {enc : TypeId × Value → H} {W : World}
theorem exF : ∃ f0 f1 f2 f3 f4 : Field, Tryz.prog.underlying 40 = some (.struct #[f0, f1, f2, f3, f4]) ∧ f0.type = 38 ∧ f1.type = 38 ∧ f2.type = 9 ∧ f3.type = 33 ∧ f4.type = 22 ∧ f0.offset = 0 ∧ f1.offset = 2 ∧ f2.offset = 4 ∧ f3.offset = 5 ∧ f4.offset = 69 := ⟨_, _, _, _, _, Tryz.underlying40, rfl, rfl, rfl, rfl, rfl, rfl, rfl, rfl, rfl, rfl⟩
theorem cut_off {α : Type} (l : List α) (a n : Nat) : l.drop a = (l.drop a).take n ++ l.drop (a + n) := by
  rw [← List.drop_drop, List.take_append_drop]
set_option maxRecDepth 20000 in
theorem open_exch {r : Reach} {b0 : Nat} {v : Value} {d : DataW H} {p : List MemPlace} (hv : Value.okWide Tryz.prog W r b0 40 v) (h : DataW.Trod enc Tryz.prog W 0 (fun _ => true) true 40 v d p) :
    ∃ (x : Xc) (a b c : List UInt8), v = .agg (x.t ++ bv (a ++ (b ++ c))).toArray ∧ a.length = 32 ∧ b.length = 32 ∧ c.length = 32 := by
  obtain ⟨f0, f1, f2, f3, f4, hs, t0, t1, t2, t3, t4, o0, o1, o2, o3, o4⟩ := exF
  have c2 : Tryz.prog.cellsOf 38 = 2 := by kernel_rfl
  have c1 : Tryz.prog.cellsOf 9 = 1 := by kernel_rfl
  have c64 : Tryz.prog.cellsOf 33 = 64 := by kernel_rfl
  have c32 : Tryz.prog.cellsOf 22 = 32 := by kernel_rfl
  have cu : Tryz.prog.cellsOf 5 = 1 := by kernel_rfl
  have cE : Tryz.prog.cellsOf 40 = 101 := by kernel_rfl
  obtain ⟨cs, rfl, hsz⟩ := okWide_struct hs hv
  obtain ⟨fuel, hf⟩ := h
  have e0 : (Value.agg cs).cells.toList = cs.toList := by simp [Value.cells]
  rw [e0] at hf
  obtain ⟨xs, n, _, _, hcl, hlen, hg⟩ := DataW.trod_struct hs hf
  rw [cE] at hcl
  have hl5 : xs.length = 5 := hlen
  obtain ⟨L, hL⟩ : ∃ L, cs.toList = L := ⟨_, rfl⟩
  rw [hL] at hg hcl
  have g0 := hg 0 f0 rfl
  have g1 := hg 1 f1 rfl
  have g2 := hg 2 f2 rfl
  have g3 := hg 3 f3 rfl
  have g4 := hg 4 f4 rfl
  rw [t0, o0, c2, List.getElem?_eq_getElem (by omega)] at g0
  rw [t1, o1, c2, List.getElem?_eq_getElem (by omega)] at g1
  rw [t2, o2, c1, List.getElem?_eq_getElem (by omega)] at g2
  rw [t3, o3, c64, List.getElem?_eq_getElem (by omega)] at g3
  rw [t4, o4, c32, List.getElem?_eq_getElem (by omega)] at g4
  obtain ⟨s0, u0, q0⟩ := arr_two Tryz.underlying38 Tryz.underlying9 c1 c2 g0
  obtain ⟨s1, u1, q1⟩ := arr_two Tryz.underlying38 Tryz.underlying9 c1 c2 g1
  have q2 : (L.drop 4).take 1 = [L[4]'(by omega)] := by rw [List.drop_eq_getElem_cons (by omega)]; rfl
  rw [q2] at g2
  obtain ⟨sh, h2, _⟩ := open_str1 Tryz.underlying9 (show Reads enc Tryz.prog W 9 _ from ⟨n, _, g2⟩)
  rw [h2] at q2
  obtain ⟨ys, m, _, _, _, hylen, hy⟩ := DataW.trod_array Tryz.underlying33 g3
  have k0 := hy 0 (by decide)
  have k1 := hy 1 (by decide)
  rw [c32, List.getElem?_eq_getElem (by omega)] at k0
  rw [c32, List.getElem?_eq_getElem (by omega)] at k1
  obtain ⟨la, qa, ha⟩ := arr_bytes Tryz.underlying22 Tryz.underlying5 cu c32 k0
  obtain ⟨lb, qb, hb⟩ := arr_bytes Tryz.underlying22 Tryz.underlying5 cu c32 k1
  obtain ⟨lc, qc, hc⟩ := arr_bytes Tryz.underlying22 Tryz.underlying5 cu c32 g4
  refine ⟨⟨s0, u0, s1, u1, sh⟩, la, lb, lc, ?_, ha, hb, hc⟩
  refine congrArg Value.agg (Array.toList_inj.1 ?_)
  rw [hL]
  have qa' : (L.drop 5).take 32 = Lib.byteCells la := by
    rw [← qa, Nat.zero_mul, List.drop_zero, List.take_take]; rfl
  have qb' : (L.drop 37).take 32 = Lib.byteCells lb := by
    rw [← qb, Nat.one_mul, List.drop_take, List.drop_drop, List.take_take]; rfl
  have e : L = (L.drop 0).take 2 ++ ((L.drop 2).take 2 ++ ((L.drop 4).take 1 ++ ((L.drop 5).take 32 ++ ((L.drop 37).take 32 ++ ((L.drop 69).take 32 ++ L.drop 101))))) := by
    rw [← cut_off L 69 32, ← cut_off L 37 32, ← cut_off L 5 32, ← cut_off L 4 1, ← cut_off L 2 2, ← cut_off L 0 2, List.drop_zero]
  rw [e, q0, q1, q2, qa', qb', qc, List.drop_of_length_le (by omega)]
  simp [Xc.t, bv, Lib.byteCells]
end Go.Proofs.YtfaeigbfnjkojaaGreatDoor.Kx
