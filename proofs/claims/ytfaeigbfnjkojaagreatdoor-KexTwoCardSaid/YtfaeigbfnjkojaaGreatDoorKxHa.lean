/- An Exchange in memory; Few. -/
import Derived.Test.YtfaeigbfnjkojaaGreatDoorKxKey
set_option linter.unusedVariables false
set_option linter.unusedSimpArgs false
namespace Go.Proofs.YtfaeigbfnjkojaaGreatDoor.RL
open Go.RowKit
end Go.Proofs.YtfaeigbfnjkojaaGreatDoor.RL
namespace Go.Proofs.YtfaeigbfnjkojaaGreatDoor.Kx
open Go.RowKit Go.Proofs.YtfaeigbfnjkojaaGreatDoor.Cl
/-- five texts, and what an Exchange has of bytes -/
structure Xc where
  a : ByteArray
  b : ByteArray
  c : ByteArray
  d : ByteArray
  h : ByteArray
def Xc.t (x : Xc) : List Value := [.string x.a, .string x.b, .string x.c, .string x.d, .string x.h]
@[irreducible] def exV (x : Xc) (p : List UInt8) : Array Value := (x.t ++ Lib.byteCells p).toArray
theorem exV_eq (x : Xc) (p : List UInt8) : exV x p = (x.t ++ Lib.byteCells p).toArray := by unfold exV; rfl
theorem exV_size (x : Xc) (p : List UInt8) : (exV x p).size = 5 + p.length := by rw [exV_eq]; simp [Xc.t, Lib.byteCells]; omega
theorem exV_one (x : Xc) (p : List UInt8) : (exV x p).all (·.oneCell') = true := by rw [exV_eq]; simp [Xc.t, Lib.byteCells, Value.oneCell']
theorem exV_0 (x : Xc) (p : List UInt8) : (exV x p)[0]? = some (.string x.a) := by rw [exV_eq]; rfl
theorem exV_1 (x : Xc) (p : List UInt8) : (exV x p)[1]? = some (.string x.b) := by rw [exV_eq]; rfl
theorem exV_2 (x : Xc) (p : List UInt8) : (exV x p)[2]? = some (.string x.c) := by rw [exV_eq]; rfl
theorem exV_3 (x : Xc) (p : List UInt8) : (exV x p)[3]? = some (.string x.d) := by rw [exV_eq]; rfl
theorem exV_4 (x : Xc) (p : List UInt8) : (exV x p)[4]? = some (.string x.h) := by rw [exV_eq]; rfl
theorem exV_s0 (x : Xc) (p : List UInt8) (v : ByteArray) : (exV x p).setIfInBounds 0 (.string v) = exV {x with a := v} p := by rw [exV_eq, exV_eq]; simp [Xc.t]
theorem exV_s1 (x : Xc) (p : List UInt8) (v : ByteArray) : (exV x p).setIfInBounds 1 (.string v) = exV {x with b := v} p := by rw [exV_eq, exV_eq]; simp [Xc.t]
theorem exV_s2 (x : Xc) (p : List UInt8) (v : ByteArray) : (exV x p).setIfInBounds 2 (.string v) = exV {x with c := v} p := by rw [exV_eq, exV_eq]; simp [Xc.t]
theorem exV_s3 (x : Xc) (p : List UInt8) (v : ByteArray) : (exV x p).setIfInBounds 3 (.string v) = exV {x with d := v} p := by rw [exV_eq, exV_eq]; simp [Xc.t]
theorem exV_s4 (x : Xc) (p : List UInt8) (v : ByteArray) : (exV x p).setIfInBounds 4 (.string v) = exV {x with h := v} p := by rw [exV_eq, exV_eq]; simp [Xc.t]
theorem exV_bytes {w : World} {b T : Nat} {x : Xc} {p : List UInt8} (h : Rg.Blk w b T (exV x p)) : Cv.Bytes w b 5 p := fun j y hy => by
  refine h.cell (5 + j) ?_
  rw [exV_eq, show 5 + j = j + 1 + 1 + 1 + 1 + 1 by omega]
  simp [Xc.t, Lib.byteCells, hy]
theorem bytes_drop {w : World} {b o n : Nat} {p q : List UInt8} (h : Cv.Bytes w b o (p ++ q)) (hn : o + p.length = n) : Cv.Bytes w b n q := fun j y hy => by
  have := h (p.length + j) y (by rw [List.getElem?_append_right (by omega), Nat.add_sub_cancel_left]; exact hy)
  rwa [← Nat.add_assoc, hn] at this
theorem bytes_take {w : World} {b o : Nat} {p q : List UInt8} (h : Cv.Bytes w b o (p ++ q)) : Cv.Bytes w b o p := fun j y hy =>
  h j y (by rw [List.getElem?_append_left (List.getElem?_eq_some_iff.1 hy).1]; exact hy)
/-- a string cell stored into a block known whole, in a region -/
theorem store_str_op {P : Program} {o : Oper} {a : Act} {w : World} {K : Act → World → Prop} {Q : Exit → Act → World → Prop} (ty : TypeId) (x y : Operand) (ho : o.op = .store ty x y)
    (b j : Nat) (s : ByteArray) (cs : Array Value) (T : TypeId) (hx : a.eval x = .pointer (some ⟨b, j, none⟩)) (hy : a.eval y = .string s) (hu : P.underlying ty = some .string) (hi : (P.info? ty).map (·.size) = some 1) (hB : Rg.Blk w b T cs) {old : Value} (hj : cs[j]? = some old)
    (h : ∀ X, Rg.Blk X b T (cs.setIfInBounds j (.string s)) → w.grownBy X (some b) → K (a.put o.dst undef) X) : Oper.wp P o a w K Q := by
  have hx' := hx
  have hy' := hy
  have hc := hB.cell j hj
  have hf := hB.frozen j
  simp [go_sem] at hx' hy'
  unfold Oper.wp execOp
  cases hq : P.info? ty with
  | none => simp [hq] at hi
  | some i =>
  have hs : i.size = 1 := by simpa [hq] using hi
  simp [ho, hx', hy', go_sem, hc, hf, hu, sizeOf, typeInfo, hq, hs]
  have hB2 : Rg.Blk (w.setCell ⟨b, j, none⟩ (.string s)) b T (cs.setIfInBounds j (.string s)) := by
    have h2 := hB
    unfold Rg.Blk at *
    rw [heap_setCell_same w b j _ _ _ h2]
  have := h _ hB2 (grown_setCell w b j _)
  simpa [go_sem] using this
/-- what Few leaves of texts -/
def Xc.few (x : Xc) : Xc := ⟨x.a.extract 0 60, x.b.extract 0 60, x.c.extract 0 100, x.d.extract 0 100, x.h.extract 0 60⟩
end Go.Proofs.YtfaeigbfnjkojaaGreatDoor.Kx
