/- A block of words in memory. -/
import Derived.WalkKit
set_option linter.unusedVariables false
set_option linter.unusedSimpArgs false
namespace Go.Proofs.YtjfikbnfabdkoaaDoor.Cl
open Go.RowKit
/-- the i-th number, 0 beyond the end: under a name that simp does not open -/
def nth (l : List Nat) (i : Nat) : Nat := l.getD i 0
theorem nth_getD (l : List Nat) (i : Nat) : nth l i = l.getD i 0 := rfl
def u64s (xs : List Nat) : Array Value := (xs.map fun (x : Nat) => Value.int .u64 (x : Int)).toArray
theorem u64s_one (xs : List Nat) : (u64s xs).all (·.oneCell') = true := by
  simp [u64s, Value.oneCell']
/-- block b holds the words xs -/
def Row (w : World) (b T : Nat) (xs : List Nat) : Prop := w.heap[b]? = some (.cells (u64s xs) T (0, 0))
theorem Row.cell {w : World} {b T : Nat} {xs : List Nat} (h : Row w b T xs) (j : Nat) (hj : j < xs.length) : w.cell? ⟨b, j, none⟩ = some (.int .u64 (nth xs j : Nat)) := by
  rw [cell_of_row w b j _ _ _ h]
  simp [u64s, nth, List.getElem?_eq_getElem hj]
theorem Row.frozen {w : World} {b T : Nat} {xs : List Nat} (h : Row w b T xs) (j : Nat) : w.frozen? ⟨b, j, none⟩ = false := frozen_of_row w b j _ _ h
theorem Row.store {w : World} {b T : Nat} {xs : List Nat} (h : Row w b T xs) (j v : Nat) : Row (w.setCell ⟨b, j, none⟩ (.int .u64 (v : Int))) b T (xs.set j v) := by
  unfold Row at *
  rw [heap_setCell_same w b j _ _ _ h]
  simp [u64s, nth, List.map_set]
theorem Row.storeI {w : World} {b T : Nat} {xs : List Nat} (h : Row w b T xs) (j v : Nat) {z : Int} (hz : z = v) : Row (w.setCell ⟨b, j, none⟩ (.int .u64 z)) b T (xs.set j v) := hz ▸ h.store j v
theorem Row.below {w w' : World} {b T B : Nat} {xs : List Nat} (h : Row w b T xs) (hb : Below B w w') (hB : b < B) : Row w' b T xs := by
  unfold Row at *
  rw [hb.block b hB]; exact h
theorem Row.lt {w : World} {b T : Nat} {xs : List Nat} (h : Row w b T xs) : b < w.heap.size := (Array.getElem?_eq_some_iff.1 h).1
theorem grown_setCell (w : World) (b j : Nat) (v : Value) : w.grownBy (w.setCell ⟨b, j, none⟩ v) (some b) :=
  ⟨rfl, rfl, rfl, by simp [World.setCell], fun k _ hk => heap_setCell_other w ⟨b, j, none⟩ k v (fun e => hk (congrArg some e))⟩
/-- a word stored into a block of words: the world behind it has a name -/
theorem store_cell {P : Program} {ops : Array Oper} {rest : List Oper} {o : Oper} {a : Act} {w : World} {Q : Exit → Act → World → Prop} (hgd : o.guard = none) (ty : TypeId) (x y : Operand) (ho : o.op = .store ty x y)
    {b j T v : Nat} {xs : List Nat} (hx : a.eval x = .pointer (some ⟨b, j, none⟩)) (hy : a.eval y = .int .u64 (v : Int)) (hu : P.underlying ty = some (.int .u64)) (hi : (P.info? ty).map (·.size) = some 1) (hR : Row w b T xs) (hj : j < xs.length)
    (h : ∀ w', Row w' b T (xs.set j v) → w.grownBy w' (some b) → wpList P ops Q rest (a.put o.dst undef) w') : wpList P ops Q (o :: rest) a w :=
  wpList_plain hgd fun _ hK => by
    have hx' := hx
    have hy' := hy
    have hc := hR.cell j hj
    have hf := hR.frozen j
    simp [go_sem] at hx' hy'
    unfold Oper.wp execOp
    cases hq : P.info? ty with
    | none => simp [hq] at hi
    | some i =>
    have hs : i.size = 1 := by simpa [hq] using hi
    simp [ho, hx', hy', go_sem, hc, hf, hu, sizeOf, typeInfo, hq, hs]
    have := hK _ _ (h _ (hR.store j v) (grown_setCell w b j _))
    simpa [go_sem] using this
end Go.Proofs.YtjfikbnfabdkoaaDoor.Cl
