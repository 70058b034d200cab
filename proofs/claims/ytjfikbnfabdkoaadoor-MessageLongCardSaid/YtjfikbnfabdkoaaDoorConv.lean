/- Bytes and strings: conversions, whole arrays of bytes. -/
import Derived.Test.YtjfikbnfabdkoaaDoorCells
import Derived.Test.YtjfikbnfabdkoaaDoorRegion
import Derived.Lib.ConvBytes
import Derived.Lib.UnsafeStr
import Derived.Laws.BytesArg
set_option linter.unusedVariables false
set_option linter.unusedSimpArgs false
namespace Go.Proofs.YtjfikbnfabdkoaaDoor.Cv
open Go.RowKit
variable {P : Program}
/-- bytes as cells -/
@[irreducible] def bytesV (l : List UInt8) : Array Value := (Lib.byteCells l).toArray
theorem bytesV_size (l : List UInt8) : (bytesV l).size = l.length := by unfold bytesV; simp [Lib.byteCells]
theorem bytesV_get (l : List UInt8) (j : Nat) (b : UInt8) (h : l[j]? = some b) : (bytesV l)[j]? = some (.int .u8 b.toNat) := by
  unfold bytesV; simp [Lib.byteCells, h]
theorem bytesV_one (l : List UInt8) : (bytesV l).all (·.oneCell') = true := by unfold bytesV; simp [Lib.byteCells, Value.oneCell']
/-- at block b, from off on, the bytes l -/
def Bytes (w : World) (b off : Nat) (l : List UInt8) : Prop := ∀ j x, l[j]? = some x → w.cell? ⟨b, off + j, none⟩ = some (.int .u8 x.toNat)
theorem Bytes.of_blk {w : World} {b T : Nat} {l : List UInt8} (h : Rg.Blk w b T (bytesV l)) : Bytes w b 0 l := fun j x hx => by
  rw [Nat.zero_add]; exact h.cell j (bytesV_get l j x hx)
theorem Bytes.below {w w' : World} {b off B : Nat} {l : List UInt8} (h : Bytes w b off l) (hb : Below B w w') (hB : b < B) : Bytes w' b off l := fun j x hx =>
  (hb.cell (p := ⟨b, off + j, none⟩) hB).trans (h j x hx)
theorem bytesWorld_below (w : World) (e : TypeId) (s : ByteArray) : Below w.heap.size w (Lib.bytesWorld w e s) := by
  refine ⟨?_, ?_, ?_, by rw [Lib.bytesWorld_size]; omega, fun k hk => Lib.bytesWorld_at_old w e s k hk⟩ <;>
    · unfold Lib.bytesWorld World.freeze; split <;> rfl
/-- []byte(s): the world behind it has a name -/
theorem conv_bytes {ops : Array Oper} {rest : List Oper} {o : Oper} {a : Act} {w : World} {Q : Exit → Act → World → Prop} (hgd : o.guard = none) (src dst e : TypeId) (x : Operand) (ho : o.op = .convert src dst x)
    {s : ByteArray} (hx : a.eval x = .string s) {u : TypeDesc} (hs : P.underlying src = some u) (hd : P.underlying dst = some (.slice e)) (he : P.underlying e = some (.int .u8))
    (h : ∀ X cap, Bytes X w.heap.size 0 s.data.toList → (∀ j, j < s.size → X.frozen? ⟨w.heap.size, j, none⟩ = false) → Below w.heap.size w X → X.heap.size = w.heap.size + 1 → s.size ≤ cap →
      wpList P ops Q rest (a.put o.dst (.slice (some ⟨w.heap.size, 0, none⟩) s.size cap)) X) : wpList P ops Q (o :: rest) a w :=
  wpList_plain hgd fun _ hK => by
    unfold Oper.wp execOp
    simp only [ho, hx, Sem.run_bind, Lib.run_convert_string_bytes w src dst e s hs hd he, Result.andThen_ok, Sem.run_pure]
    have hcap : s.size ≤ grownCap w s.size 0 e := by unfold grownCap; simp [Question.cut]
    refine hK _ _ (h (Lib.bytesWorld w e s) _ ?_ ?_ (bytesWorld_below w e s) (Lib.bytesWorld_size w e s) hcap)
    · intro j b hb
      have hj : j < s.data.toList.length := (List.getElem?_eq_some_iff.1 hb).1
      rw [Nat.zero_add, Lib.bytesWorld_cell w e s j (by simpa using hj), List.getD_eq_getElem?_getD, hb]; rfl
    · intro j hj
      have hb := Lib.bytesWorld_at_new w e s
      have hsz : s.size ≤ (Lib.bytesCells w e s).size := by unfold Lib.bytesCells; rw [Array.size_append, Array.size_map]; show s.data.size ≤ _; omega
      simp [World.frozen?, hb]
      omega
/-- an array loaded whole, its cells known one by one -/
theorem run_loadVar_cells (w : World) (b off : Nat) (ty : TypeId) (cs : Array Value) (d : TypeDesc) (hc : ∀ j v, cs[j]? = some v → w.cell? ⟨b, off + j, none⟩ = some v)
    (hu : P.underlying ty = some d) (hd : (match d with | .struct _ | .array _ _ => true | _ => false) = true) (hi : (P.info? ty).map (·.size) = some cs.size) :
    (loadVar ty ⟨b, off, none⟩).run P w = .ok (.agg cs) w := by
  have hl : (loadCells ⟨b, off, none⟩ cs.toList.length).run P w = .ok cs.toList.toArray w :=
    run_loadCells_list (P := P) w ⟨b, off, none⟩ cs.toList (fun j v hv => by
      have hadd : (⟨b, off, none⟩ : Addr).add j = ⟨b, off + j, none⟩ := by unfold Addr.add; split <;> simp_all
      rw [hadd]; exact hc j v (by simpa using hv))
  cases hq : P.info? ty with
  | none => simp [hq] at hi
  | some i =>
    have hs : i.size = cs.size := by simpa [hq] using hi
    have hagg : (isAgg ty).run P w = .ok true w := by
      unfold isAgg
      rw [Sem.run_bind, run_underlying hu w]
      cases d <;> simp_all
    simp only [Array.length_toList, Array.toArray_toList] at hl
    simp [loadVar, Sem.run_bind, hagg, sizeOf, typeInfo, hq, hs, hl]
theorem load_cells {ops : Array Oper} {rest : List Oper} {o : Oper} {a : Act} {w : World} {Q : Exit → Act → World → Prop} (hgd : o.guard = none) (ty : TypeId) (x : Operand) (ho : o.op = .load ty x)
    (b off : Nat) (hx : a.eval x = .pointer (some ⟨b, off, none⟩)) (cs : Array Value) (d : TypeDesc) (hc : ∀ j v, cs[j]? = some v → w.cell? ⟨b, off + j, none⟩ = some v)
    (hu : P.underlying ty = some d) (hd : (match d with | .struct _ | .array _ _ => true | _ => false) = true) (hi : (P.info? ty).map (·.size) = some cs.size)
    (h : wpList P ops Q rest (a.put o.dst (.agg cs)) w) : wpList P ops Q (o :: rest) a w :=
  wpList_plain hgd fun _ hK => by
    unfold Oper.wp execOp
    simp only [ho, hx, Instr.loadAt, Instr.sureAddr, Sem.run_bind, Sem.run_pure, Result.andThen_ok, run_loadVar_cells w b off ty cs d hc hu hd hi]
    exact hK _ _ h
theorem Bytes.cells {w : World} {b off : Nat} {l : List UInt8} (h : Bytes w b off l) : ∀ j v, (bytesV l)[j]? = some v → w.cell? ⟨b, off + j, none⟩ = some v := by
  intro j v hv
  unfold bytesV Lib.byteCells at hv
  simp only [List.getElem?_toArray, List.getElem?_map, Option.map_eq_some_iff] at hv
  obtain ⟨x, hx, rfl⟩ := hv
  exact h j x hx
/-- an array stored whole into a block that lies there: the world behind it has a name -/
theorem store_blk {ops : Array Oper} {rest : List Oper} {o : Oper} {a : Act} {w : World} {Q : Exit → Act → World → Prop} (hgd : o.guard = none) (ty : TypeId) (x y : Operand) (ho : o.op = .store ty x y)
    (b : Nat) (cs old : Array Value) (T : TypeId) (hx : a.eval x = .pointer (some ⟨b, 0, none⟩)) (hy : a.eval y = .agg cs) (hB : Rg.Blk w b T old)
    (hi : (P.info? ty).map (·.size) = some cs.size) (hold : old.size = cs.size) (h1 : cs.all (·.oneCell') = true)
    (h : ∀ X, Rg.Blk X b T cs → w.grownBy X (some b) → wpList P ops Q rest (a.put o.dst undef) X) : wpList P ops Q (o :: rest) a w :=
  wpList_store_row hgd ty x y ho b cs hx hy T old hB hi hold h1
    (h _ hB.setRow ⟨rfl, rfl, rfl, by simp, fun k _ hk => setRow_other w b k cs (fun e => hk (congrArg some e))⟩)
/-- [n]T(s): the array's address is the slice's -/
theorem slice_to_array {ops : Array Oper} {rest : List Oper} {o : Oper} {a : Act} {w : World} {Q : Exit → Act → World → Prop} (hgd : o.guard = none) (arr e : TypeId) (n : Nat) (x : Operand) (ho : o.op = .sliceToArrayPointer arr x)
    (b off len cap : Nat) (hx : a.eval x = .slice (some ⟨b, off, none⟩) len cap) (hu : P.underlying arr = some (.array n e)) (hl : n ≤ len)
    (h : wpList P ops Q rest (a.put o.dst (.pointer (some ⟨b, off, none⟩))) w) : wpList P ops Q (o :: rest) a w :=
  wpList_plain hgd fun _ hK => by
    unfold Oper.wp execOp
    simp only [ho, hx]
    unfold Instr.arrayAt
    simp only [Sem.run_bind, run_underlying hu w, Result.andThen_ok, if_neg (show ¬ len < n by omega), Sem.run_pure]
    exact hK _ _ h
/-- string(b) -/
theorem run_string_bytes (w : World) (src e dst : TypeId) (hs : P.underlying src = some (.slice e)) (he : P.underlying e = some (.int .u8)) (hd : P.underlying dst = some .string)
    (b off cap : Nat) (l : List UInt8) (h : Bytes w b off l) : (convert src dst (.slice (some ⟨b, off, none⟩) l.length cap)).run P w = .ok (.string ⟨l.toArray⟩) w := by
  have := run_convert_bytes_arg (P := P) (w := w) src e hs he b off l.length cap (l.map fun x => (x.toNat : Int)) (by simp) (fun i hi => by
    rw [h i l[i] (List.getElem?_eq_getElem hi)]; simp [hi]) dst hd
  rw [this]
  congr 2
  simp only [strOfNums, List.map_map]
  congr 1
  have : ((fun n : Int => UInt8.ofNat n.toNat) ∘ fun x : UInt8 => (x.toNat : Int)) = id := by funext x; simp
  rw [this, List.map_id]
theorem run_string_len (w : World) (src e dst : TypeId) (hs : P.underlying src = some (.slice e)) (he : P.underlying e = some (.int .u8)) (hd : P.underlying dst = some .string)
    (b off len cap : Nat) (l : List UInt8) (hl : l.length = len) (h : Bytes w b off l) : (convert src dst (.slice (some ⟨b, off, none⟩) len cap)).run P w = .ok (.string ⟨l.toArray⟩) w :=
  hl ▸ run_string_bytes w src e dst hs he hd b off cap l h
theorem conv_string {ops : Array Oper} {rest : List Oper} {o : Oper} {a : Act} {w : World} {Q : Exit → Act → World → Prop} (hgd : o.guard = none) (src e dst : TypeId) (x : Operand) (ho : o.op = .convert src dst x)
    (hs : P.underlying src = some (.slice e)) (he : P.underlying e = some (.int .u8)) (hd : P.underlying dst = some .string) (b off len cap : Nat) (l : List UInt8)
    (hx : a.eval x = .slice (some ⟨b, off, none⟩) len cap) (hl : l.length = len) (hB : Bytes w b off l)
    (h : wpList P ops Q rest (a.put o.dst (.string ⟨l.toArray⟩)) w) : wpList P ops Q (o :: rest) a w :=
  wpList_plain hgd fun _ hK => by
    subst hl
    unfold Oper.wp execOp
    simp only [ho, hx, Sem.run_bind, run_string_bytes w src e dst hs he hd b off cap l hB, Result.andThen_ok, Sem.run_pure]
    exact hK _ _ h
theorem one_byte (w : World) (T : TypeId) (v : Int) (b : UInt8) (hv : v = b.toNat) : Bytes (w.alloc (.cells #[.int .u8 v] T)) w.heap.size 0 [b] := by
  intro j x hj
  match j, hj with
  | 0, hj =>
    simp at hj
    subst hj hv
    exact (Rg.Blk.new w _ _).cell 0 rfl
end Go.Proofs.YtjfikbnfabdkoaaDoor.Cv
