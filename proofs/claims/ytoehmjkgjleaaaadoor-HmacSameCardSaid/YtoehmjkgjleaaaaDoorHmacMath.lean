/- Sums with a key: plain mathematics; copy and store of bytes. -/
import Derived.Test.YtoehmjkgjleaaaaDoorLawShaParts
import Derived.Lib.BufferWrite
set_option linter.unusedVariables false
set_option linter.unusedSimpArgs false
namespace Go.Proofs.YtoehmjkgjleaaaaDoor.Sha
open Go.RowKit Go.Proofs.YtoehmjkgjleaaaaDoor.Cl Go.Proofs.YtoehmjkgjleaaaaDoor.Cv Go.Proofs.YtoehmjkgjleaaaaDoor.Ow
variable {P : Program}
/-- copy(d, t) of a string that fits, into a block known whole -/
theorem copy_str {ops : Array Oper} {rest : List Oper} {o : Oper} {a : Act} {w : World} {Q : Exit → Act → World → Prop} (hgd : o.guard = none) (d s : Operand) (dT sT e : TypeId)
    (ho : o.op = .call { callee := .builtin .copy, args := #[d, s], argTypes := #[dT, sT] }) (b dLen dCap : Nat) (t : ByteArray) (cs : Array Value) (T : TypeId) (hd : a.eval d = .slice (some ⟨b, 0, none⟩) dLen dCap) (hs : a.eval s = .string t)
    (hu : P.underlying dT = some (.slice e)) (hi : (P.info? e).map (·.size) = some 1) (hB : Rg.Blk w b T cs) (hle : t.size ≤ dLen) (hfit : t.size ≤ cs.size)
    (h : ∀ X, Rg.Blk X b T (bv t.data.toList ++ cs.toList.drop t.size).toArray → w.grownBy X (some b) → wpList P ops Q rest (a.put o.dst (.int .i64 t.size)) X) : wpList P ops Q (o :: rest) a w :=
  wpList_plain hgd fun _ hK => by
    have hr := Lib.run_copy_row_string (P := P) w dT sT o.type e b 0 dLen dCap t cs T hu hi hB hle (by omega)
    unfold Oper.wp execOp
    simp only [ho, resolve, invoke, builtin, Sem.run_bind, Sem.run_pure, Result.andThen_ok, List.map_toArray, List.map_cons, List.map_nil, hd, hs, hr]
    refine hK _ _ (h _ ?_ ⟨rfl, rfl, rfl, by simp, fun k _ hk => setRow_other w b k _ (fun e => hk (congrArg some e))⟩)
    have := hB.setRow (cs := ((cs.toList.take 0 ++ Lib.byteCells t.data.toList ++ cs.toList.drop (0 + t.size)).toArray))
    simpa [bv] using this
theorem bytesV_bv (l : List UInt8) : bytesV l = (bv l).toArray := by unfold bytesV bv; rfl
theorem bytesV_set (l : List UInt8) (j : Nat) (v : UInt8) : (bytesV l).setIfInBounds j (.int .u8 (v.toNat : Int)) = bytesV (l.set j v) := by
  unfold bytesV
  simp [Lib.byteCells, List.map_set]
/-- a byte stored into a block of bytes: the world behind it has a name -/
theorem store_byte {ops : Array Oper} {rest : List Oper} {o : Oper} {a : Act} {w : World} {Q : Exit → Act → World → Prop} (hgd : o.guard = none) (ty : TypeId) (x y : Operand) (ho : o.op = .store ty x y)
    {b j T : Nat} {l : List UInt8} {v : UInt8} (hx : a.eval x = .pointer (some ⟨b, j, none⟩)) (hy : a.eval y = .int .u8 (v.toNat : Int)) (hu : P.underlying ty = some (.int .u8)) (hi : (P.info? ty).map (·.size) = some 1) (hR : Rg.Blk w b T (bytesV l)) (hj : j < l.length)
    (h : ∀ w', Rg.Blk w' b T (bytesV (l.set j v)) → w.grownBy w' (some b) → wpList P ops Q rest (a.put o.dst undef) w') : wpList P ops Q (o :: rest) a w :=
  wpList_plain hgd fun _ hK => by
    have hx' := hx
    have hy' := hy
    have hc := hR.cell j (bytesV_get l j l[j] (List.getElem?_eq_getElem hj))
    have hf := hR.frozen j
    simp [go_sem] at hx' hy'
    unfold Oper.wp execOp
    cases hq : P.info? ty with
    | none => simp [hq] at hi
    | some i =>
    have hs : i.size = 1 := by simpa [hq] using hi
    simp [ho, hx', hy', go_sem, hc, hf, hu, sizeOf, typeInfo, hq, hs]
    have hB : Rg.Blk (w.setCell ⟨b, j, none⟩ (.int .u8 (v.toNat : Int))) b T (bytesV (l.set j v)) := by
      have h2 := hR
      unfold Rg.Blk at *
      rw [heap_setCell_same w b j _ _ _ h2, bytesV_set]
    have := hK _ _ (h _ hB (grown_setCell w b j _))
    simpa [go_sem] using this
theorem xor_u8 (x y : UInt8) : bits .xor .u8 (x.toNat : Int) (y.toNat : Int) = (((x ^^^ y).toNat : Nat) : Int) := by
  rw [u8_xor_nat _ _ x.toNat_lt y.toNat_lt, UInt8.toNat_xor]
def mkS (l : List UInt8) : ByteArray := ⟨l.toArray⟩
theorem mkS_list (l : List UInt8) : (mkS l).data.toList = l := rfl
theorem mkS_size (l : List UInt8) : (mkS l).size = l.length := List.size_toArray
theorem mkS_of (s : ByteArray) : mkS s.data.toList = s := by apply ByteArray.ext; apply Array.toList_inj.1; rfl
theorem mkS_append (a b : List UInt8) : mkS a ++ mkS b = mkS (a ++ b) := by apply ByteArray.ext; apply Array.toList_inj.1; simp [mkS]
/-- the key's block, before it is xored -/
@[irreducible] def keyB (key : List UInt8) : List UInt8 := if 64 < key.length then sha 32 key else key
theorem keyB_length (key : List UInt8) : (keyB key).length ≤ 64 := by
  unfold keyB; split
  · rw [sha_length 32 (by decide)]; decide
  · omega
def fill64 (l : List UInt8) : List UInt8 := (List.range 64).map fun i => l.getD i 0
theorem fill64_length (l : List UInt8) : (fill64 l).length = 64 := by simp [fill64]
@[irreducible] def padL (key : List UInt8) (b : UInt8) : List UInt8 := (fill64 (keyB key)).map (· ^^^ b)
theorem padL_length (key : List UInt8) (b : UInt8) : (padL key b).length = 64 := by unfold padL; rw [List.length_map, fill64_length]
/-- the first j xored -/
def xorTo (l : List UInt8) (b : UInt8) (j : Nat) : List UInt8 := (l.take j).map (· ^^^ b) ++ l.drop j
theorem xorTo_length (l : List UInt8) (b : UInt8) (j : Nat) : (xorTo l b j).length = l.length := by
  simp [xorTo]; omega
theorem xorTo_get (l : List UInt8) (b : UInt8) (j : Nat) (hj : j < l.length) : (xorTo l b j)[j]? = some l[j] := by
  unfold xorTo
  rw [List.getElem?_append_right (by simp; omega)]
  simp [Nat.min_eq_left (Nat.le_of_lt hj)]
theorem xorTo_set (l : List UInt8) (b : UInt8) (j : Nat) (hj : j < l.length) : (xorTo l b j).set j (l[j] ^^^ b) = xorTo l b (j + 1) := by
  unfold xorTo
  have hl : ((l.take j).map (· ^^^ b)).length = j := by simp; omega
  rw [List.set_append_right _ _ (by omega), hl, Nat.sub_self, List.drop_eq_getElem_cons hj, List.set_cons_zero, List.take_succ_eq_append_getElem hj, List.map_append, List.append_assoc]
  rfl
theorem xorTo_all (l : List UInt8) (b : UInt8) (n : Nat) (h : l.length = n) : xorTo l b n = l.map (· ^^^ b) := by
  subst h; simp [xorTo]
theorem fill64_cells (l : List UInt8) (h : l.length ≤ 64) : (bv l ++ (List.replicate 64 (Value.int .u8 0)).drop l.length).toArray = bytesV (fill64 l) := by
  rw [bytesV_bv]
  congr 1
  apply List.ext_getElem
  · simp [bv_length, bv, Lib.byteCells, fill64]; omega
  · intro i h1 h2
    have hi : i < 64 := by simpa [bv_length, fill64_length] using h2
    by_cases hl : i < l.length
    · rw [List.getElem_append_left (by rw [bv_length]; exact hl)]
      simp [bv, Lib.byteCells, fill64, hl]
    · rw [List.getElem_append_right (by rw [bv_length]; omega), List.getElem_drop, List.getElem_replicate]
      simp [bv, Lib.byteCells, fill64, hl]
@[irreducible] def hmacL (key msg : List UInt8) : List UInt8 := sha 32 (padL key 92 ++ sha 32 (padL key 54 ++ msg))
theorem hmacL_length (key msg : List UInt8) : (hmacL key msg).length = 32 := by unfold hmacL; rw [sha_length 32 (by decide)]
end Go.Proofs.YtoehmjkgjleaaaaDoor.Sha
