/- Maps whose elements are taken as they are: a function from keys to values. -/
import Derived.Test.YtfcemnebhapidaaDoorGenA
import Derived.Test.YtfcemnebhapidaaDoorBytesEq
import Derived.Maps.OwnSet
import Derived.Maps.RangeWalk
import Derived.Sort.KeysCollected
import Derived.DeepKeys5
set_option linter.unusedVariables false
set_option linter.unusedSimpArgs false
namespace Go.Proofs.YtfcemnebhapidaaDoor.Mp
open Go.RowKit Go.Maps
/-- an element as it is -/
def raw : Value → Option (DataW Value × List MemPlace) := fun v => some (.held v, [])
/-- block b is a map of at most n entries, s in number; f: what stands at a key -/
def RMap (P : Program) (w : World) (k : TypeId) (b n : Nat) (f : Lit → Option Value) (s : Nat) : Prop :=
  ∃ D : DataW Value, w.ownsMap P k raw b n D ∧ Maps.size D = s ∧ ∀ kl, (f kl = none ∧ Maps.has D kl = false) ∨ ∃ v, f kl = some v ∧ Maps.has D kl = true ∧ ∀ z, D.atKey kl z = .held v
section
variable {P : Program} {w w' : World} {k t e : TypeId} {b n s : Nat} {f : Lit → Option Value}
theorem RMap.made (w : World) (P : Program) (k : TypeId) : RMap P (w.alloc (.map #[] 0)) k w.heap.size 0 (fun _ => none) 0 :=
  ⟨.map [], World.ownsMap_made w P k raw, rfl, fun _ => .inl ⟨rfl, rfl⟩⟩
theorem RMap.lt (h : RMap P w k b n f s) : b < w.heap.size := by obtain ⟨D, h, _⟩ := h; exact h.lt
theorem RMap.le (h : RMap P w k b n f s) : s ≤ n := by obtain ⟨D, h, rfl, _⟩ := h; exact h.size_le
theorem RMap.ext {g : Lit → Option Value} (h : RMap P w k b n f s) (hg : ∀ x, g x = f x) : RMap P w k b n g s := by
  obtain ⟨D, h1, h2, h3⟩ := h
  exact ⟨D, h1, h2, fun kl => by rw [hg]; exact h3 kl⟩
theorem RMap.mono (h : RMap P w k b n f s) {n' : Nat} (hn : n ≤ n') : RMap P w k b n' f s := by
  obtain ⟨D, h1, h2⟩ := h
  exact ⟨D, h1.mono hn, h2⟩
theorem RMap.keep (h : RMap P w k b n f s) (hk : w'.heap[b]? = w.heap[b]?) : RMap P w' k b n f s := by
  obtain ⟨D, ⟨es, clock, hb, F, hs, hD⟩, h2⟩ := h
  exact ⟨D, ⟨es, clock, hk.trans hb, F, hs, hD⟩, h2⟩
theorem RMap.below (h : RMap P w k b n f s) {B : Nat} (hb : Below B w w') (hB : b < B) : RMap P w' k b n f s := h.keep (hb.block b hB)
/-- a map's block is no row of cells -/
theorem RMap.ne (h : RMap P w k b n f s) {g T : Nat} {cs : Array Value} {fz : Nat × Nat} (hg : w.heap[g]? = some (.cells cs T fz)) : g ≠ b := by
  rintro rfl
  obtain ⟨D, ⟨es, clock, hb, _⟩, _⟩ := h
  rw [hb] at hg
  cases hg
theorem RMap.look (h : RMap P w k b n f s) (K : Keyed P k) (ht : P.underlying t = some (.map k e)) {z : Value} (hz : (zeroValue e).run P w = .ok z w) {key : Value} {kl : Lit} (hkey : keyOf P k key = some kl) :
    (Instr.lookup t (.map (some b)) key false).run P w = .ok ((f kl).getD z) w := by
  obtain ⟨D, hD, _, hf⟩ := h
  obtain ⟨v, ps, hrun, hv⟩ := hD.lookup K ht hz (zd := .held z) (zp := []) rfl hkey
  rw [hrun]
  unfold raw at hv
  simp only [Option.some.injEq, Prod.mk.injEq] at hv
  rcases hf kl with ⟨h1, h2⟩ | ⟨y, h1, _, h3⟩
  · rw [atKey_of_not_has h2] at hv
    injection hv.1 with hv
    rw [h1, hv]; rfl
  · rw [h3] at hv
    injection hv.1 with hv
    rw [h1, hv]; rfl
theorem RMap.lookOk (h : RMap P w k b n f s) (K : Keyed P k) (ht : P.underlying t = some (.map k e)) {z : Value} (hz : (zeroValue e).run P w = .ok z w) {key : Value} {kl : Lit} (hkey : keyOf P k key = some kl) :
    (Instr.lookup t (.map (some b)) key true).run P w = .ok (.tuple #[(f kl).getD z, .bool (f kl).isSome]) w := by
  obtain ⟨D, hD, _, hf⟩ := h
  obtain ⟨v, ps, hrun, hv⟩ := hD.look_ok K ht hz (zd := .held z) (zp := []) rfl hkey
  rw [hrun]
  unfold raw at hv
  simp only [Option.some.injEq, Prod.mk.injEq] at hv
  rcases hf kl with ⟨h1, h2⟩ | ⟨y, h1, h2, h3⟩
  · rw [atKey_of_not_has h2] at hv
    injection hv.1 with hv
    rw [h1, hv, h2]; rfl
  · rw [h3] at hv
    injection hv.1 with hv
    rw [h1, hv, h2]; rfl
theorem RMap.len (h : RMap P w k b n f s) (ht : P.underlying t = some (.map k e)) (ty : TypeId) : (Builtin.len_ #[t] ty #[.map (some b)]).run P w = .ok (.int .i64 s) w := by
  obtain ⟨D, hD, rfl, _⟩ := h
  exact hD.len ht ty
open Classical in
/-- what stands at a key, put anew -/
noncomputable def upd (f : Lit → Option Value) (kl : Lit) (v : Option Value) : Lit → Option Value := fun x => if x = kl then v else f x
theorem upd_same (f : Lit → Option Value) (kl : Lit) (v : Option Value) : upd f kl v kl = v := by unfold upd; exact if_pos rfl
theorem upd_other (f : Lit → Option Value) {kl x : Lit} (v : Option Value) (h : x ≠ kl) : upd f kl v x = f x := by unfold upd; exact if_neg h
theorem turned_upd (h : w.mapTurned w' b) : w.grownBy w' (some b) := h.grown
theorem RMap.store (h : RMap P w k b n f s) (K : Keyed P k) (ht : P.underlying t = some (.map k e)) (hn : n < maxLen) {key val : Value} {kl : Lit} (hkey : keyOf P k key = some kl) :
    ∃ w', (Instr.mapUpdate t (.map (some b)) key val).run P w = .ok () w' ∧ RMap P w' k b (n + 1) (upd f kl (some val)) (if (f kl).isSome then s else s + 1) ∧ w.grownBy w' (some b) := by
  obtain ⟨D, hD, rfl, hf⟩ := h
  obtain ⟨w', hrun, h1, h2⟩ := hD.store K ht hn (val := val) (d := .held val) (ps := []) hkey rfl
  refine ⟨w', hrun, ⟨_, h1, ?_, fun x => ?_⟩, h2.grown⟩
  · rw [size_put (hD.tidy K)]
    rcases hf kl with ⟨e1, e2⟩ | ⟨v, e1, e2, _⟩
    · rw [e1, e2]; rfl
    · rw [e1, e2]; rfl
  · by_cases hx : x = kl
    · subst hx
      exact .inr ⟨val, upd_same _ _ _, has_put_same hD.isMap (K.key hkey) _, fun z => atKey_put_same hD.isMap (K.key hkey) _ z⟩
    · rw [upd_other f _ hx]
      rcases hf x with ⟨e1, e2⟩ | ⟨v, e1, e2, e3⟩
      · exact .inl ⟨e1, by rw [has_put_other hx]; exact e2⟩
      · exact .inr ⟨v, e1, by rw [has_put_other hx]; exact e2, fun z => by rw [atKey_put_other hx]; exact e3 z⟩
theorem RMap.drop (h : RMap P w k b n f s) (K : Keyed P k) (ht : P.underlying t = some (.map k e)) {key : Value} {kl : Lit} (hkey : keyOf P k key = some kl) (ty : TypeId) :
    ∃ w', (Builtin.delete_ #[t, k] ty #[.map (some b), key]).run P w = .ok (.tuple #[]) w' ∧ RMap P w' k b n (upd f kl none) (if (f kl).isSome then s - 1 else s) ∧ w.grownBy w' (some b) := by
  obtain ⟨D, hD, rfl, hf⟩ := h
  obtain ⟨w', hrun, h1, h2⟩ := hD.drop K ht hkey ty
  refine ⟨w', hrun, ⟨_, h1, ?_, fun x => ?_⟩, h2.grown⟩
  · have hs := size_del (k := kl) (hD.tidy K)
    rcases hf kl with ⟨e1, e2⟩ | ⟨v, e1, e2, _⟩
    · rw [e2] at hs; rw [e1]; simpa using hs
    · rw [e2] at hs; rw [e1]; simp only [if_true] at hs; simp only [Option.isSome_some, if_true]; omega
  · by_cases hx : x = kl
    · subst hx
      exact .inl ⟨upd_same _ _ _, has_del_same⟩
    · rw [upd_other f _ hx]
      rcases hf x with ⟨e1, e2⟩ | ⟨v, e1, e2, e3⟩
      · exact .inl ⟨e1, by rw [has_del_other hx]; exact e2⟩
      · exact .inr ⟨v, e1, by rw [has_del_other hx]; exact e2, fun z => by rw [atKey_del_other hx]; exact e3 z⟩
end
section
variable {P : Program} {w : World} {ops : Array Oper} {rest : List Oper} {o : Oper} {a : Act} {Q : Exit → Act → World → Prop}
theorem store_op (hg : o.guard = none) (m x v : Operand) (t : TypeId) (hop : o.op = Op.mapUpdate t m x v) (k e : TypeId) (K : Keyed P k) (ht : P.underlying t = some (.map k e)) (b n s : Nat) (f : Lit → Option Value)
    (hm : a.eval m = .map (some b)) (h : RMap P w k b n f s) (hn : n < maxLen) (key val : Value) (kl : Lit) (hx : a.eval x = key) (hv : a.eval v = val) (hkey : keyOf P k key = some kl)
    (hK : ∀ w', RMap P w' k b (n + 1) (upd f kl (some val)) (if (f kl).isSome then s else s + 1) → w.grownBy w' (some b) → wpList P ops Q rest (a.put o.dst undef) w') : wpList P ops Q (o :: rest) a w := by
  refine wpList_plain hg fun K' hK' => ?_
  obtain ⟨w', hrun, r1, r2⟩ := h.store (val := val) K ht hn hkey
  unfold Oper.wp
  simp [execOp, hop, hm, hx, hv, hrun, Result.andThen]
  exact hK' _ _ (hK w' r1 r2)
theorem delete_op (hg : o.guard = none) (m x : Operand) (t k : TypeId) (hop : o.op = Op.call { callee := Callee.builtin Builtin.delete, args := #[m, x], argTypes := #[t, k] }) (e : TypeId) (K : Keyed P k) (ht : P.underlying t = some (.map k e)) (b n s : Nat) (f : Lit → Option Value)
    (hm : a.eval m = .map (some b)) (h : RMap P w k b n f s) (key : Value) (kl : Lit) (hx : a.eval x = key) (hkey : keyOf P k key = some kl)
    (hK : ∀ w', RMap P w' k b n (upd f kl none) (if (f kl).isSome then s - 1 else s) → w.grownBy w' (some b) → wpList P ops Q rest (a.put o.dst (.tuple #[])) w') : wpList P ops Q (o :: rest) a w := by
  refine wpList_plain hg fun K' hK' => ?_
  obtain ⟨w', hrun, r1, r2⟩ := h.drop K ht hkey o.type
  unfold Oper.wp
  simp [execOp, hop, resolve, invoke, builtin, hm, hx, hrun, Result.andThen]
  exact hK' _ _ (hK w' r1 r2)
end
/-! keys -/
section
variable {P : Program}
theorem key_str {k : TypeId} (hk : P.underlying k = some .string) (s : ByteArray) (hs : s.size ≤ maxLen) : keyOf P k (.string s) = some (.string s.data.toList) := by
  simp [keyOf, hk, mapKey, hs]
theorem mapM_some {α β : Type} {g : α → Option β} {h : α → β} : ∀ l : List α, (∀ x ∈ l, g x = some (h x)) → l.mapM g = some (l.map h)
  | [], _ => rfl
  | x :: l, hx => by
    rw [List.mapM_cons, hx x (by simp), mapM_some l (fun y hy => hx y (by simp [hy]))]
    rfl
theorem keyBytes_u8 : ∀ l : List UInt8, keyBytes (l.map fun b => Lit.int .u8 (b.toNat : Int)) = l
  | [] => rfl
  | b :: l => by
    have ih := keyBytes_u8 l
    unfold keyBytes at ih ⊢
    rw [List.map_cons, List.flatMap_cons, ih]
    have hb : b.toNat < 256 := b.toNat_lt
    have e1 : (((b.toNat : Int) % 2 ^ IntKind.u8.bits).toNat) = b.toNat := by
      show (((b.toNat : Int) % (2 : Int) ^ 8).toNat) = b.toNat
      omega
    have : Lit.keyBytes (.int .u8 (b.toNat : Int)) = [b] := by
      show bytesBE 1 _ = [b]
      rw [e1]
      unfold bytesBE bytesLE bytesLE
      rw [Nat.mod_eq_of_lt hb]
      simp
    rw [this]; rfl
theorem key_bytes {k e : TypeId} {n : Nat} (hk : P.underlying k = some (.array n e)) (he : P.underlying e = some (.int .u8)) (hc : P.cellsOf e = 1) (hC : P.cellsOf k = n) (hK : P.keyType k = true) (hn : 1 ≤ P.types.size) (l : List UInt8) (hl : l.length = n) :
    keyOf P k (.agg (Cv.bytesV l)) = some (.string l) := by
  obtain ⟨d, hd⟩ : ∃ d, P.types.size = d + 1 := ⟨P.types.size - 1, by omega⟩
  have hsz := Cv.bytesV_size l
  have hform : (Value.agg (Cv.bytesV l)).formed P k = true := by simp [Value.formed, hk, hC, hsz, hl]
  have hcells : (Value.agg (Cv.bytesV l)).cells.toList = l.map fun b => Value.int .u8 (b.toNat : Int) := by unfold Cv.bytesV; simp [Value.cells, Lib.byteCells]
  have hlits : P.keyLits (d + 1 + 1) k (l.map fun b => Value.int .u8 (b.toNat : Int)) = some (l.map fun b => Lit.int .u8 (b.toNat : Int)) := by
    unfold Program.keyLits
    rw [hk]
    simp only [List.length_map, hC, hl, hc, if_true, Nat.mul_one]
    rw [mapM_some (h := fun i => [Lit.int .u8 ((l.getD i 0).toNat : Int)])]
    · simp only [Option.map_some, Option.some.injEq]
      apply List.ext_getElem?
      intro j
      have e1 : ((List.range n).map fun i => [Lit.int .u8 ((l.getD i 0).toNat : Int)]).flatten = (List.range n).map fun i => Lit.int .u8 ((l.getD i 0).toNat : Int) := by
        rw [← List.flatMap_def]; exact (List.map_eq_flatMap).symm
      rw [e1, List.getElem?_map, List.getElem?_map]
      by_cases hj : j < n
      · rw [List.getElem?_range hj, List.getElem?_eq_getElem (by omega)]
        simp [List.getD_eq_getElem?_getD, List.getElem?_eq_getElem (show j < l.length by omega)]
      · rw [List.getElem?_eq_none (by simp; omega), List.getElem?_eq_none (by omega)]; rfl
    · intro i hi
      have hin : i < l.length := by rw [hl]; exact List.mem_range.1 hi
      have e2 : ((l.map fun b => Value.int .u8 (b.toNat : Int)).drop i).take 1 = [Value.int .u8 ((l.getD i 0).toNat : Int)] := by
        rw [List.drop_eq_getElem_cons (by simpa using hin)]
        simp [List.getD_eq_getElem?_getD, List.getElem?_eq_getElem hin]
      rw [e2]
      unfold Program.keyLits
      rw [he]
      have hw : (Lit.int .u8 ((l.getD i 0).toNat : Int)).wf = true := WalkArith.wf_u8 (by have := (l.getD i 0).toNat_lt; omega)
      show (if IntKind.u8 = IntKind.u8 ∧ (Lit.int .u8 ((l.getD i 0).toNat : Int)).wf = true then some [Lit.int .u8 ((l.getD i 0).toNat : Int)] else none) = _
      rw [if_pos ⟨rfl, hw⟩]
  unfold keyOf
  rw [hk]
  simp only [hK, hform, hcells, hd, hlits, Bool.and_self, if_true, Option.map_some, keyBytes_u8]
end
end Go.Proofs.YtfcemnebhapidaaDoor.Mp
