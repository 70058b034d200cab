/- Agree: plain facts; api.Wrap; stores of rows. -/
import Derived.Test.YtjfikbnfabdkoaaDoorOff3
set_option linter.unusedVariables false
set_option linter.unusedSimpArgs false
namespace Go.Proofs.YtjfikbnfabdkoaaDoor.Of
open Go.RowKit Go.Proofs.YtjfikbnfabdkoaaDoor.Wi Go.Proofs.YtjfikbnfabdkoaaDoor.Ow Go.Proofs.YtjfikbnfabdkoaaDoor.Be Go.Proofs.YtjfikbnfabdkoaaDoor.Mg Go.Proofs.YtjfikbnfabdkoaaDoor.Sp
/-- a row stored into a block known whole, as one operation -/
theorem store_blk_op {P : Program} {o : Oper} {a : Act} {w : World} {K : Act → World → Prop} {Q : Exit → Act → World → Prop} (ty : TypeId) (x y : Operand) (ho : o.op = .store ty x y)
    (b : Nat) (cs old : Array Value) (T : TypeId) (hx : a.eval x = .pointer (some ⟨b, 0, none⟩)) (hy : a.eval y = .agg cs) (hB : Rg.Blk w b T old)
    (hi : (P.info? ty).map (·.size) = some cs.size) (hold : old.size = cs.size) (h1 : cs.all (·.oneCell') = true)
    (h : ∀ X, Rg.Blk X b T cs → w.grownBy X (some b) → K (a.put o.dst undef) X) : Oper.wp P o a w K Q :=
  wp_store_row ty x y ho b cs hx hy T old hB hi hold h1 (h _ hB.setRow ⟨rfl, rfl, rfl, by simp, fun k _ hk => setRow_other w b k cs (fun e => hk (congrArg some e))⟩)
/-- two cells stored into a block known whole -/
theorem store_pair {P : Program} {ops : Array Oper} {rest : List Oper} {o : Oper} {a : Act} {w : World} {Q : Exit → Act → World → Prop} (hgd : o.guard = none) (ty : TypeId) (x y : Operand) (ho : o.op = .store ty x y)
    {b j T E : Nat} {cs : Array Value} {v0 v1 : Value} {u0 u1 : Bool} (hx : a.eval x = .pointer (some ⟨b, j, none⟩)) (hy : a.eval y = .agg #[.bool u0, .bool u1]) (hu : P.underlying ty = some (.array 2 E)) (hi : (P.info? ty).map (·.size) = some 2) (hR : Rg.Blk w b T cs) (hj0 : cs[j]? = some v0) (hj1 : cs[j + 1]? = some v1)
    (h : ∀ w', Rg.Blk w' b T ((cs.setIfInBounds j (.bool u0)).setIfInBounds (j + 1) (.bool u1)) → w.grownBy w' (some b) → wpList P ops Q rest (a.put o.dst undef) w') : wpList P ops Q (o :: rest) a w :=
  wpList_plain hgd fun _ hK => by
    have hx' := hx
    have hy' := hy
    have hc0 := hR.cell j hj0
    have hc1 := hR.cell (j + 1) hj1
    have hf0 := hR.frozen j
    have hf1 := hR.frozen (j + 1)
    simp [go_sem] at hx' hy'
    unfold Oper.wp execOp
    cases hq : P.info? ty with
    | none => simp [hq] at hi
    | some i =>
    have hs : i.size = 2 := by simpa [hq] using hi
    simp [ho, hx', hy', go_sem, hc0, hc1, hf0, hf1, hu, sizeOf, typeInfo, hq, hs]
    have hB : Rg.Blk (w.setCell ⟨b, j, none⟩ (.bool u0)) b T (cs.setIfInBounds j (.bool u0)) := by
      have h2 := hR
      unfold Rg.Blk at *
      rw [heap_setCell_same w b j _ _ _ h2]
    have hB2 : Rg.Blk ((w.setCell ⟨b, j, none⟩ (.bool u0)).setCell ⟨b, j + 1, none⟩ (.bool u1)) b T ((cs.setIfInBounds j (.bool u0)).setIfInBounds (j + 1) (.bool u1)) := by
      have h2 := hB
      unfold Rg.Blk at *
      rw [heap_setCell_same _ b (j + 1) _ _ _ h2]
    have g1 := Cl.grown_setCell w b j (.bool u0)
    have g2 := Cl.grown_setCell (w.setCell ⟨b, j, none⟩ (.bool u0)) b (j + 1) (.bool u1)
    have := hK _ _ (h _ hB2 ⟨g2.os.trans g1.os, g2.tape.trans g1.tape, g2.output.trans g1.output, Nat.le_trans g1.size g2.size, fun k hk hne => (g2.block k (Nat.lt_of_lt_of_le hk g1.size) hne).trans (g1.block k hk hne)⟩)
    simpa [go_sem] using this
theorem Wrap_any (w : World) (name : ByteArray) (p : Value) : Calls Tryd.prog 41 #[.string name, .iface 189 p] w fun e w' => e = .returned (.iface 88 (.pointer (some ⟨w.heap.size, 0, none⟩))) ∧ Rg.Blk w' w.heap.size 92 #[.string name, .iface 189 p] ∧ Below w.heap.size w w' := by
  go_enter Tryd.func41, Tryd.ntmps41
  go_wp2_with fail
  go_ret
  exact ⟨rfl, Rg.Blk.new w _ _, (Below.refl _ _).alloc (Nat.le_refl _) _⟩
/-- may an offer's message be? -/
def okm (m : Msg) : Bool := decide (m.kind = 20) && decide (checkC m = 0)
theorem okm_len {m : Msg} (h : okm m = true) : m.kind = 20 ∧ checkC m = 0 ∧ m.n.length = 10 ∧ m.b.length = 1 := by
  unfold okm at h
  simp only [Bool.and_eq_true, decide_eq_true_eq] at h
  obtain ⟨hk, hc⟩ := h
  have hc2 := hc
  unfold checkC at hc2
  rw [hk] at hc2
  have e1 : isK 20 = true := by decide +kernel
  have e2 : ltr 20 = [99, 110, 110, 110, 110, 110, 110, 110, 110, 110, 110, 98, 117] := by decide +kernel
  rw [e1, e2] at hc2
  rw [if_neg (by decide)] at hc2
  split at hc2
  · cases hc2
  · rename_i hq
    have hq2 : counted [99, 110, 110, 110, 110, 110, 110, 110, 110, 110, 110, 98, 117] m = true := by simpa using hq
    unfold counted at hq2
    simp only [Bool.and_eq_true, decide_eq_true_eq] at hq2
    exact ⟨hk, hc, hq2.1.2, hq2.2⟩
def choC (out : List ByteArray) (b1 b2 : Bool) : Array Value := #[.string (out.getD 0 e0), .string (out.getD 1 e0), .string (out.getD 2 e0), .string (out.getD 3 e0), .string (out.getD 4 e0), .string (out.getD 5 e0), .string (out.getD 6 e0), .string (out.getD 7 e0), .bool b1, .bool b2]
theorem choC_set (out : List ByteArray) (x : ByteArray) (h : out.length < 8) : (choC out false false).setIfInBounds out.length (.string x) = choC (out ++ [x]) false false := by
  match out, h with
  | [], _ => rfl
  | [a], _ => rfl
  | [a, b], _ => rfl
  | [a, b, c], _ => rfl
  | [a, b, c, d], _ => rfl
  | [a, b, c, d, e], _ => rfl
  | [a, b, c, d, e, f], _ => rfl
  | [a, b, c, d, e, f, g], _ => rfl
  | _ :: _ :: _ :: _ :: _ :: _ :: _ :: _ :: _, h => simp at h; omega
theorem choC_at (out : List ByteArray) (k : Nat) (h : k < 8) : (choC out false false)[k]? = some (.string (out.getD k e0)) := by
  match k, h with
  | 0, _ => rfl
  | 1, _ => rfl
  | 2, _ => rfl
  | 3, _ => rfl
  | 4, _ => rfl
  | 5, _ => rfl
  | 6, _ => rfl
  | 7, _ => rfl
theorem choC_skip (out : List ByteArray) (b1 b2 : Bool) : ((choC out false false).setIfInBounds 8 (.bool b1)).setIfInBounds (8 + 1) (.bool b2) = choC out b1 b2 := rfl
def zCh : Array Value := choC [] false false
/-- what Agree answers -/
structure AgrPost (a : Nat → Addr) (ca sa : Msg) (w : World) (e : Ending) (w' : World) : Prop where
  bel : Below w.heap.size w w'
  no : (okm ca && okm sa) = false → e = .returned (.tuple #[.agg zCh, Ei.evA a 20])
  yes : (okm ca && okm sa) = true → ∀ out, agr ca.n sa.n 8 [] = (out, none) → e = .returned (.tuple #[.agg (choC out (skp ca sa) (skp sa ca)), .nilIface])
  flt : (okm ca && okm sa) = true → ∀ out i, agr ca.n sa.n 8 [] = (out, some i) → ∃ fb, e = .returned (.tuple #[.agg zCh, .iface 88 (.pointer (some ⟨fb, 0, none⟩))]) ∧ Rg.Blk w' fb 92 #[.string (whereL.getD i e0), .iface 189 (.pointer (some (a 13)))]
theorem AgrPost.bad {a : Nat → Addr} {ca sa : Msg} {w w' : World} (h : (okm ca && okm sa) = false) (hb : Below w.heap.size w w') : AgrPost a ca sa w (.returned (.tuple #[.agg zCh, Ei.evA a 20])) w' :=
  ⟨hb, fun _ => rfl, (fun h2 => by rw [h] at h2; cases h2), (fun h2 => by rw [h] at h2; cases h2)⟩
theorem AgrPost.fault {a : Nat → Addr} {ca sa : Msg} {w w' : World} {out : List ByteArray} {i fb : Nat} (h : (okm ca && okm sa) = true) (ha : agr ca.n sa.n 8 [] = (out, some i)) (hb : Below w.heap.size w w') (hf : Rg.Blk w' fb 92 #[.string (whereL.getD i e0), .iface 189 (.pointer (some (a 13)))]) : AgrPost a ca sa w (.returned (.tuple #[.agg zCh, .iface 88 (.pointer (some ⟨fb, 0, none⟩))])) w' :=
  ⟨hb, (fun h2 => by rw [h] at h2; cases h2), (fun _ out2 h2 => by rw [ha] at h2; cases h2), (fun _ out2 i2 h2 => by rw [ha] at h2; cases h2; exact ⟨fb, rfl, hf⟩)⟩
theorem AgrPost.ok {a : Nat → Addr} {ca sa : Msg} {w w' : World} {out : List ByteArray} (h : (okm ca && okm sa) = true) (ha : agr ca.n sa.n 8 [] = (out, none)) (hb : Below w.heap.size w w') : AgrPost a ca sa w (.returned (.tuple #[.agg (choC out (skp ca sa) (skp sa ca)), .nilIface])) w' :=
  ⟨hb, (fun h2 => by rw [h] at h2; cases h2), (fun _ out2 h2 => by rw [ha] at h2; cases h2; rfl), (fun _ out2 i2 h2 => by rw [ha] at h2; cases h2)⟩
end Go.Proofs.YtjfikbnfabdkoaaDoor.Of
