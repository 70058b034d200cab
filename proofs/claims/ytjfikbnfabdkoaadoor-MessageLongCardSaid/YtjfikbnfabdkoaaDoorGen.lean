/- Stores into blocks known whole; rows of texts. -/
import Derived.Test.YtjfikbnfabdkoaaDoorWireRef
import Derived.Test.YtjfikbnfabdkoaaDoorCells
set_option linter.unusedVariables false
set_option linter.unusedSimpArgs false
namespace Go.Proofs.YtjfikbnfabdkoaaDoor.Wi
open Go.RowKit Go.Proofs.YtjfikbnfabdkoaaDoor.Ow Go.Proofs.YtjfikbnfabdkoaaDoor.Be Go.Proofs.YtjfikbnfabdkoaaDoor.Cl Go.Proofs.YtjfikbnfabdkoaaDoor.Cv
variable {P : Program}
theorem store_string {ops : Array Oper} {rest : List Oper} {o : Oper} {a : Act} {w : World} {Q : Exit → Act → World → Prop} (hgd : o.guard = none) (ty : TypeId) (x y : Operand) (ho : o.op = .store ty x y)
    {b j T : Nat} {cs : Array Value} {old : Value} {s : ByteArray} (hx : a.eval x = .pointer (some ⟨b, j, none⟩)) (hy : a.eval y = .string s) (hu : P.underlying ty = some .string) (hi : (P.info? ty).map (·.size) = some 1) (hR : Rg.Blk w b T cs) (hj : cs[j]? = some old)
    (h : ∀ w', Rg.Blk w' b T (cs.setIfInBounds j (.string s)) → w.grownBy w' (some b) → wpList P ops Q rest (a.put o.dst undef) w') : wpList P ops Q (o :: rest) a w :=
  wpList_plain hgd fun _ hK => by
    have hx' := hx
    have hy' := hy
    have hc := hR.cell j hj
    have hf := hR.frozen j
    simp [go_sem] at hx' hy'
    unfold Oper.wp execOp
    cases hq : P.info? ty with
    | none => simp [hq] at hi
    | some i =>
    have hs : i.size = 1 := by simpa [hq] using hi
    simp [ho, hx', hy', go_sem, hc, hf, hu, sizeOf, typeInfo, hq, hs]
    have hB : Rg.Blk (w.setCell ⟨b, j, none⟩ (.string s)) b T (cs.setIfInBounds j (.string s)) := by
      have h2 := hR
      unfold Rg.Blk at *
      rw [heap_setCell_same w b j _ _ _ h2]
    have := hK _ _ (h _ hB (grown_setCell w b j _))
    simpa [go_sem] using this
theorem store_slice {ops : Array Oper} {rest : List Oper} {o : Oper} {a : Act} {w : World} {Q : Exit → Act → World → Prop} (hgd : o.guard = none) (ty : TypeId) (x y : Operand) (ho : o.op = .store ty x y)
    {b j T : Nat} {cs : Array Value} {old : Value} {A : Option Addr} {n c : Nat} {e : TypeId} (hx : a.eval x = .pointer (some ⟨b, j, none⟩)) (hy : a.eval y = .slice A n c) (hu : P.underlying ty = some (.slice e)) (hi : (P.info? ty).map (·.size) = some 1) (hR : Rg.Blk w b T cs) (hj : cs[j]? = some old)
    (h : ∀ w', Rg.Blk w' b T (cs.setIfInBounds j (.slice A n c)) → w.grownBy w' (some b) → wpList P ops Q rest (a.put o.dst undef) w') : wpList P ops Q (o :: rest) a w :=
  wpList_plain hgd fun _ hK => by
    have hx' := hx
    have hy' := hy
    have hc := hR.cell j hj
    have hf := hR.frozen j
    simp [go_sem] at hx' hy'
    unfold Oper.wp execOp
    cases hq : P.info? ty with
    | none => simp [hq] at hi
    | some i =>
    have hs : i.size = 1 := by simpa [hq] using hi
    simp [ho, hx', hy', go_sem, hc, hf, hu, sizeOf, typeInfo, hq, hs]
    have hB : Rg.Blk (w.setCell ⟨b, j, none⟩ (.slice A n c)) b T (cs.setIfInBounds j (.slice A n c)) := by
      have h2 := hR
      unfold Rg.Blk at *
      rw [heap_setCell_same w b j _ _ _ h2]
    have := hK _ _ (h _ hB (grown_setCell w b j _))
    simpa [go_sem] using this
theorem blk_grown {w w' : World} {b g T : Nat} {cs : Array Value} (h : Rg.Blk w b T cs) (hg : w.grownBy w' (some g)) (hn : b ≠ g) : Rg.Blk w' b T cs := by
  unfold Rg.Blk at *
  rw [hg.block b (Array.getElem?_eq_some_iff.1 h).1 (fun e => hn (Option.some.inj e))]; exact h
/-- the slice address A reads as the values xs, in one row of texts from block B on -/
def RdS (w : World) (B : Nat) (A : Option Addr) (xs : List Value) : Prop := ∀ (j : Nat) (x : Value), xs[j]? = some x → ∃ (g : Nat) (cur : Array Value) (fz : Nat × Nat), A = some ⟨g, 0, none⟩ ∧ B ≤ g ∧ w.heap[g]? = some (.cells cur 9 fz) ∧ cur[j]? = some x
theorem RdS.rd {w : World} {B : Nat} {A : Option Addr} {xs : List Value} (h : RdS w B A xs) : Rd w A xs := fun j x hx => by
  obtain ⟨g, cur, fz, hA, _, hg, hc⟩ := h j x hx
  exact ⟨g, 0, hA, (Array.getElem?_eq_some_iff.1 hg).1, by rw [Nat.zero_add]; exact (Lib.cell_of_heap hg j).trans hc⟩
theorem RdS.below {w w' : World} {B : Nat} {A : Option Addr} {xs : List Value} (h : RdS w B A xs) (hb : Below w.heap.size w w') : RdS w' B A xs := fun j x hx => by
  obtain ⟨g, cur, fz, hA, hB, hg, hc⟩ := h j x hx
  exact ⟨g, cur, fz, hA, hB, (hb.block g (Array.getElem?_eq_some_iff.1 hg).1).trans hg, hc⟩
theorem RdS.calm {w w' : World} {B C b : Nat} {A : Option Addr} {xs : List Value} (h : RdS w B A xs) (hb : Bo.Calm C b w w') (hB : b < B) : RdS w' B A xs := fun j x hx => by
  obtain ⟨g, cur, fz, hA, hB', hg, hc⟩ := h j x hx
  exact ⟨g, cur, fz, hA, hB', hb.kept _ _ _ _ hg (by decide) (by omega), hc⟩
theorem RdS.of {w : World} {B C : Nat} {A : Option Addr} {n c : Nat} {xs : List Value} (h : Owns w B 9 (.slice A n c) xs) (hC : C ≤ B) : RdS w C A xs := fun j x hx => by
  rcases h.2 with ⟨_, h0⟩ | ⟨g, cap, cur, hv, hB, hg, _⟩
  · rw [List.eq_nil_of_length_eq_zero h0] at hx; simp at hx
  · have hcell := World.ownsRow.cells h (g := g) (by rw [hv]; rfl) j x hx
    have hadd : (⟨g, 0, none⟩ : Addr).add j = ⟨g, j, none⟩ := by unfold Addr.add; split <;> simp_all
    rw [hadd] at hcell
    injection hv with e1 _ _
    exact ⟨g, cur, _, e1, Nat.le_trans hC hB, hg, (Lib.cell_of_heap hg j).symm.trans hcell⟩
theorem map_push1 (xs : List ByteArray) (s : ByteArray) : xs.map Value.string ++ [.string s] = (xs ++ [s]).map Value.string := by simp
end Go.Proofs.YtjfikbnfabdkoaaDoor.Wi
