/- Slices of structs: append; what a write leaves of other rows. -/
import Derived.Test.YtjfikbnfabdkoaaDoorOwn
import Derived.Test.YtjfikbnfabdkoaaDoorBuilderO
import Derived.Lib.OwnKind
set_option linter.unusedVariables false
set_option linter.unusedSimpArgs false
namespace Go.Proofs.YtjfikbnfabdkoaaDoor.Ow
open Go.RowKit
variable {P : Program}
theorem rowBelow {w w' : World} {B : Nat} {E : TypeId} {k : Nat} {v : Value} {n : Nat} {xs : List Value} (h : w.ownsRow B E k v n xs) (hb : Below w.heap.size w w') : w'.ownsRow B E k v n xs :=
  World.ownsRow.kept h (row := none) ⟨hb.os, hb.tape, hb.output, hb.size, fun k hk _ => hb.block k hk⟩ (by cases hv : v.ownBlock <;> simp)
/-- append(v, y), y a struct by value -/
theorem appS {ops : Array Oper} {rest : List Oper} {o : Oper} {a : Act} {w : World} {Q : Exit → Act → World → Prop} (hgd : o.guard = none) (s x : Operand) (t : TypeId)
    (ho : o.op = .call { callee := .builtin .append, args := #[s, x], argTypes := #[t, t] }) {E : TypeId} {z : Value} {sz by' : Nat} (ht : P.underlying t = some (.slice E))
    (hI : (P.info? E).map (fun i => (i.zero, i.size, i.bytes)) = some (some z, sz, by')) (hz : z.cells.size = sz) (hsz : 0 < sz) (hby : 0 < by')
    {B n : Nat} {v : Value} {xs : List Value} (hO : w.ownsRow B E sz v n xs) (hs : a.eval s = v) {cs : Array Value} {T : TypeId} (hcs : cs.size = sz) (hx : a.eval x = .slice (some ⟨w.heap.size, 0, none⟩) 1 1) (h1 : cs.all (·.oneCell') = true)
    (hb : (n + 1) * by' ≤ 140737488355328) (hB : B ≤ w.heap.size)
    (h : ∀ v' w', w'.ownsRow B E sz v' (n + 1) (xs ++ cs.toList) → w.grownBy w' v.ownBlock → (v'.ownBlock = v.ownBlock ∨ v'.ownBlock = some (w.heap.size + 1)) → wpList P ops Q rest (a.put o.dst v') w') : wpList P ops Q (o :: rest) a (w.alloc (.cells cs T)) :=
  wpList_plain hgd fun _ hK => by
    obtain ⟨i, hi, hz0, hz1, hz2⟩ := info_parts hI
    have hmax : n + 1 ≤ maxLen := by
      have : n + 1 ≤ (n + 1) * by' := Nat.le_mul_of_pos_right _ hby
      simp only [maxLen]; omega
    have hnew := Rg.Blk.new w cs T
    obtain ⟨v', w', hr, h2, h3, _, h4⟩ := run_append_own_at (P := P) (w.alloc (.cells cs T)) B t o.type E i z sz by' ht hi hz0 hz1 hz2 hz hsz v n xs (rowBelow hO ((Below.refl _ _).alloc (Nat.le_refl _) _)) ⟨w.heap.size, 0, none⟩ 1 1 cs.toList (by simp [hcs])
      (fun j u hu => by
        have hadd : (⟨w.heap.size, 0, none⟩ : Addr).add j = ⟨w.heap.size, j, none⟩ := by unfold Addr.add; split <;> simp_all
        rw [hadd]; exact hnew.cell j (by simpa using hu))
      (fun u hu => by
        rw [Array.all_eq_true_iff_forall_mem] at h1
        exact h1 u (Array.mem_toList_iff.1 hu)) hmax hb (by simp; omega)
    unfold Oper.wp execOp
    simp only [ho, resolve, invoke, builtin, Sem.run_bind, Sem.run_pure, Result.andThen_ok, List.map_toArray, List.map_cons, List.map_nil, hs, hx, hr]
    exact hK _ _ (h v' w' h2 ⟨h3.os, h3.tape, h3.output, by have := h3.size; simp at this; omega, fun k hk hne => (h3.block k (by simp; omega) hne).trans (Below.heap_alloc w _ k hk)⟩ (by simpa using h4))
/-- every row of another type than T0 is as it was -/
structure KeptT (T0 : TypeId) (w w' : World) : Prop where
  size : w.heap.size ≤ w'.heap.size
  row : ∀ (k : Nat) (cs : Array Value) (T : TypeId) (fz : Nat × Nat), w.heap[k]? = some (.cells cs T fz) → T ≠ T0 → w'.heap[k]? = some (.cells cs T fz)
theorem KeptT.refl (T0 : TypeId) (w : World) : KeptT T0 w w := ⟨Nat.le_refl _, fun _ _ _ _ h _ => h⟩
theorem KeptT.trans {T0 : TypeId} {w w' w'' : World} (h : KeptT T0 w w') (h' : KeptT T0 w' w'') : KeptT T0 w w'' := ⟨Nat.le_trans h.size h'.size, fun k cs T fz hk hT => h'.row k cs T fz (h.row k cs T fz hk hT) hT⟩
theorem KeptT.below {T0 : TypeId} {w w' : World} (h : Below w.heap.size w w') : KeptT T0 w w' := ⟨h.size, fun k _ _ _ hk _ => (h.block k (Array.getElem?_eq_some_iff.1 hk).1).trans hk⟩
theorem KeptT.grown {T0 : TypeId} {w w' : World} {row : Option Nat} (h : w.grownBy w' row) (hr : ∀ g, row = some g → ∃ cs fz, w.heap[g]? = some (.cells cs T0 fz)) : KeptT T0 w w' :=
  ⟨h.size, fun k cs T fz hk hT => (h.block k (Array.getElem?_eq_some_iff.1 hk).1 (fun e => by
    obtain ⟨cs', fz', h'⟩ := hr k e.symm
    rw [hk] at h'
    simp only [Option.some.injEq, Obj.cells.injEq] at h'
    exact hT h'.2.1)).trans hk⟩
theorem KeptT.grownAt {T0 : TypeId} {w w' : World} {b : Nat} {cs : Array Value} (h : w.grownBy w' (some b)) (hb : Rg.Blk w b T0 cs) : KeptT T0 w w' := KeptT.grown h fun g hg => by cases hg; exact ⟨_, _, hb⟩
theorem KeptT.grownRow {T0 : TypeId} {w w' : World} {B k n : Nat} {v : Value} {xs : List Value} (h : w.grownBy w' v.ownBlock) (ho : w.ownsRow B T0 k v n xs) : KeptT T0 w w' := KeptT.grown h fun g hg => Lib.ownsRow_kind ho g hg
theorem KeptT.owns {T0 E : TypeId} {w w' : World} {B k n : Nat} {v : Value} {xs : List Value} (h : KeptT T0 w w') (ho : w.ownsRow B E k v n xs) (hE : E ≠ T0) : w'.ownsRow B E k v n xs := by
  obtain ⟨hl, h0 | ⟨g, cap, cur, hv, hB, hg, h1⟩⟩ := ho
  · exact ⟨hl, .inl h0⟩
  · exact ⟨hl, .inr ⟨g, cap, cur, hv, hB, h.row _ _ _ _ hg hE, h1⟩⟩
theorem calm_owns {E : TypeId} {w w' : World} {B C b k n : Nat} {v : Value} {xs : List Value} (h : Bo.Calm C b w w') (ho : w.ownsRow B E k v n xs) (hE : E ≠ 5) (hb : v.ownBlock ≠ some b) : w'.ownsRow B E k v n xs := by
  obtain ⟨hl, h0 | ⟨g, cap, cur, hv, hB, hg, h1⟩⟩ := ho
  · exact ⟨hl, .inl h0⟩
  · exact ⟨hl, .inr ⟨g, cap, cur, hv, hB, h.kept _ _ _ _ hg hE (fun e => hb (by rw [hv, e]; rfl)), h1⟩⟩
end Go.Proofs.YtjfikbnfabdkoaaDoor.Ow
