/- Slices of one-cell values: what they read as, what the call owns, append. -/
import Derived.Test.YtjfikbnfabdkoaaDoorRegion
import Derived.Test.YtjfikbnfabdkoaaDoorConv
import Derived.Maps.AppendAt
import Derived.Deep.AppendLies
import Derived.Lib.Hide
set_option linter.unusedVariables false
set_option linter.unusedSimpArgs false
namespace Go.Proofs.YtjfikbnfabdkoaaDoor.Ow
open Go.RowKit
variable {P : Program}
/-- the slice address A reads as the values xs -/
def Rd (w : World) (A : Option Addr) (xs : List Value) : Prop := ∀ j x, xs[j]? = some x → ∃ b o, A = some ⟨b, o, none⟩ ∧ b < w.heap.size ∧ w.cell? ⟨b, o + j, none⟩ = some x
theorem Rd.nil (w : World) (A : Option Addr) : Rd w A [] := fun j x h => by simp at h
theorem Rd.below {w w' : World} {A : Option Addr} {xs : List Value} (h : Rd w A xs) (hb : Below w.heap.size w w') : Rd w' A xs := fun j x hx => by
  obtain ⟨b, o, hA, hl, hc⟩ := h j x hx
  exact ⟨b, o, hA, Nat.lt_of_lt_of_le hl hb.size, (hb.cell (p := ⟨b, o + j, none⟩) hl).trans hc⟩
theorem Rd.at_ {w : World} {A : Option Addr} {xs : List Value} (h : Rd w A xs) {j : Nat} (hj : j < xs.length) : ∃ b o, A = some ⟨b, o, none⟩ ∧ b < w.heap.size ∧ w.cell? ⟨b, o + j, none⟩ = some xs[j] := h j _ (List.getElem?_eq_getElem hj)
/-- all of it at one place -/
theorem Rd.place {w : World} {A : Option Addr} {xs : List Value} (h : Rd w A xs) (hn : 0 < xs.length) : ∃ b o, A = some ⟨b, o, none⟩ ∧ b < w.heap.size ∧ ∀ j x, xs[j]? = some x → w.cell? ⟨b, o + j, none⟩ = some x := by
  obtain ⟨b, o, hA, hl, _⟩ := h.at_ hn
  refine ⟨b, o, hA, hl, fun j x hx => ?_⟩
  obtain ⟨b', o', hA', _, hc⟩ := h j x hx
  rw [hA] at hA'; cases hA'
  exact hc
/-- v is a slice of the call's own, from block B on, which holds xs -/
def Owns (w : World) (B : Nat) (E : TypeId) (v : Value) (xs : List Value) : Prop := w.ownsRow B E 1 v xs.length xs
theorem Owns.nil (w : World) (B : Nat) (E : TypeId) : Owns w B E (.slice none 0 0) [] := World.ownsRow_nil w B E 1
theorem Owns.new (w : World) (B : Nat) (E : TypeId) (xs : List Value) (hB : B ≤ w.heap.size) (hm : xs.length ≤ maxLen) : Owns (w.alloc (.cells xs.toArray E)) B E (.slice (some ⟨w.heap.size, 0, none⟩) xs.length xs.length) xs := by
  have := World.ownsRow_lit (base := B) (e := E) (size := 1) w xs.toArray xs.length hB hm (by simp)
  exact this
theorem Owns.alloc {w : World} {B : Nat} {E : TypeId} {v : Value} {xs : List Value} (h : Owns w B E v xs) (o : Obj) : Owns (w.alloc o) B E v xs := World.ownsRow.alloc h o
theorem Owns.kept {w w' : World} {B : Nat} {E : TypeId} {v : Value} {xs : List Value} {row : Option Nat} (h : Owns w B E v xs) (hg : w.grownBy w' row) (hne : v.ownBlock = none ∨ v.ownBlock ≠ row) : Owns w' B E v xs := World.ownsRow.kept h hg hne
theorem Owns.below {w w' : World} {B : Nat} {E : TypeId} {v : Value} {xs : List Value} (h : Owns w B E v xs) (hb : Below w.heap.size w w') : Owns w' B E v xs :=
  World.ownsRow.kept h (row := none) ⟨hb.os, hb.tape, hb.output, hb.size, fun k hk _ => hb.block k hk⟩ (by cases hv : v.ownBlock <;> simp)
theorem Owns.lt {w : World} {B : Nat} {E : TypeId} {v : Value} {xs : List Value} (h : Owns w B E v xs) : ∀ k, v.ownBlock = some k → B ≤ k ∧ k < w.heap.size := World.ownsRow.lt h
theorem Owns.ge {w : World} {B : Nat} {E : TypeId} {v : Value} {xs : List Value} (h : Owns w B E v xs) {C : Nat} (hC : C ≤ B) : ∀ k, v.ownBlock = some k → C ≤ k := fun k hk => Nat.le_trans hC (h.lt k hk).1
/-- what it looks like, and what it reads as -/
theorem Owns.form {w : World} {B : Nat} {E : TypeId} {v : Value} {xs : List Value} (h : Owns w B E v xs) : ∃ A c, v = .slice A xs.length c ∧ Rd w A xs ∧ xs.length ≤ c := by
  rcases h.2 with ⟨hv, h0⟩ | ⟨g, cap, cur, hv, _, hg, hc, _⟩
  · have : xs = [] := List.eq_nil_of_length_eq_zero h0
    subst this
    exact ⟨none, 0, hv, Rd.nil _ _, Nat.le_refl _⟩
  · refine ⟨_, cap, hv, fun j x hx => ⟨g, 0, rfl, (Array.getElem?_eq_some_iff.1 hg).1, ?_⟩, hc⟩
    have := World.ownsRow.cells h (g := g) (by rw [hv]; rfl) j x hx
    have hadd : (⟨g, 0, none⟩ : Addr).add j = ⟨g, j, none⟩ := by unfold Addr.add; split <;> simp_all
    rw [hadd] at this
    rw [Nat.zero_add]; exact this
theorem Owns.cast {w : World} {B : Nat} {E : TypeId} {v : Value} {xs ys : List Value} (h : Owns w B E v xs) (e : xs = ys) : Owns w B E v ys := e ▸ h

theorem run_append_none (w : World) (B : Nat) (t ty E : TypeId) (i : TypeInfo) (ht : P.underlying t = some (.slice E)) (hi : P.info? E = some i) (v : Value) (xs : List Value) (h : Owns w B E v xs) (c : Nat) :
    (Builtin.append_ #[t, t] ty #[v, .slice none 0 c]).run P w = .ok v w := by
  rcases h.2 with ⟨rfl, h0⟩ | ⟨g, cap, cur, rfl, _, _, hc, _⟩
  · simp [Builtin.append_, run_underlying ht, sizeOf, typeInfo, hi, Builtin.lenOf, Builtin.firstCells]
  · simp [Builtin.append_, run_underlying ht, sizeOf, typeInfo, hi, Builtin.lenOf, Builtin.firstCells, hc, storeCells]

theorem run_app (w : World) (t ty : TypeId) {E : TypeId} {z : Value} {by' : Nat} (ht : P.underlying t = some (.slice E)) (hI : (P.info? E).map (fun i => (i.zero, i.size, i.bytes)) = some (some z, 1, by')) (hz : z.cells.size = 1) (hby : 0 < by')
    {B : Nat} {v : Value} {xs : List Value} (hO : Owns w B E v xs) {A : Option Addr} {m c : Nat} {ys : List Value} (hm : ys.length = m) (hR : Rd w A ys) (h1 : ∀ u ∈ ys, u.oneCell' = true)
    (hb : (xs.length + m) * by' ≤ 140737488355328) (hB : B ≤ w.heap.size) :
    ∃ v' w', (Builtin.append_ #[t, t] ty #[v, .slice A m c]).run P w = .ok v' w' ∧ Owns w' B E v' (xs ++ ys) ∧ w.grownBy w' v.ownBlock ∧ (v'.ownBlock = v.ownBlock ∨ v'.ownBlock = some w.heap.size) := by
  subst hm
  obtain ⟨i, hi, hz0, hz1, hz2⟩ := info_parts hI
  have hmax : xs.length + ys.length ≤ maxLen := by
    have : xs.length + ys.length ≤ (xs.length + ys.length) * by' := Nat.le_mul_of_pos_right _ hby
    simp only [maxLen]; omega
  have key : ∀ ad : Addr, (∀ j u, ys[j]? = some u → w.cell? (ad.add j) = some u) → A = some ad → ∃ v' w', (Builtin.append_ #[t, t] ty #[v, .slice A ys.length c]).run P w = .ok v' w' ∧ Owns w' B E v' (xs ++ ys) ∧ w.grownBy w' v.ownBlock ∧ (v'.ownBlock = v.ownBlock ∨ v'.ownBlock = some w.heap.size) := by
    intro ad hc hA
    subst hA
    obtain ⟨v', w', hr, ho, hg, _, hat⟩ := run_append_own_at (P := P) w B t ty E i z 1 by' ht hi hz0 hz1 hz2 hz (by decide) v xs.length xs hO ad ys.length c ys (by simp) hc h1 hmax hb hB
    exact ⟨v', w', hr, by unfold Owns; rw [List.length_append]; exact ho, hg, hat⟩
  by_cases hy : ys = []
  · subst hy
    cases A with
    | some ad => exact key ad (fun j u h => by simp at h) rfl
    | none =>
      refine ⟨v, w, run_append_none w B t ty E i ht hi v xs hO c, by simpa using hO, World.grownBy.refl w _, .inl rfl⟩
  · have hpos : 0 < ys.length := List.length_pos_iff.2 hy
    obtain ⟨b, o, rfl, hl, hc⟩ := hR.place hpos
    exact key ⟨b, o, none⟩ (fun j u hu => by
      have hadd : (⟨b, o, none⟩ : Addr).add j = ⟨b, o + j, none⟩ := by unfold Addr.add; split <;> simp_all
      rw [hadd]; exact hc j u hu) rfl

/-- append(v, ys...) -/
theorem app {ops : Array Oper} {rest : List Oper} {o : Oper} {a : Act} {w : World} {Q : Exit → Act → World → Prop} (hgd : o.guard = none) (s x : Operand) (t : TypeId)
    (ho : o.op = .call { callee := .builtin .append, args := #[s, x], argTypes := #[t, t] }) {E : TypeId} {z : Value} {by' : Nat} (ht : P.underlying t = some (.slice E))
    (hI : (P.info? E).map (fun i => (i.zero, i.size, i.bytes)) = some (some z, 1, by')) (hz : z.cells.size = 1) (hby : 0 < by')
    {B : Nat} {v : Value} {xs : List Value} (hO : Owns w B E v xs) (hs : a.eval s = v) {A : Option Addr} {m c : Nat} {ys : List Value} (hx : a.eval x = .slice A m c) (hm : ys.length = m) (hR : Rd w A ys) (h1 : ∀ u ∈ ys, u.oneCell' = true)
    (hb : (xs.length + m) * by' ≤ 140737488355328) (hB : B ≤ w.heap.size)
    (h : ∀ v' w', Owns w' B E v' (xs ++ ys) → w.grownBy w' v.ownBlock → (v'.ownBlock = v.ownBlock ∨ v'.ownBlock = some w.heap.size) → wpList P ops Q rest (a.put o.dst v') w') : wpList P ops Q (o :: rest) a w :=
  wpList_plain hgd fun _ hK => by
    obtain ⟨v', w', hr, h2, h3, h4⟩ := run_app (P := P) w t o.type ht hI hz hby hO (c := c) hm hR h1 hb hB
    unfold Oper.wp execOp
    simp only [ho, resolve, invoke, builtin, Sem.run_bind, Sem.run_pure, Result.andThen_ok, List.map_toArray, List.map_cons, List.map_nil, hs, hx, hr]
    exact hK _ _ (h v' w' h2 h3 h4)
theorem Rd.one (w : World) (T : TypeId) (y : Value) : Rd (w.alloc (.cells #[y] T)) (some ⟨w.heap.size, 0, none⟩) [y] := fun j x hj => by
  match j, hj with
  | 0, hj => simp at hj; subst hj; exact ⟨_, 0, rfl, by simp, (Rg.Blk.new w _ _).cell 0 rfl⟩
/-- append(v, y) -/
theorem app1 {ops : Array Oper} {rest : List Oper} {o : Oper} {a : Act} {w : World} {Q : Exit → Act → World → Prop} (hgd : o.guard = none) (s x : Operand) (t : TypeId)
    (ho : o.op = .call { callee := .builtin .append, args := #[s, x], argTypes := #[t, t] }) {E : TypeId} {z : Value} {by' : Nat} (ht : P.underlying t = some (.slice E))
    (hI : (P.info? E).map (fun i => (i.zero, i.size, i.bytes)) = some (some z, 1, by')) (hz : z.cells.size = 1) (hby : 0 < by')
    {B : Nat} {v : Value} {xs : List Value} (hO : Owns w B E v xs) (hs : a.eval s = v) {y : Value} {T : TypeId} (hx : a.eval x = .slice (some ⟨w.heap.size, 0, none⟩) 1 1) (h1 : y.oneCell' = true)
    (hb : (xs.length + 1) * by' ≤ 140737488355328) (hB : B ≤ w.heap.size)
    (h : ∀ v' w', Owns w' B E v' (xs ++ [y]) → w.grownBy w' v.ownBlock → (v'.ownBlock = v.ownBlock ∨ v'.ownBlock = some (w.heap.size + 1)) → wpList P ops Q rest (a.put o.dst v') w') : wpList P ops Q (o :: rest) a (w.alloc (.cells #[y] T)) := by
  refine app hgd s x t ho ht hI hz hby (hO.alloc _) hs hx rfl (Rd.one w T y) (by intro u hu; simp at hu; subst hu; exact h1) hb (by simp; omega) ?_
  intro v' w' h2 h3 h4
  exact h v' w' h2 ⟨h3.os, h3.tape, h3.output, by have := h3.size; simp at this; omega, fun k hk hne => (h3.block k (by simp; omega) hne).trans (Below.heap_alloc w _ k hk)⟩ (by simpa using h4)
/-- bytes -/
def bv (l : List UInt8) : List Value := Lib.byteCells l
theorem bv_length (l : List UInt8) : (bv l).length = l.length := by simp [bv, Lib.byteCells]
theorem bv_append (a b : List UInt8) : bv (a ++ b) = bv a ++ bv b := by simp [bv, Lib.byteCells]
theorem bv_one (b : UInt8) (x : Int) (h : x = b.toNat) : bv [b] = [.int .u8 x] := by simp [bv, Lib.byteCells, h]
theorem bv_cells (l : List UInt8) : ∀ u ∈ bv l, u.oneCell' = true := by
  intro u hu
  simp only [bv, Lib.byteCells, List.mem_map] at hu
  obtain ⟨x, _, rfl⟩ := hu
  rfl
theorem bv_get (l : List UInt8) (j : Nat) (b : UInt8) (h : l[j]? = some b) : (bv l)[j]? = some (.int .u8 b.toNat) := by simp [bv, Lib.byteCells, h]
theorem Rd.bytes {w : World} {A : Option Addr} {l : List UInt8} (h : Rd w A (bv l)) (hn : 0 < l.length) : ∃ b o, A = some ⟨b, o, none⟩ ∧ b < w.heap.size ∧ Cv.Bytes w b o l := by
  obtain ⟨b, o, hA, hl, hc⟩ := h.place (by rw [bv_length]; exact hn)
  exact ⟨b, o, hA, hl, fun j x hx => hc j _ (bv_get l j x hx)⟩
/-- string(v), v a slice of bytes, nil or not -/
theorem run_str (w : World) (src e dst : TypeId) (hs : P.underlying src = some (.slice e)) (he : P.underlying e = some (.int .u8)) (hd : P.underlying dst = some .string)
    {A : Option Addr} {n c : Nat} {l : List UInt8} (hn : l.length = n) (hR : Rd w A (bv l)) : (convert src dst (.slice A n c)).run P w = .ok (.string ⟨l.toArray⟩) w := by
  subst hn
  by_cases h0 : l = []
  · subst h0
    cases A with
    | none => unfold convert; simp [run_underlying hs, run_underlying he, run_underlying hd, go_sem]; rfl
    | some ad =>
      obtain ⟨b, o, q⟩ := ad
      unfold convert; simp [run_underlying hs, run_underlying he, run_underlying hd, go_sem]; rfl
  · obtain ⟨b, o, rfl, hl, hB⟩ := hR.bytes (List.length_pos_iff.2 h0)
    exact Cv.run_string_bytes w src e dst hs he hd b o c l hB
theorem str {ops : Array Oper} {rest : List Oper} {o : Oper} {a : Act} {w : World} {Q : Exit → Act → World → Prop} (hgd : o.guard = none) (src e dst : TypeId) (x : Operand) (ho : o.op = .convert src dst x)
    (hs : P.underlying src = some (.slice e)) (he : P.underlying e = some (.int .u8)) (hd : P.underlying dst = some .string) {B : Nat} {E : TypeId} {v : Value} {l : List UInt8} (hO : Owns w B E v (bv l)) (hx : a.eval x = v)
    (h : wpList P ops Q rest (a.put o.dst (.string ⟨l.toArray⟩)) w) : wpList P ops Q (o :: rest) a w :=
  wpList_plain hgd fun _ hK => by
    obtain ⟨A, c, hv, hR, _⟩ := hO.form
    rw [hv, bv_length] at hx
    unfold Oper.wp execOp
    simp only [ho, hx, Sem.run_bind, run_str (P := P) w src e dst hs he hd rfl hR, Result.andThen_ok, Sem.run_pure]
    exact hK _ _ h
end Go.Proofs.YtjfikbnfabdkoaaDoor.Ow
