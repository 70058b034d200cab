/- Slices whose elements are arrays of 32 bytes; append; slices.Clone. -/
import Derived.Test.YtgdbplciepiinaaDoorChecked
import Derived.Test.YtgdbplciepiinaaDoorGenA
import Derived.Maps.AppendAt
import Derived.WalkKit
import Derived.Lib.SliceRun
set_option linter.unusedVariables false
set_option linter.unusedSimpArgs false
namespace Go.Proofs.YtgdbplciepiinaaDoor.St
open Go.RowKit Go.Proofs.YtgdbplciepiinaaDoor.Ow
variable {P : Program}
/-- append at elements of any size -/
theorem run_appN (w : World) (t ty : TypeId) {E : TypeId} {z : Value} {sz by' : Nat} (ht : P.underlying t = some (.slice E)) (hI : (P.info? E).map (fun i => (i.zero, i.size, i.bytes)) = some (some z, sz, by')) (hz : z.cells.size = sz) (hsz : 0 < sz) (hby : 0 < by')
    {B n : Nat} {v : Value} {xs : List Value} (hO : w.ownsRow B E sz v n xs) {ad : Addr} {m c : Nat} {ys : List Value} (hm : ys.length = m * sz) (hR : Rd w (some ad) ys) (h1 : ∀ u ∈ ys, u.oneCell' = true)
    (hb : (n + m) * by' ≤ 140737488355328) (hB : B ≤ w.heap.size) :
    ∃ v' w', (Builtin.append_ #[t, t] ty #[v, .slice (some ad) m c]).run P w = .ok v' w' ∧ w'.ownsRow B E sz v' (n + m) (xs ++ ys) ∧ w.grownBy w' v.ownBlock ∧ (v'.ownBlock = v.ownBlock ∨ v'.ownBlock = some w.heap.size) := by
  obtain ⟨i, hi, hz0, hz1, hz2⟩ := info_parts hI
  have hmax : n + m ≤ maxLen := by
    have : n + m ≤ (n + m) * by' := Nat.le_mul_of_pos_right _ hby
    simp only [maxLen]; omega
  obtain ⟨v', w', hr, ho, hg, _, hat⟩ := run_append_own_at (P := P) w B t ty E i z sz by' ht hi hz0 hz1 hz2 hz hsz v n xs hO ad m c ys hm (fun j u hu => by
    obtain ⟨b, o, e, _, hc⟩ := hR j u hu
    obtain rfl : ad = ⟨b, o, none⟩ := Option.some.inj e
    have hadd : (⟨b, o, none⟩ : Addr).add j = ⟨b, o + j, none⟩ := by unfold Addr.add; split <;> simp_all
    rw [hadd]; exact hc) h1 hmax hb hB
  exact ⟨v', w', hr, ho, hg, hat⟩
theorem appN {ops : Array Oper} {rest : List Oper} {o : Oper} {a : Act} {w : World} {Q : Exit → Act → World → Prop} (hgd : o.guard = none) (s x : Operand) (t : TypeId)
    (ho : o.op = .call { callee := .builtin .append, args := #[s, x], argTypes := #[t, t] }) {E : TypeId} {z : Value} {sz by' : Nat} (ht : P.underlying t = some (.slice E))
    (hI : (P.info? E).map (fun i => (i.zero, i.size, i.bytes)) = some (some z, sz, by')) (hz : z.cells.size = sz) (hsz : 0 < sz) (hby : 0 < by')
    {B n : Nat} {v : Value} {xs : List Value} (hO : w.ownsRow B E sz v n xs) (hs : a.eval s = v) {ad : Addr} {m c : Nat} {ys : List Value} (hx : a.eval x = .slice (some ad) m c) (hm : ys.length = m * sz) (hR : Rd w (some ad) ys) (h1 : ∀ u ∈ ys, u.oneCell' = true)
    (hb : (n + m) * by' ≤ 140737488355328) (hB : B ≤ w.heap.size)
    (h : ∀ v' w', w'.ownsRow B E sz v' (n + m) (xs ++ ys) → w.grownBy w' v.ownBlock → (v'.ownBlock = v.ownBlock ∨ v'.ownBlock = some w.heap.size) → wpList P ops Q rest (a.put o.dst v') w') : wpList P ops Q (o :: rest) a w :=
  wpList_plain hgd fun _ hK => by
    obtain ⟨v', w', hr, h2, h3, h4⟩ := run_appN (P := P) w t o.type ht hI hz hsz hby hO (c := c) hm hR h1 hb hB
    unfold Oper.wp execOp
    simp only [ho, resolve, invoke, builtin, Sem.run_bind, Sem.run_pure, Result.andThen_ok, List.map_toArray, List.map_cons, List.map_nil, hs, hx, hr]
    exact hK _ _ (h v' w' h2 h3 h4)
/-- cells of arrays of bytes, one behind the other -/
@[irreducible] def cells (l : List (List UInt8)) : List Value := l.flatMap bv
theorem cells_nil : cells [] = [] := by unfold cells; rfl
theorem cells_append (a b : List (List UInt8)) : cells (a ++ b) = cells a ++ cells b := by unfold cells; exact List.flatMap_append
theorem cells_one (x : List UInt8) : cells [x] = bv x := by unfold cells; simp
theorem cells_length : ∀ l : List (List UInt8), (∀ x ∈ l, x.length = 32) → (cells l).length = l.length * 32
  | [], _ => by rw [cells_nil]; rfl
  | x :: l, h => by
    rw [show x :: l = [x] ++ l from rfl, cells_append, cells_one, List.length_append, bv_length, cells_length l (fun y hy => h y (by simp [hy])), h x (by simp)]
    simp; omega
theorem cells_oneCell (l : List (List UInt8)) : ∀ u ∈ cells l, u.oneCell' = true := by
  unfold cells
  intro u hu
  obtain ⟨x, _, hx⟩ := List.mem_flatMap.1 hu
  exact bv_cells x u hx
theorem cells_at {l : List (List UInt8)} (h : ∀ x ∈ l, x.length = 32) {j : Nat} {x : List UInt8} (hx : l[j]? = some x) : ∀ i v, (bv x)[i]? = some v → (cells l)[j * 32 + i]? = some v := by
  intro i v hv
  have hj := (List.getElem?_eq_some_iff.1 hx).1
  have e : l = l.take j ++ [x] ++ l.drop (j + 1) := by
    have := List.take_append_drop j l
    rw [List.drop_eq_getElem_cons hj] at this
    rw [← (List.getElem?_eq_some_iff.1 hx).2]
    simp
  have hl : (cells (l.take j)).length = j * 32 := by
    rw [cells_length _ (fun y hy => h y (List.mem_of_mem_take hy)), List.length_take, Nat.min_eq_left (by omega)]
  rw [e, cells_append, cells_append, cells_one, List.append_assoc, List.getElem?_append_right (by omega), hl]
  have hi : i < (bv x).length := (List.getElem?_eq_some_iff.1 hv).1
  rw [show j * 32 + i - j * 32 = i by omega, List.getElem?_append_left hi]
  exact hv
/-- v is a slice of arrays of 32 bytes that reads as l -/
def KS (w : World) (v : Value) (l : List (List UInt8)) : Prop := ∃ A c, v = .slice A l.length c ∧ l.length ≤ c ∧ c ≤ maxLen ∧ Rd w A (cells l) ∧ ∀ x ∈ l, x.length = 32
theorem KS.nil (w : World) : KS w (.slice none 0 0) [] := ⟨none, 0, rfl, Nat.le_refl _, Nat.zero_le _, by rw [cells_nil]; exact Rd.nil _ _, fun x h => by simp at h⟩
theorem KS.below {w w' : World} {v : Value} {l : List (List UInt8)} (h : KS w v l) (hb : Below w.heap.size w w') : KS w' v l := by
  obtain ⟨A, c, h1, h2, h3, h4, h5⟩ := h
  exact ⟨A, c, h1, h2, h3, h4.below hb, h5⟩
/-- only a map's block has turned -/
theorem KS.map {w w' : World} {v : Value} {l : List (List UInt8)} {b : Nat} (h : KS w v l) (hg : w.grownBy w' (some b)) (hm : ∃ es clock, w.heap[b]? = some (.map es clock)) : KS w' v l := by
  obtain ⟨A, c, h1, h2, h3, h4, h5⟩ := h
  refine ⟨A, c, h1, h2, h3, fun j x hx => ?_, h5⟩
  obtain ⟨g, o, e1, e2, e3⟩ := h4 j x hx
  have hne : g ≠ b := by
    rintro rfl
    obtain ⟨es, clock, hm⟩ := hm
    unfold World.cell? at e3
    simp [hm] at e3
  refine ⟨g, o, e1, Nat.lt_of_lt_of_le e2 hg.size, ?_⟩
  have := hg.block g e2 (fun e => hne (Option.some.inj e))
  unfold World.cell? at e3 ⊢
  simp only [this]
  exact e3
theorem KS.own {w : World} {B : Nat} {v : Value} {l : List (List UInt8)} (h : w.ownsRow B 34 32 v l.length (cells l)) (hl : ∀ x ∈ l, x.length = 32) : KS w v l := by
  have h0 := h
  rcases h0.2 with ⟨hv, hn⟩ | ⟨g, cap, cur, hv, _, hg, hc, hm, _⟩
  · have : l = [] := List.eq_nil_of_length_eq_zero hn
    subst this
    rw [hv]; exact KS.nil w
  · refine ⟨_, cap, hv, hc, hm, fun j x hx => ⟨g, 0, rfl, (Array.getElem?_eq_some_iff.1 hg).1, ?_⟩, hl⟩
    have := World.ownsRow.cells h (g := g) (by rw [hv]; rfl) j x hx
    have hadd : (⟨g, 0, none⟩ : Addr).add j = ⟨g, j, none⟩ := by unfold Addr.add; split <;> simp_all
    rw [hadd] at this
    rw [Nat.zero_add]; exact this
theorem infoK : (Tryd.prog.info? 34).map (fun i => (i.zero, i.size, i.bytes)) = some (some (.agg #[.int .u8 0, .int .u8 0, .int .u8 0, .int .u8 0, .int .u8 0, .int .u8 0, .int .u8 0, .int .u8 0, .int .u8 0, .int .u8 0, .int .u8 0, .int .u8 0, .int .u8 0, .int .u8 0, .int .u8 0, .int .u8 0, .int .u8 0, .int .u8 0, .int .u8 0, .int .u8 0, .int .u8 0, .int .u8 0, .int .u8 0, .int .u8 0, .int .u8 0, .int .u8 0, .int .u8 0, .int .u8 0, .int .u8 0, .int .u8 0, .int .u8 0, .int .u8 0]), 32, 32) := by kernel_rfl
set_option maxRecDepth 20000 in
set_option maxHeartbeats 1000000 in
theorem Clone_any (w : World) (v : Value) (l : List (List UInt8)) (h : KS w v l) (hl : l.length ≤ 1000000) :
    Calls Tryd.prog 25 #[v] w fun e w' => ∃ v', e = .returned v' ∧ w'.ownsRow w.heap.size 34 32 v' l.length (cells l) ∧ Below w.heap.size w w' := by
  obtain ⟨A, c, rfl, hc, hm, hR, hk⟩ := h
  cases A with
  | none =>
    have hl0 : l = [] := by
      cases l with
      | nil => rfl
      | cons x l =>
        have hp : 0 < (cells (x :: l)).length := by rw [cells_length _ hk]; simp
        obtain ⟨b, o, e, _⟩ := hR 0 _ (List.getElem?_eq_getElem hp)
        cases e
    subst hl0
    rw [cells_nil]
    have he := Lib.run_eql_slice_nil (P := Tryd.prog) w 50 34 none 0 c 0 0 Tryd.underlying50
    go_enter Tryd.func25, Tryd.ntmps25
    go_wp2
    go_ret
    exact ⟨_, rfl, World.ownsRow_nil _ _ _ _, Below.refl _ _⟩
  | some ad =>
    have HR := Lib.hid hR
    have HN := Lib.hid (cells_length l hk)
    have HL := Lib.hid hl
    have he := Lib.run_eql_slice_nil (P := Tryd.prog) w 50 34 (some ad) l.length c 0 0 Tryd.underlying50
    have HO := Lib.hid (show (w.alloc (.cells #[] 34)).ownsRow w.heap.size 34 32 (.slice (some ⟨w.heap.size, 0, none⟩) 0 0) 0 [] from World.ownsRow_lit (base := w.heap.size) (e := 34) (size := 32) w #[] 0 (Nat.le_refl _) (Nat.zero_le _) (by simp))
    have HB := Lib.hid (show Below w.heap.size w (w.alloc (.cells #[] 34)) from (Below.refl _ _).alloc (Nat.le_refl _) _)
    clear hR hc hm hk hl
    go_enter Tryd.func25, Tryd.ntmps25
    go_wp2_with (refine appN rfl _ _ 50 rfl Tryd.underlying50 infoK rfl (by decide) (by decide) HO.out rfl rfl HN.out (HR.out.below HB.out) (cells_oneCell l) (by have := HL.out; omega) HB.out.size ?_; intro v' w' h2 h3 h4; have H2 := Lib.hid h2; have H3 := Lib.hid h3; clear h2 h3 h4)
    go_ret
    refine ⟨_, rfl, ?_, ?_⟩
    · have := H2.out
      rwa [Nat.zero_add, List.nil_append] at this
    · exact HB.out.grown H3.out HB.out.size (fun k hk => by cases hk; exact Nat.le_refl _)
end Go.Proofs.YtgdbplciepiinaaDoor.St
