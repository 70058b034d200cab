/- A slice of one's own that begins inside its row: what a queue is. -/
import Derived.Test.YtfcemnebhapidaaDoorTmSr
set_option linter.unusedVariables false
set_option linter.unusedSimpArgs false
namespace Go.Proofs.YtfcemnebhapidaaDoor.Te
open Go.RowKit Go.Proofs.YtfcemnebhapidaaDoor.Ow
/-- v reads as xs, in a block of B or above that nobody else looks at -/
def OwnQ (w : World) (B : Nat) (E : TypeId) (v : Value) (xs : List Value) : Prop :=
  (v = .slice none 0 0 ∧ xs = []) ∨ ∃ g off cap cur, v = .slice (some ⟨g, off, none⟩) xs.length cap ∧ B ≤ g ∧ w.heap[g]? = some (.cells cur E (0, 0)) ∧ xs.length ≤ cap ∧ cap ≤ maxLen ∧ off + cap ≤ cur.size ∧ ∀ j x, xs[j]? = some x → cur[off + j]? = some x
theorem OwnQ.of {w : World} {B : Nat} {E : TypeId} {v : Value} {xs : List Value} (h : Owns w B E v xs) : OwnQ w B E v xs := by
  rcases h.2 with ⟨rfl, h0⟩ | ⟨g, cap, cur, rfl, hB, hg, hnc, hcm, hcs, ht⟩
  · exact .inl ⟨rfl, List.eq_nil_of_length_eq_zero h0⟩
  · refine .inr ⟨g, 0, cap, cur, rfl, hB, hg, hnc, hcm, by omega, fun j x hx => ?_⟩
    rw [← ht, List.getElem?_take] at hx
    split at hx
    · rw [Nat.zero_add]; simpa using hx
    · cases hx
theorem OwnQ.lt {w : World} {B : Nat} {E : TypeId} {v : Value} {xs : List Value} (h : OwnQ w B E v xs) : ∀ k, v.ownBlock = some k → B ≤ k ∧ k < w.heap.size := by
  intro k hk
  rcases h with ⟨rfl, _⟩ | ⟨g, off, cap, cur, rfl, hB, hg, _⟩
  · cases hk
  · simp [Value.ownBlock] at hk
    subst hk
    exact ⟨hB, (Array.getElem?_eq_some_iff.1 hg).1⟩
theorem OwnQ.kept {w w' : World} {B : Nat} {E : TypeId} {v : Value} {xs : List Value} (h : OwnQ w B E v xs) (hk : ∀ g, v.ownBlock = some g → w'.heap[g]? = w.heap[g]?) : OwnQ w' B E v xs := by
  rcases h with h | ⟨g, off, cap, cur, rfl, hB, hg, rest⟩
  · exact .inl h
  · exact .inr ⟨g, off, cap, cur, rfl, hB, by rw [hk g rfl]; exact hg, rest⟩
theorem OwnQ.below {w w' : World} {B : Nat} {E : TypeId} {v : Value} {xs : List Value} (h : OwnQ w B E v xs) (hb : Below w.heap.size w w') : OwnQ w' B E v xs := h.kept fun g hg => hb.block g (h.lt g hg).2
theorem OwnQ.form {w : World} {B : Nat} {E : TypeId} {v : Value} {xs : List Value} (h : OwnQ w B E v xs) : ∃ A c, v = .slice A xs.length c ∧ Rd w A xs ∧ xs.length ≤ c := by
  rcases h with ⟨rfl, rfl⟩ | ⟨g, off, cap, cur, rfl, hB, hg, hn, hm, hs, hx⟩
  · exact ⟨none, 0, rfl, Rd.nil _ _, Nat.le_refl _⟩
  · refine ⟨_, cap, rfl, fun j x hj => ⟨g, off, rfl, (Array.getElem?_eq_some_iff.1 hg).1, ?_⟩, hn⟩
    unfold World.cell?
    simp [hg]
    exact hx j x hj
theorem run_append_room_off {P : Program} (w : World) (t ty e : TypeId) (i : TypeInfo) (ht : P.underlying t = some (.slice e)) (hi : P.info? e = some i)
    (g off sLen sCap : Nat) (cur : Array Value) (hg : w.heap[g]? = some (.cells cur e (0, 0)))
    (a : Addr) (m c : Nat) (news : List Value) (hl : news.length = m * i.size) (hnews : ∀ j u, news[j]? = some u → w.cell? (a.add j) = some u) (h1 : ∀ u ∈ news, u.oneCell' = true)
    (hroom : sLen + m ≤ sCap) (hfit : off + sLen * i.size + news.length ≤ cur.size) :
    (Builtin.append_ #[t, t] ty #[.slice (some ⟨g, off, none⟩) sLen sCap, .slice (some a) m c]).run P w =
      .ok (.slice (some ⟨g, off, none⟩) (sLen + m) sCap) (w.setRow g (cur.toList.take (off + sLen * i.size) ++ news ++ cur.toList.drop (off + sLen * i.size + news.length)).toArray) := by
  have hf := run_firstCells_some (P := P) w i.size m a m c news hl hnews
  have hst := run_storeCells_at P g (off + sLen * i.size) e news 0 cur w hg (by simpa using hfit) h1
  simp only [Nat.add_zero] at hst
  have hadd : (⟨g, off, none⟩ : Addr).add (sLen * i.size) = ⟨g, off + sLen * i.size, none⟩ := by unfold Addr.add; split <;> simp_all
  simp [Builtin.append_, run_underlying ht, sizeOf, typeInfo, hi, Builtin.lenOf, hroom, hf, hadd, hst]
theorem run_append_zero {P : Program} (w : World) (t ty E : TypeId) (i : TypeInfo) (ht : P.underlying t = some (.slice E)) (hi : P.info? E = some i) (B : Nat) (v : Value) (xs : List Value) (h : OwnQ w B E v xs) (A : Option Addr) (c : Nat) :
    (Builtin.append_ #[t, t] ty #[v, .slice A 0 c]).run P w = .ok v w := by
  rcases h with ⟨rfl, _⟩ | ⟨g, off, cap, cur, rfl, hB, hg, hn, _⟩
  · cases A <;> simp [Builtin.append_, run_underlying ht, sizeOf, typeInfo, hi, Builtin.lenOf, Builtin.firstCells, loadCells, loadCellsFrom]
  · cases A <;> simp [Builtin.append_, run_underlying ht, sizeOf, typeInfo, hi, Builtin.lenOf, Builtin.firstCells, loadCells, loadCellsFrom, hn, storeCells]
theorem run_appQ {P : Program} (w : World) (t ty : TypeId) {E : TypeId} {z : Value} {by' : Nat} (ht : P.underlying t = some (.slice E)) (hI : (P.info? E).map (fun i => (i.zero, i.size, i.bytes)) = some (some z, 1, by')) (hz : z.cells.size = 1) (hby : 0 < by')
    {B : Nat} {v : Value} {xs : List Value} (hO : OwnQ w B E v xs) {A : Option Addr} {m c : Nat} {ys : List Value} (hm : ys.length = m) (hR : Rd w A ys) (h1 : ∀ u ∈ ys, u.oneCell' = true)
    (hb : (xs.length + m) * by' ≤ 140737488355328) (hB : B ≤ w.heap.size) :
    ∃ v' w', (Builtin.append_ #[t, t] ty #[v, .slice A m c]).run P w = .ok v' w' ∧ OwnQ w' B E v' (xs ++ ys) ∧ w.grownBy w' v.ownBlock ∧ (v'.ownBlock = v.ownBlock ∨ v'.ownBlock = some w.heap.size) := by
  subst hm
  obtain ⟨i, hi, hz0, hz1, hz2⟩ := info_parts hI
  have hle : xs.length + ys.length ≤ (xs.length + ys.length) * by' := Nat.le_mul_of_pos_right _ hby
  have hmax : xs.length + ys.length ≤ maxLen := by simp only [maxLen]; omega
  by_cases hy : ys = []
  · subst hy
    exact ⟨v, w, run_append_zero w t ty E i ht hi B v xs hO A c, by simpa using hO, World.grownBy.refl w _, .inl rfl⟩
  · obtain ⟨b, o, rfl, hl, hc⟩ := hR.place (List.length_pos_iff.2 hy)
    have hpos := List.length_pos_iff.2 hy
    have hadd : ∀ (b o j : Nat), (⟨b, o, none⟩ : Addr).add j = ⟨b, o + j, none⟩ := fun b o j => by unfold Addr.add; split <;> simp_all
    have hnews : ∀ j u, ys[j]? = some u → w.cell? ((⟨b, o, none⟩ : Addr).add j) = some u := fun j u hu => by rw [hadd]; exact hc j u hu
    have hfresh : ∀ (cs : List Value) (cap : Nat), (xs ++ ys).length ≤ cap → cap ≤ maxLen → OwnQ (w.drew.alloc (.cells ((xs ++ ys).toArray ++ Builtin.zeroCells z.cells (cap - (xs ++ ys).length)) E)) B E (.slice (some ⟨w.heap.size, 0, none⟩) (xs ++ ys).length cap) (xs ++ ys) := fun _ cap h2 h3 => by
      refine .inr ⟨w.heap.size, 0, cap, _, rfl, hB, heap_alloc_new w.drew _, h2, h3, ?_, fun j x hj => ?_⟩
      · simp only [Array.size_append, List.size_toArray, size_zeroCells, hz]; omega
      · have hjl := (List.getElem?_eq_some_iff.1 hj).1
        rw [Nat.zero_add, Array.getElem?_append_left (by rw [List.size_toArray]; exact hjl)]
        simpa using hj
    rcases hO with ⟨rfl, rfl⟩ | ⟨g, off, cap, cur, rfl, hBg, hg, hn, hcm, hos, hx⟩
    · have hr := run_append_nil (P := P) w t ty E i z ht hi hz0 ⟨b, o, none⟩ ys.length c ys (by rw [hz1]; simp) hnews hpos (by have := hmax; simp only [maxLen] at this; simp at this; omega) (by rw [hz2]; simp at hb; omega)
      have hge := grownCap_ge w ys.length 0 E
      have hcm := grownCap_le_maxLen w ys.length 0 E (by simpa using hmax)
      have := hfresh [] (grownCap w ys.length 0 E) (by simpa using hge) hcm
      simp only [List.nil_append] at this ⊢
      exact ⟨_, _, hr, this, ⟨rfl, rfl, rfl, by simp, fun k hk _ => Below.heap_alloc w.drew _ k hk⟩, .inr rfl⟩
    · by_cases hroom : xs.length + ys.length ≤ cap
      · have hfit : off + xs.length * i.size + ys.length ≤ cur.size := by rw [hz1]; omega
        have hr := run_append_room_off (P := P) w t ty E i ht hi g off xs.length cap cur hg ⟨b, o, none⟩ ys.length c ys (by rw [hz1]; simp) hnews h1 hroom hfit
        rw [hz1, Nat.mul_one] at hr
        refine ⟨_, _, hr, .inr ⟨g, off, cap, _, by rw [List.length_append], hBg, setRow_heap w g cur _ E _ hg, by rw [List.length_append]; exact hroom, hcm, ?_, fun j x hj => ?_⟩, ⟨rfl, rfl, rfl, by simp, fun k _ hk => setRow_other w g k _ (fun e => hk (by simp [Value.ownBlock, e]))⟩, .inl rfl⟩
        · simp
          omega
        · have hcl : (cur.toList.take (off + xs.length)).length = off + xs.length := by have h9 : cur.toList.length = cur.size := Array.length_toList; rw [List.length_take, h9]; omega
          simp only [List.getElem?_toArray]
          by_cases hjx : j < xs.length
          · rw [List.getElem?_append_left hjx] at hj
            rw [List.append_assoc, List.getElem?_append_left (by rw [hcl]; omega), List.getElem?_take, if_pos (by omega)]
            have := hx j x hj
            simpa using this
          · rw [List.getElem?_append_right (by omega)] at hj
            have hjy := (List.getElem?_eq_some_iff.1 hj).1
            rw [List.append_assoc, List.getElem?_append_right (by rw [hcl]; omega), hcl, List.getElem?_append_left (by omega), show off + j - (off + xs.length) = j - xs.length by omega]
            exact hj
      · have holds : ∀ j u, xs[j]? = some u → w.cell? ((⟨g, off, none⟩ : Addr).add j) = some u := fun j u hu => by
          rw [hadd]
          unfold World.cell?
          simp [hg]
          exact hx j u hu
        have hr := run_append_grow (P := P) w t ty E i z ht hi hz0 ⟨g, off, none⟩ xs.length cap xs (by rw [hz1]; simp) holds ⟨b, o, none⟩ ys.length c ys (by rw [hz1]; simp) hnews (by omega) (by have := hmax; simp only [maxLen] at this; omega) (growslice_fits (by omega) (by rw [hz2]; exact hb))
        have hge := grownCap_ge w (xs.length + ys.length) cap E
        have hcm2 := grownCap_le_maxLen w (xs.length + ys.length) cap E hmax
        have := hfresh [] (grownCap w (xs.length + ys.length) cap E) (by rw [List.length_append]; exact hge) hcm2
        rw [List.length_append] at this
        have he : (xs ++ ys).toArray = xs.toArray ++ ys.toArray := by simp
        rw [he] at this
        exact ⟨_, _, hr, this, ⟨rfl, rfl, rfl, by simp, fun k hk _ => Below.heap_alloc w.drew _ k hk⟩, .inr rfl⟩
/-- append(v, ys...) at the operation, guarded or not -/
theorem appQ_op {P : Program} {o : Oper} {a : Act} {w : World} {K : Act → World → Prop} {Q : Exit → Act → World → Prop} (s x : Operand) (t : TypeId)
    (ho : o.op = .call { callee := .builtin .append, args := #[s, x], argTypes := #[t, t] }) {E : TypeId} {z : Value} {by' : Nat} (ht : P.underlying t = some (.slice E))
    (hI : (P.info? E).map (fun i => (i.zero, i.size, i.bytes)) = some (some z, 1, by')) (hz : z.cells.size = 1) (hby : 0 < by')
    {B : Nat} {v : Value} {xs : List Value} (hO : OwnQ w B E v xs) (hs : a.eval s = v) {A : Option Addr} {m c : Nat} {ys : List Value} (hx : a.eval x = .slice A m c) (hm : ys.length = m) (hR : Rd w A ys) (h1 : ∀ u ∈ ys, u.oneCell' = true)
    (hb : (xs.length + m) * by' ≤ 140737488355328) (hB : B ≤ w.heap.size)
    (h : ∀ v' w', OwnQ w' B E v' (xs ++ ys) → w.grownBy w' v.ownBlock → (v'.ownBlock = v.ownBlock ∨ v'.ownBlock = some w.heap.size) → K (a.put o.dst v') w') : Oper.wp P o a w K Q := by
  obtain ⟨v', w', hr, h2, h3, h4⟩ := run_appQ (P := P) w t o.type ht hI hz hby hO (c := c) hm hR h1 hb hB
  unfold Oper.wp execOp
  simp only [ho, resolve, invoke, builtin, Sem.run_bind, Sem.run_pure, Result.andThen_ok, List.map_toArray, List.map_cons, List.map_nil, hs, hx, hr]
  exact h v' w' h2 h3 h4
theorem appQ {P : Program} {ops : Array Oper} {rest : List Oper} {o : Oper} {a : Act} {w : World} {Q : Exit → Act → World → Prop} (hgd : o.guard = none) (s x : Operand) (t : TypeId)
    (ho : o.op = .call { callee := .builtin .append, args := #[s, x], argTypes := #[t, t] }) {E : TypeId} {z : Value} {by' : Nat} (ht : P.underlying t = some (.slice E))
    (hI : (P.info? E).map (fun i => (i.zero, i.size, i.bytes)) = some (some z, 1, by')) (hz : z.cells.size = 1) (hby : 0 < by')
    {B : Nat} {v : Value} {xs : List Value} (hO : OwnQ w B E v xs) (hs : a.eval s = v) {A : Option Addr} {m c : Nat} {ys : List Value} (hx : a.eval x = .slice A m c) (hm : ys.length = m) (hR : Rd w A ys) (h1 : ∀ u ∈ ys, u.oneCell' = true)
    (hb : (xs.length + m) * by' ≤ 140737488355328) (hB : B ≤ w.heap.size)
    (h : ∀ v' w', OwnQ w' B E v' (xs ++ ys) → w.grownBy w' v.ownBlock → (v'.ownBlock = v.ownBlock ∨ v'.ownBlock = some w.heap.size) → wpList P ops Q rest (a.put o.dst v') w') : wpList P ops Q (o :: rest) a w :=
  wpList_plain hgd fun _ hK => by
    obtain ⟨v', w', hr, h2, h3, h4⟩ := run_appQ (P := P) w t o.type ht hI hz hby hO (c := c) hm hR h1 hb hB
    unfold Oper.wp execOp
    simp only [ho, resolve, invoke, builtin, Sem.run_bind, Sem.run_pure, Result.andThen_ok, List.map_toArray, List.map_cons, List.map_nil, hs, hx, hr]
    exact hK _ _ (h v' w' h2 h3 h4)
/-- the back of a queue -/
theorem slice_tail {P : Program} (t E : TypeId) (ht : P.underlying t = some (.slice E)) (hs : (P.info? E).map (·.size) = some 1) {w : World} {B : Nat} {v x : Value} {xs : List Value} (h : OwnQ w B E v (x :: xs)) :
    ∃ v', OwnQ w B E v' xs ∧ v'.ownBlock = v.ownBlock ∧ ∀ W, (Instr.slice t v (some (.int .i64 1)) none none).run P W = .ok v' W := by
  rcases h with ⟨_, h⟩ | ⟨g, off, cap, cur, rfl, hBg, hg, hn, hcm, hos, hx⟩
  · cases h
  · have hn' : xs.length + 1 ≤ cap := hn
    have hadd : ∀ (b o j : Nat), (⟨b, o, none⟩ : Addr).add j = ⟨b, o + j, none⟩ := fun b o j => by unfold Addr.add; split <;> simp_all
    refine ⟨.slice (some (if cap = 1 then ⟨g, off, none⟩ else ⟨g, off + 1, none⟩)) xs.length (cap - 1), ?_, ?_, fun W => ?_⟩
    · by_cases hc : cap = 1
      · subst hc
        have : xs = [] := List.eq_nil_of_length_eq_zero (by omega)
        subst this
        rw [if_pos rfl]
        exact .inr ⟨g, off, 0, cur, rfl, hBg, hg, Nat.zero_le _, by omega, by omega, fun j x hj => by simp at hj⟩
      · rw [if_neg hc]
        refine .inr ⟨g, off + 1, cap - 1, cur, rfl, hBg, hg, by omega, by omega, by omega, fun j y hj => ?_⟩
        have := hx (j + 1) y (by simpa using hj)
        rw [show off + 1 + j = off + (j + 1) by omega]
        exact this
    · split <;> rfl
    · have hb : (Instr.sliceBounds true (x :: xs).length cap (some (.int .i64 1)) none none).run P W = .ok (1, (x :: xs).length, cap) W := by
        simp [Instr.sliceBounds, Sem.run_bind, go_sem]
        intro h; omega
      have hz : (sizeOf E).run P W = .ok 1 W := by
        cases hq : P.info? E with
        | none => simp [hq] at hs
        | some i =>
          have : i.size = 1 := by simpa [hq] using hs
          simp [sizeOf, typeInfo, hq, Sem.run_bind, this]
      unfold Instr.slice
      simp only [Sem.run_bind, run_underlying ht W, Result.andThen_ok, hb, hz, Sem.run_pure]
      by_cases hc : cap = 1
      · simp [hc]
      · simp [hc, hadd]
end Go.Proofs.YtfcemnebhapidaaDoor.Te
