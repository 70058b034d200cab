/- A row of strings that grows: no term lies in it. -/
import Derived.Test.YtfcemnebhapidaaDoorTmAw
set_option linter.unusedVariables false
set_option linter.unusedSimpArgs false
namespace Go.Proofs.YtfcemnebhapidaaDoor.Te
open Go.RowKit Go.Proofs.YtfcemnebhapidaaDoor.Ow Go.Proofs.YtfcemnebhapidaaDoor.Mp Go.Maps
def isStr (v : Value) : Prop := ∃ s, v = .string s
/-- v's own block holds nothing but strings -/
def StrRow (w : World) (v : Value) : Prop := ∀ g, v.ownBlock = some g → ∃ cs T, Rg.Blk w g T cs ∧ ∀ u ∈ cs, isStr u
theorem StrRow.nil (w : World) : StrRow w (.slice none 0 0) := fun g h => by cases h
theorem StrRow.kept {w w' : World} {v : Value} (h : StrRow w v) (hk : ∀ g, v.ownBlock = some g → w'.heap[g]? = w.heap[g]?) : StrRow w' v := fun g hg => by
  obtain ⟨cs, T, h1, h2⟩ := h g hg
  exact ⟨cs, T, by unfold Rg.Blk at *; rw [hk g hg]; exact h1, h2⟩
theorem StrRow.below {w w' : World} {v : Value} {B : Nat} {E : TypeId} {xs : List Value} (h : StrRow w v) (ho : Owns w B E v xs) (hb : Below w.heap.size w w') : StrRow w' v := h.kept fun g hg => hb.block g (ho.lt g hg).2
theorem StrRow.upd {w w' : World} {v : Value} {B kb mb : Nat} {E : TypeId} {xs : List Value} (h : StrRow w v) (ho : Owns w B E v xs) (hu : Sp.Upd w w' [kb, mb]) (h1 : kb < B) (h2 : mb < B) : StrRow w' v :=
  h.kept fun g hg => hu.block g (ho.lt g hg).2 (by have := (ho.lt g hg).1; simp; omega)
theorem zero_str : ∀ (n : Nat), ∀ u ∈ Builtin.zeroCells #[Value.string ⟨#[]⟩] n, isStr u := by
  intro n u hu
  simp [Builtin.zeroCells, Nat.mod_one] at hu
  first
    | exact ⟨_, hu.2.symm⟩
    | (obtain ⟨a, _, h⟩ := hu; exact ⟨_, h.symm⟩)
    | exact ⟨_, hu.2⟩
set_option maxRecDepth 4000 in
theorem run_app_str {P : Program} (w : World) (t ty : TypeId) {E : TypeId} {by' : Nat} (ht : P.underlying t = some (.slice E)) (hI : (P.info? E).map (fun i => (i.zero, i.size, i.bytes)) = some (some (.string ⟨#[]⟩), 1, by')) (hby : 0 < by')
    {B : Nat} {v : Value} {xs : List Value} (hO : Owns w B E v xs) (hx : ∀ u ∈ xs, isStr u) (hS : StrRow w v) {b o c : Nat} {s : ByteArray} (hc : w.cell? ⟨b, o, none⟩ = some (.string s))
    (hb : (xs.length + 1) * by' ≤ 140737488355328) (hB : B ≤ w.heap.size) :
    ∃ v' w', (Builtin.append_ #[t, t] ty #[v, .slice (some ⟨b, o, none⟩) 1 c]).run P w = .ok v' w' ∧ Owns w' B E v' (xs ++ [.string s]) ∧ w.grownBy w' v.ownBlock ∧ (v'.ownBlock = v.ownBlock ∨ v'.ownBlock = some w.heap.size) ∧ StrRow w' v' := by
  obtain ⟨i, hi, hz0, hz1, hz2⟩ := info_parts hI
  have hmax : xs.length + 1 ≤ maxLen := by
    have : xs.length + 1 ≤ (xs.length + 1) * by' := Nat.le_mul_of_pos_right _ hby
    simp only [maxLen]; omega
  have hsm : xs.length + 1 ≤ 9223372036854775807 := by simp only [maxLen] at hmax; omega
  have hnews : ∀ j u, ([Value.string s] : List Value)[j]? = some u → w.cell? ((⟨b, o, none⟩ : Addr).add j) = some u := fun j u hu => by
    match j, hu with
    | 0, hu => simp at hu; subst hu; simpa [Addr.add] using hc
  have h1 : ∀ u ∈ ([Value.string s] : List Value), u.oneCell' = true := fun u hu => by simp at hu; subst hu; rfl
  obtain ⟨v', w', hr, ho, hg, _, hat⟩ := run_append_own_at (P := P) w B t ty E i (.string ⟨#[]⟩) 1 by' ht hi hz0 hz1 hz2 rfl (by decide) v xs.length xs hO ⟨b, o, none⟩ 1 c [.string s] rfl hnews h1 hmax hb hB
  refine ⟨v', w', hr, by unfold Owns; rw [List.length_append]; exact ho, hg, hat, ?_⟩
  rcases hO.2 with ⟨rfl, h0⟩ | ⟨g, cap, cur, rfl, hbg, hgg, hnc, hcm, hcs, htake⟩
  · have hx0 : xs = [] := List.eq_nil_of_length_eq_zero h0
    subst hx0
    have hr2 := run_append_nil (P := P) w t ty E i (.string ⟨#[]⟩) ht hi hz0 ⟨b, o, none⟩ 1 c [.string s] (by rw [hz1]; rfl) hnews (by decide) (by decide) (by rw [hz2]; simp at hb; omega)
    rw [hr] at hr2
    simp only [Result.ok.injEq] at hr2
    obtain ⟨rfl, rfl⟩ := hr2
    intro g hg
    simp [Value.ownBlock] at hg
    subst hg
    refine ⟨_, _, Rg.Blk.newAt (by simp) _ _, fun u hu => ?_⟩
    rcases Array.mem_append.1 hu with hu | hu
    · simp at hu; exact ⟨s, hu⟩
    · exact zero_str _ u hu
  · by_cases hroom : xs.length + 1 ≤ cap
    · have hfit : xs.length * i.size + ([Value.string s] : List Value).length ≤ cur.size := by rw [hz1, hcs]; simp; omega
      have hr2 := run_append_room (P := P) w t ty E i ht hi g xs.length cap cur hgg ⟨b, o, none⟩ 1 c [.string s] (by rw [hz1]; rfl) hnews h1 hroom hfit
      rw [hr] at hr2
      simp only [Result.ok.injEq] at hr2
      obtain ⟨rfl, rfl⟩ := hr2
      intro g' hg'
      simp [Value.ownBlock] at hg'
      subst hg'
      obtain ⟨cs, T, hB2, hcs2⟩ := hS g rfl
      have e : cs = cur := by unfold Rg.Blk at hB2; rw [hgg] at hB2; injection hB2 with e; injection e with e _ _; exact e.symm
      subst e
      refine ⟨_, _, setRow_heap w g cs _ E _ hgg, fun u hu => ?_⟩
      have hu2 : u ∈ cs.toList.take (xs.length * i.size) ++ [Value.string s] ++ cs.toList.drop (xs.length * i.size + ([Value.string s] : List Value).length) := by simpa using hu
      rcases List.mem_append.1 hu2 with hu2 | hu2
      · rcases List.mem_append.1 hu2 with hu2 | hu2
        · exact hcs2 u (by simpa using List.mem_of_mem_take hu2)
        · simp at hu2; exact ⟨s, hu2⟩
      · exact hcs2 u (by simpa using List.mem_of_mem_drop hu2)
    · have holds : ∀ j u, xs[j]? = some u → w.cell? ((⟨g, 0, none⟩ : Addr).add j) = some u := World.ownsRow.cells (g := g) hO rfl
      have hr2 := run_append_grow (P := P) w t ty E i (.string ⟨#[]⟩) ht hi hz0 ⟨g, 0, none⟩ xs.length cap xs (by rw [hz1]; simp) holds ⟨b, o, none⟩ 1 c [.string s] (by rw [hz1]; rfl) hnews (by omega) (by omega) (growslice_fits (by omega) (by rw [hz2]; exact hb))
      rw [hr] at hr2
      simp only [Result.ok.injEq] at hr2
      obtain ⟨rfl, rfl⟩ := hr2
      intro g' hg'
      simp [Value.ownBlock] at hg'
      subst hg'
      refine ⟨_, _, Rg.Blk.newAt (by simp) _ _, fun u hu => ?_⟩
      rcases Array.mem_append.1 hu with hu | hu
      · rcases Array.mem_append.1 hu with hu | hu
        · exact hx u (by simpa using hu)
        · simp at hu; exact ⟨s, hu⟩
      · exact zero_str _ u hu
/-- append(v, s), at the operation -/
theorem appS {P : Program} {ops : Array Oper} {rest : List Oper} {o : Oper} {a : Act} {w : World} {Q : Exit → Act → World → Prop} (hgd : o.guard = none) (so x : Operand) (t : TypeId)
    (ho : o.op = .call { callee := .builtin .append, args := #[so, x], argTypes := #[t, t] }) {E : TypeId} {by' : Nat} (ht : P.underlying t = some (.slice E))
    (hI : (P.info? E).map (fun i => (i.zero, i.size, i.bytes)) = some (some (.string ⟨#[]⟩), 1, by')) (hby : 0 < by')
    {B : Nat} {v : Value} {xs : List Value} (hO : Owns w B E v xs) (hx0 : ∀ u ∈ xs, isStr u) (hS : StrRow w v) (hs : a.eval so = v) {s : ByteArray} {T : TypeId} (hx : a.eval x = .slice (some ⟨w.heap.size, 0, none⟩) 1 1)
    (hb : (xs.length + 1) * by' ≤ 140737488355328) (hB : B ≤ w.heap.size)
    (h : ∀ v' w', Owns w' B E v' (xs ++ [.string s]) → w.grownBy w' v.ownBlock → (v'.ownBlock = v.ownBlock ∨ v'.ownBlock = some (w.heap.size + 1)) → StrRow w' v' → wpList P ops Q rest (a.put o.dst v') w') : wpList P ops Q (o :: rest) a (w.alloc (.cells #[.string s] T)) :=
  wpList_plain hgd fun _ hK => by
    obtain ⟨v', w', hr, h2, h3, h4, h5⟩ := run_app_str (P := P) (w.alloc (.cells #[.string s] T)) t o.type ht hI hby (hO.alloc _) hx0 (hS.below hO ((Below.refl _ _).alloc (Nat.le_refl _) _)) (b := w.heap.size) (o := 0) (c := 1) ((Rg.Blk.new w _ _).cell 0 rfl) hb (by simp; omega)
    unfold Oper.wp execOp
    simp only [ho, resolve, invoke, builtin, Sem.run_bind, Sem.run_pure, Result.andThen_ok, List.map_toArray, List.map_cons, List.map_nil, hs, hx, hr]
    exact hK _ _ (h v' w' h2 ⟨h3.os, h3.tape, h3.output, by have := h3.size; simp at this; omega, fun k hk hne => (h3.block k (by simp; omega) hne).trans (Below.heap_alloc w _ k hk)⟩ (by simpa using h4) h5)
/-- terms lie in no row of strings -/
theorem rd_str {w w' : World} {A : Option Addr} {x : Tm × Value} {l : List (Tm × Value)} {g T : Nat} {cs : Array Value} (h : Rd w A (tcs (x :: l))) (hx : ∃ A m c, x.2 = .slice A m c) (hB : Rg.Blk w g T cs) (hs : ∀ u ∈ cs, isStr u) (hg : w.grownBy w' (some g)) : Rd w' A (tcs (x :: l)) := by
  refine rd_ne h (.inr fun o e => ?_) hg
  subst e
  obtain ⟨A', m, c, hx⟩ := hx
  obtain ⟨b, o', e, _, hc⟩ := h 2 (.slice A' m c) (by rw [show x :: l = [x] ++ l from rfl, tcs_append, tcs_one]; simp [tcl, hx])
  injection e with e
  injection e with e1 e2
  subst e1 e2
  rw [blk_cell hB] at hc
  obtain ⟨s, e⟩ := hs _ (Array.mem_of_getElem? hc)
  cases e
theorem TP.offstr {w w' : World} {g T : Nat} {cs : Array Value} (hB : Rg.Blk w g T cs) (hs : ∀ u ∈ cs, isStr u) (hg : w.grownBy w' (some g)) : ∀ {t : Tm} {v : Value}, TP w t v → TP w' t v
  | .atom _, _, h => h
  | .one _ a, _, h => by
    obtain ⟨A, c, pa, e, h1, h2, h3, h4⟩ := h
    obtain ⟨A', c', e'⟩ := h4.slice
    exact ⟨A, c, pa, e, h1, h2, rd_str h3 ⟨_, _, _, e'⟩ hB hs hg, TP.offstr hB hs hg h4⟩
  | .two _ a b, _, h => by
    obtain ⟨A, c, pa, pb, e, h1, h2, h3, h4, h5⟩ := h
    obtain ⟨A', c', e'⟩ := h4.slice
    exact ⟨A, c, pa, pb, e, h1, h2, rd_str h3 ⟨_, _, _, e'⟩ hB hs hg, TP.offstr hB hs hg h4, TP.offstr hB hs hg h5⟩
theorem ks_own {w W W' : World} {kb mb B : Nat} {L : List Tm} {E : TypeId} {v : Value} {xs : List Value} (h : KS w W kb mb L) (ho : Owns W B E v xs) (hS : StrRow W v) (hg : W.grownBy W' v.ownBlock) (h1 : kb < B) (h2 : mb < B) (hB : w.heap.size ≤ B) : KS w W' kb mb L := by
  cases hv : v.ownBlock with
  | none =>
    rw [hv] at hg
    exact h.below ⟨hg.os, hg.tape, hg.output, hg.size, fun k hk => hg.block k hk (by simp)⟩
  | some g =>
    rw [hv] at hg
    obtain ⟨cs, T, hBk, hcs⟩ := hS g hv
    have hge := (ho.lt g hv).1
    obtain ⟨⟨K, ⟨a1, a2, a3, f, a4, a5⟩, hk⟩, h3, h4, h5, h6⟩ := h
    have hb : Below w.heap.size w W' := Below.grown h3 hg h3.size (fun k hk => by cases hk; omega)
    refine ⟨⟨K, ⟨?_, a2, a3, f, a4.keep (hg.block mb a4.lt (fun e => by have := Option.some.inj e; omega)), fun x => ?_⟩, hk⟩, hb, h4, h5, h6⟩
    · have hl := a1.lt
      unfold Rg.Blk at *
      rw [hg.block kb hl (fun e => by have := Option.some.inj e; omega)]
      exact a1
    · rcases a5 x with ⟨t, p, b1, b2, b3, b4⟩ | b5
      · exact .inl ⟨t, p, b1, b2, b3, b4.offstr hBk hcs hg⟩
      · exact .inr b5
end Go.Proofs.YtfcemnebhapidaaDoor.Te
