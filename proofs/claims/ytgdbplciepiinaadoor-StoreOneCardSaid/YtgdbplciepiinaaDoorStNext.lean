/- A key more: what the store holds behind it. -/
import Derived.Test.YtgdbplciepiinaaDoorStSt
set_option linter.unusedVariables false
set_option linter.unusedSimpArgs false
namespace Go.Proofs.YtgdbplciepiinaaDoor.St
open Go.RowKit Go.Proofs.YtgdbplciepiinaaDoor.Ow Go.Proofs.YtgdbplciepiinaaDoor.Mp Go.Maps
theorem fold_set : ∀ (l : List Value) (k : Nat) (arr : Array Value), k + l.length ≤ arr.size → ∀ j, ((l.zipIdx k).foldl (fun (cs : Array Value) (x : Value × Nat) => cs.setIfInBounds x.2 x.1) arr)[j]? = if k ≤ j ∧ j < k + l.length then l[j - k]? else arr[j]?
  | [], k, arr, _, j => by
    rw [if_neg (fun e => by have := e.2; simp at this; omega)]; rfl
  | x :: l, k, arr, h, j => by
    rw [List.zipIdx_cons, List.foldl_cons, fold_set l (k + 1) _ (by rw [Array.size_setIfInBounds]; simp at h; omega) j]
    by_cases h1 : k = j
    · subst h1
      rw [if_neg (by omega), if_pos (by simp), Array.getElem?_setIfInBounds_self_of_lt (by simp at h; omega)]
      simp
    · rw [Array.getElem?_setIfInBounds_ne h1]
      by_cases h2 : k + 1 ≤ j ∧ j < k + 1 + l.length
      · rw [if_pos h2, if_pos (by simp; omega), show j - k = (j - (k + 1)) + 1 by omega, List.getElem?_cons_succ]
      · rw [if_neg h2, if_neg (by simp; omega)]
theorem fold_cells (cs z : Array Value) (h : z.size = cs.size) (n : Nat) (hn : n = cs.size) : Array.foldl (fun (cs : Array Value) (x : Value × Nat) => cs.setIfInBounds x.snd x.fst) z cs.zipIdx 0 n = cs := by
  subst hn
  rw [show cs.size = cs.zipIdx.size by simp, ← Array.foldl_toList, Array.toList_zipIdx]
  apply Array.ext_getElem?
  intro j
  rw [fold_set cs.toList 0 z (by simp; omega) j]
  by_cases hj : j < cs.size
  · rw [if_pos (by simp; omega)]; simp
  · rw [if_neg (by simp; omega), Array.getElem?_eq_none (by omega), Array.getElem?_eq_none (by omega)]
theorem keysOf_snoc (L : List Pr) (t k x : List UInt8) : keysOf (L ++ [(t, k)]) x = if t = x then keysOf L x ++ [k] else keysOf L x := by
  unfold keysOf
  rw [List.filter_append, List.map_append]
  by_cases h : t = x
  · rw [if_pos h]; simp [h]
  · rw [if_neg h]; simp [h]
theorem whoOf_snoc (L : List Pr) (t k x : List UInt8) (hk : whoOf L k = none) : whoOf (L ++ [(t, k)]) x = if x = k then some t else whoOf L x := by
  unfold whoOf at *
  rw [List.find?_append]
  by_cases h : x = k
  · subst h
    rw [if_pos rfl]
    rw [Option.map_eq_none_iff] at hk
    rw [hk]; simp
  · rw [if_neg h]
    have : ¬ k = x := fun e => h e.symm
    simp [this]
theorem whoOf_none {L : List Pr} {k : List UInt8} : whoOf L k = none ↔ k ∉ L.map (·.2) := by
  unfold whoOf
  rw [Option.map_eq_none_iff, List.find?_eq_none]
  constructor
  · intro h hm
    obtain ⟨p, hp, e⟩ := List.mem_map.1 hm
    exact h p hp (decide_eq_true e)
  · intro h p hp e
    exact h (List.mem_map.2 ⟨p, hp, of_decide_eq_true e⟩)
theorem Good.snoc {L : List Pr} (h : Good L) {t k : List UInt8} (hk : k.length = 32) (hv : validB t = true) (hw : whoOf L k = none) : Good (L ++ [(t, k)]) := by
  refine ⟨fun p hp => ?_, fun p hp => ?_, ?_⟩
  · rcases List.mem_append.1 hp with h1 | h1
    · exact h.key p h1
    · rw [List.mem_singleton.1 h1]; exact hk
  · rcases List.mem_append.1 hp with h1 | h1
    · exact h.val p h1
    · rw [List.mem_singleton.1 h1]; exact hv
  · rw [List.map_append]
    refine List.nodup_append.2 ⟨h.nd, by simp, fun a ha b hb => ?_⟩
    simp at hb
    subst hb
    rintro rfl
    exact whoOf_none.1 hw ha
theorem nodup_tens (L : List Pr) : (tens L).Nodup := nodup_ddup _
theorem tens_snoc (L : List Pr) (t k : List UInt8) : (tens (L ++ [(t, k)])).length = if keysOf L t = [] then (tens L).length + 1 else (tens L).length := by
  have hm : ∀ x, x ∈ tens (L ++ [(t, k)]) ↔ x = t ∨ x ∈ tens L := fun x => by
    rw [mem_tens, mem_tens, keysOf_snoc]
    by_cases h : t = x
    · subst h; simp
    · rw [if_neg h]
      constructor
      · exact .inr
      · rintro (e | e)
        · exact absurd e.symm h
        · exact e
  by_cases h : keysOf L t = []
  · rw [if_pos h]
    have hp : (tens (L ++ [(t, k)])).Perm (t :: tens L) := (List.perm_ext_iff_of_nodup (nodup_tens _) (List.nodup_cons.2 ⟨fun e => mem_tens.1 e h, nodup_tens _⟩)).2 fun x => by rw [hm, List.mem_cons]
    exact hp.length_eq
  · rw [if_neg h]
    have hp : (tens (L ++ [(t, k)])).Perm (tens L) := (List.perm_ext_iff_of_nodup (nodup_tens _) (nodup_tens _)).2 fun x => by
      rw [hm]
      exact ⟨fun e => e.elim (fun e => by rw [e]; exact mem_tens.2 h) id, .inr⟩
    exact hp.length_eq
/-- what the map of tenants says -/
def OfSpec (w : World) (L : List Pr) (f : Lit → Option Value) : Prop := ∀ x, (keysOf L x = [] ∧ f (.string x) = none) ∨ (keysOf L x ≠ [] ∧ ∃ v, f (.string x) = some v ∧ KS w v (keysOf L x))
theorem OfSpec.below {w w' : World} {L : List Pr} {f : Lit → Option Value} (h : OfSpec w L f) (hb : Below w.heap.size w w') : OfSpec w' L f := fun x => by
  rcases h x with h | ⟨h4, v, h5, h6⟩
  · exact .inl h
  · exact .inr ⟨h4, v, h5, h6.below hb⟩
theorem OfSpec.map {w w' : World} {L : List Pr} {f : Lit → Option Value} {b : Nat} (h : OfSpec w L f) (hg : w.grownBy w' (some b)) (hm : ∃ es clock, w.heap[b]? = some (.map es clock)) : OfSpec w' L f := fun x => by
  rcases h x with h | ⟨h4, v, h5, h6⟩
  · exact .inl h
  · exact .inr ⟨h4, v, h5, h6.map hg hm⟩
theorem isMap {P : Program} {w : World} {k b n s : Nat} {f : Lit → Option Value} (h : RMap P w k b n f s) : ∃ es clock, w.heap[b]? = some (.map es clock) := by
  obtain ⟨D, ⟨es, clock, hb, _⟩, _⟩ := h
  exact ⟨es, clock, hb⟩
theorem of_next {w Y : World} {bo N : Nat} {L : List Pr} {f : Lit → Option Value} {t k : List UInt8} {v : Value} (hf : RMap Tryd.prog w 9 bo N f (tens L).length) (hfx : OfSpec w L f) (hY : RMap Tryd.prog Y 9 bo (N + 1) (upd f (.string t) (some v)) (if (f (.string t)).isSome then (tens L).length else (tens L).length + 1)) (hg : w.grownBy Y (some bo)) (hk : KS w v (keysOf L t ++ [k])) :
    ∃ f', RMap Tryd.prog Y 9 bo (N + 1) f' (tens (L ++ [(t, k)])).length ∧ OfSpec Y (L ++ [(t, k)]) f' := by
  have hs : (if (f (.string t)).isSome then (tens L).length else (tens L).length + 1) = (tens (L ++ [(t, k)])).length := by
    rw [tens_snoc]
    rcases hfx t with ⟨h1, h2⟩ | ⟨h1, v', h2, _⟩
    · rw [h2, if_pos h1]; rfl
    · rw [h2, if_neg h1]; rfl
  rw [hs] at hY
  refine ⟨_, hY, fun x => ?_⟩
  rw [keysOf_snoc]
  by_cases hx : t = x
  · subst hx
    rw [if_pos rfl, upd_same]
    exact .inr ⟨by simp, v, rfl, hk.map hg (isMap hf)⟩
  · rw [if_neg hx, upd_other f _ (fun e => hx (by injection e with e; exact e.symm))]
    exact hfx.map hg (isMap hf) x
end Go.Proofs.YtgdbplciepiinaaDoor.St
