/- A key goes: what is left of the pairs. -/
import Derived.Test.YtgdbplciepiinaaDoorStNext
set_option linter.unusedVariables false
set_option linter.unusedSimpArgs false
namespace Go.Proofs.YtgdbplciepiinaaDoor.St
open Go.RowKit
def delP (L : List Pr) (k : List UInt8) : List Pr := L.filter fun p => decide (p.2 ≠ k)
theorem keysOf_del (L : List Pr) (k x : List UInt8) : keysOf (delP L k) x = (keysOf L x).filter fun y => decide (y ≠ k) := by
  unfold keysOf delP
  rw [List.filter_filter, List.filter_map, List.filter_filter]
  congr 1
  apply List.filter_congr
  intro p _
  simp [Bool.and_comm]
theorem whoOf_mem {L : List Pr} {k t : List UInt8} (h : whoOf L k = some t) : (t, k) ∈ L := by
  unfold whoOf at h
  rw [Option.map_eq_some_iff] at h
  obtain ⟨p, hp, rfl⟩ := h
  have h1 := List.mem_of_find?_eq_some hp
  have h2 := List.find?_some hp
  have h3 : p.2 = k := of_decide_eq_true h2
  rw [← h3]; exact h1
theorem whoOf_del (L : List Pr) (k x : List UInt8) : whoOf (delP L k) x = if x = k then none else whoOf L x := by
  by_cases h : x = k
  · rw [if_pos h, whoOf_none]
    intro hm
    obtain ⟨p, hp, e⟩ := List.mem_map.1 hm
    have := of_decide_eq_true (List.mem_filter.1 hp).2
    exact this (e.trans h)
  · rw [if_neg h]
    unfold whoOf delP
    rw [List.find?_filter]
    congr 2
    funext p
    by_cases e : p.2 = x
    · simp [e, h]
    · simp [e]
theorem Good.del {L : List Pr} (h : Good L) (k : List UInt8) : Good (delP L k) :=
  ⟨fun p hp => h.key p (List.mem_filter.1 hp).1, fun p hp => h.val p (List.mem_filter.1 hp).1, h.nd.sublist (List.filter_sublist.map _)⟩
theorem del_same {L : List Pr} {k : List UInt8} (h : whoOf L k = none) : delP L k = L := by
  unfold delP
  rw [List.filter_eq_self]
  intro p hp
  simp only [decide_eq_true_eq, ne_eq]
  intro e
  exact whoOf_none.1 h (List.mem_map.2 ⟨p, hp, e⟩)
theorem inj_of_nodup : ∀ {L : List Pr}, (L.map (·.2)).Nodup → ∀ p ∈ L, ∀ q ∈ L, p.2 = q.2 → p = q
  | [], _, p, hp, _, _, _ => by simp at hp
  | x :: L, h, p, hp, q, hq, e => by
    rw [List.map_cons, List.nodup_cons] at h
    rcases List.mem_cons.1 hp with rfl | hp2
    · rcases List.mem_cons.1 hq with rfl | hq2
      · rfl
      · exact (h.1 (List.mem_map.2 ⟨q, hq2, e.symm⟩)).elim
    · rcases List.mem_cons.1 hq with rfl | hq2
      · exact (h.1 (List.mem_map.2 ⟨p, hp2, e⟩)).elim
      · exact inj_of_nodup h.2 p hp2 q hq2 e
theorem tens_del {L : List Pr} (hg : Good L) {k t : List UInt8} (h : whoOf L k = some t) : (tens (delP L k)).length = if keysOf (delP L k) t = [] then (tens L).length - 1 else (tens L).length := by
  have hm : ∀ x, x ≠ t → (x ∈ tens (delP L k) ↔ x ∈ tens L) := fun x hx => by
    rw [mem_tens, mem_tens, keysOf_del]
    have : (keysOf L x).filter (fun y => decide (y ≠ k)) = keysOf L x := by
      rw [List.filter_eq_self]
      intro y hy
      simp only [decide_eq_true_eq, ne_eq]
      rintro rfl
      unfold keysOf at hy
      obtain ⟨p, hp, e⟩ := List.mem_map.1 hy
      obtain ⟨hp1, hp2⟩ := List.mem_filter.1 hp
      have hq := whoOf_mem h
      have hpe : p.1 = x := of_decide_eq_true hp2
      have : p = (t, y) := inj_of_nodup hg.nd p hp1 _ hq e
      rw [this] at hpe
      exact hx hpe.symm
    rw [this]
  have ht : t ∈ tens L := by
    rw [mem_tens]
    intro e
    have hq := whoOf_mem h
    have : k ∈ keysOf L t := List.mem_map.2 ⟨(t, k), List.mem_filter.2 ⟨hq, decide_eq_true rfl⟩, rfl⟩
    rw [e] at this
    simp at this
  by_cases he : keysOf (delP L k) t = []
  · rw [if_pos he]
    have hp : (tens (delP L k)).Perm ((tens L).erase t) := (List.perm_ext_iff_of_nodup (nodup_tens _) ((nodup_tens _).erase t)).2 fun x => by
      by_cases hx : x = t
      · subst hx
        constructor
        · intro h1; exact absurd he (mem_tens.1 h1)
        · intro h1; exact absurd h1 (List.Nodup.not_mem_erase (nodup_tens _))
      · rw [hm x hx, List.mem_erase_of_ne hx]
    rw [hp.length_eq, List.length_erase_of_mem ht]
  · rw [if_neg he]
    have hp : (tens (delP L k)).Perm (tens L) := (List.perm_ext_iff_of_nodup (nodup_tens _) (nodup_tens _)).2 fun x => by
      by_cases hx : x = t
      · subst hx
        exact ⟨fun _ => ht, fun _ => mem_tens.2 he⟩
      · exact hm x hx
    exact hp.length_eq
end Go.Proofs.YtgdbplciepiinaaDoor.St
