/- n[k]++ at a key that is not there; how many tenants and keys; each key once. -/
import Derived.Test.YtgdbplciepiinaaDoorStOpn
import Derived.WideKeyEntry
set_option linter.unusedVariables false
set_option linter.unusedSimpArgs false
namespace Go.Proofs.YtgdbplciepiinaaDoor.Mp
open Go.RowKit Go.Maps Go.ChangeShapes Go.WideShapes Go.MapKept Go.ChangeMaps
section
variable {P : Program} {w : World} {k t e : TypeId} {b n s : Nat} {f : Lit → Option Value}
theorem RMap.entry (h : RMap P w k b n f s) (K : Keyed P k) (ht : P.underlying t = some (.map k e)) {z : Value} (hz : ∀ u : World, (zeroValue e).run P u = .ok z u) (hn : n < maxLen) {key : Value} {kl : Lit} (hkey : keyOf P k key = some kl) (hf : f kl = none) :
    ∃ (st : Nat) (w1 : World), (Instr.mapEntry t (.map (some b)) key).run P w = .ok (.tuple #[z, goInt st]) w1 ∧ RMap P w1 k b (n + 1) (upd f kl (some z)) (s + 1) ∧ w.grownBy w1 (some b) ∧
      ∀ (w2 : World) (val : Value), w2.heap[b]? = w1.heap[b]? → ∃ w3, (Instr.entryStore t (.map (some b)) (goInt st) val).run P w2 = .ok () w3 ∧ RMap P w3 k b (n + 1) (upd f kl (some val)) (s + 1) ∧ w2.grownBy w3 (some b) := by
  obtain ⟨D, ⟨es, clock, hb, F, hs, hD⟩, h2, h3⟩ := id h
  have hst : ∀ val, ∃ w', (Instr.mapUpdate t (.map (some b)) key val).run P w = .ok () w' ∧ RMap P w' k b (n + 1) (upd f kl (some val)) (s + 1) ∧ w.grownBy w' (some b) := fun val => by
    obtain ⟨w', h4, h5, h6⟩ := h.store (val := val) K ht hn hkey
    rw [hf] at h5
    exact ⟨w', h4, h5, h6⟩
  obtain ⟨s1, s2, _⟩ := F.stamped
  rcases K.find w hkey es.toList F.keys with ⟨h1, h2'⟩ | ⟨j, e0, h1, h2', h3'⟩
  · have hput : ∀ val, (Instr.mapUpdate t (.map (some b)) key val).run P w = .ok () (setBlock w b (.map (es.push ⟨key, val, clock⟩) (clock + 1))) := fun val => by
      simp [Instr.mapUpdate, run_underlying ht, MapKept.run_getObj_map hb, K.check w false hkey, h1, MapKept.run_setObj_map _ hb, Result.andThen, setBlock]
    have hres : ∀ val, RMap P (setBlock w b (.map (es.push ⟨key, val, clock⟩) (clock + 1))) k b (n + 1) (upd f kl (some val)) (s + 1) ∧ w.grownBy (setBlock w b (.map (es.push ⟨key, val, clock⟩) (clock + 1))) (some b) := fun val => by
      obtain ⟨w', h4, h5, h6⟩ := hst val
      rw [hput val] at h4
      injection h4 with _ h4
      subst h4
      exact ⟨h5, h6⟩
    refine ⟨clock, _, ?_, (hres z).1, (hres z).2, fun w2 val hw2 => ?_⟩
    · simp [Instr.mapEntry, run_underlying ht, MapKept.run_getObj_map hb, K.check w false hkey, h1, hz, MapKept.run_setObj_map _ hb, Result.andThen, setBlock]
    · have hw2' : w2.heap[b]? = some (.map (es.push ⟨key, z, clock⟩) (clock + 1)) := by rw [hw2]; exact heap_setBlock_same hb _
      have hidx : (es.push ⟨key, z, clock⟩).findIdx? (fun e => ((e.born : Nat) : Int) == ((clock : Nat) : Int)) = some es.size := by
        rw [WideElems.findIdx_arr]
        have := WideElems.findIdx_born (l := (es.push ⟨key, z, clock⟩).toList) (j := es.size) (e0 := ⟨key, z, clock⟩) (by
          simp only [Array.toList_push, List.map_append, List.map_cons, List.map_nil]
          refine List.nodup_append.2 ⟨s2, by simp, fun a ha c hc e1 => ?_⟩
          simp only [List.mem_singleton] at hc
          obtain ⟨x, hx, rfl⟩ := List.mem_map.1 ha
          have := s1 x hx
          omega) (by simp)
        exact this
      have hmod : (es.push ⟨key, z, clock⟩).modify es.size (fun e => { e with val := val }) = es.push ⟨key, val, clock⟩ := by
        apply Array.ext'
        rw [Array.toList_modify, Array.toList_push, Array.toList_push, ← Array.length_toList, WideElems.modify_last]
      refine ⟨setBlock w2 b (.map (es.push ⟨key, val, clock⟩) (clock + 1)), ?_, (hres val).1.keep ?_, ?_⟩
      · simp [Instr.entryStore, MapKept.run_getObj_map hw2', asInt, asIntOf, goInt, hidx, hmod, MapKept.run_setObj_map _ hw2', Result.andThen, setBlock]
      · rw [heap_setBlock_same hw2' _, heap_setBlock_same hb _]
      · exact (show w2.mapTurned (setBlock w2 b (.map (es.push ⟨key, val, clock⟩) (clock + 1))) b from ⟨_, _, _, _, hw2', rfl⟩).grown
  · have hl := h.lookOk K ht (hz w) hkey
    rw [hf] at hl
    exfalso
    have hl2 : (Instr.lookup t (.map (some b)) key true).run P w = .ok (.tuple #[e0.val, .bool true]) w := by
      unfold Instr.lookup
      simp [run_underlying ht, MapKept.run_getObj_map hb, K.check w _ hkey, h1, Result.andThen]
    rw [hl2] at hl
    injection hl with hl
    injection hl with hl
    injection hl with hl
    injection hl with _ hl
    injection hl with hl
    injection hl with hl
    cases hl
end
end Go.Proofs.YtgdbplciepiinaaDoor.Mp
namespace Go.Proofs.YtgdbplciepiinaaDoor.St
open Go.RowKit Go.Proofs.YtgdbplciepiinaaDoor.Ow Go.Proofs.YtgdbplciepiinaaDoor.Cv Go.Proofs.YtgdbplciepiinaaDoor.Mp Go.Maps
/-- how many tenants and keys at most -/
def Bnd (T M : Nat) (L : List Pr) : Prop := (tens L).length ≤ T ∧ ∀ t, (keysOf L t).length ≤ M
theorem Bnd.nil (T M : Nat) : Bnd T M [] := ⟨Nat.zero_le _, fun t => Nat.zero_le _⟩
theorem Bnd.add {T M : Nat} {L : List Pr} (h : Bnd T M L) (t k : List UInt8) : Bnd T M (addL T M L t k) := by
  unfold addL
  by_cases h0 : addC T M L t k = 0
  · rw [if_pos h0]
    have h7 : ¬ (keysOf L t = [] ∧ T ≤ (tens L).length) ∧ ¬ M ≤ (keysOf L t).length := by
      unfold addC at h0
      split at h0
      · omega
      · split at h0
        · omega
        · split at h0
          · omega
          · split at h0
            · omega
            · exact ⟨by assumption, by assumption⟩
    refine ⟨?_, fun x => ?_⟩
    · rw [tens_snoc]
      split
      · rename_i he
        have := h7.1
        have : ¬ T ≤ (tens L).length := fun e => this ⟨he, e⟩
        omega
      · exact h.1
    · rw [keysOf_snoc]
      split
      · rename_i he
        rw [List.length_append, ← he]
        have := h7.2
        simp; omega
      · exact h.2 x
  · rw [if_neg h0]; exact h
theorem Bnd.del {T M : Nat} {L : List Pr} (h : Bnd T M L) (hg : Good L) {k t : List UInt8} (hw : whoOf L k = some t) : Bnd T M (delP L k) := by
  refine ⟨?_, fun x => ?_⟩
  · have := tens_del hg hw
    have h1 := h.1
    split at this <;> omega
  · rw [keysOf_del]
    exact Nat.le_trans (List.length_filter_le _ _) (h.2 x)
theorem keysOf_in {L : List Pr} {t x : List UInt8} (h : x ∈ keysOf L t) : (t, x) ∈ L := by
  unfold keysOf at h
  obtain ⟨p, hp, rfl⟩ := List.mem_map.1 h
  obtain ⟨h1, h2⟩ := List.mem_filter.1 hp
  have : p.1 = t := of_decide_eq_true h2
  rw [← this]; exact h1
theorem keysOf_nodup {L : List Pr} (hg : Good L) (t : List UInt8) : (keysOf L t).Nodup := hg.nd.sublist (List.filter_sublist.map _)
theorem whoOf_keys {L : List Pr} (hg : Good L) {t x : List UInt8} (h : x ∈ keysOf L t) : whoOf L x = some t := by
  cases hw : whoOf L x with
  | none => exact absurd (List.mem_map.2 ⟨(t, x), keysOf_in h, rfl⟩) (whoOf_none.1 hw)
  | some t' =>
    have := inj_of_nodup hg.nd _ (whoOf_mem hw) _ (keysOf_in h) rfl
    injection this with e
    rw [e]
theorem namesL_nodup (L : List Pr) : (namesL L).Nodup := by
  unfold namesL
  exact (List.mergeSort_perm _ _).nodup_iff.2 (nodup_tens L)
theorem keys_apart {L : List Pr} (hg : Good L) {j k : Nat} {t x : List UInt8} (ht : (namesL L)[j]? = some t) (hx : (keysOf L t)[k]? = some x) :
    x ∉ ((namesL L).take j).flatMap (keysOf L) ∧ x ∉ (keysOf L t).take k := by
  refine ⟨fun h => ?_, fun h => ?_⟩
  · obtain ⟨t', ht', hx'⟩ := List.mem_flatMap.1 h
    have e : t' = t := by
      have h1 := whoOf_keys hg hx'
      have h2 := whoOf_keys hg (List.mem_of_getElem? hx)
      rw [h1] at h2
      exact Option.some.inj h2
    subst e
    obtain ⟨i, hi⟩ := List.mem_iff_getElem?.1 ht'
    have hij : i < j := by have := (List.getElem?_eq_some_iff.1 hi).1; rw [List.length_take] at this; omega
    rw [List.getElem?_take_of_lt hij] at hi
    have := List.pairwise_iff_getElem.1 (namesL_nodup L) i j (List.getElem?_eq_some_iff.1 hi).1 (List.getElem?_eq_some_iff.1 ht).1 hij
    exact this ((List.getElem?_eq_some_iff.1 hi).2.trans (List.getElem?_eq_some_iff.1 ht).2.symm)
  · obtain ⟨i, hi⟩ := List.mem_iff_getElem?.1 h
    have hij : i < k := by have := (List.getElem?_eq_some_iff.1 hi).1; rw [List.length_take] at this; omega
    rw [List.getElem?_take_of_lt hij] at hi
    have := List.pairwise_iff_getElem.1 (keysOf_nodup hg t) i k (List.getElem?_eq_some_iff.1 hi).1 (List.getElem?_eq_some_iff.1 hx).1 hij
    exact this ((List.getElem?_eq_some_iff.1 hi).2.trans (List.getElem?_eq_some_iff.1 hx).2.symm)
theorem namesL_mem {L : List Pr} {t : List UInt8} (h : t ∈ namesL L) : t ∈ tens L := by unfold namesL at h; exact List.mem_mergeSort.1 h
theorem namesL_valid {L : List Pr} (hg : Good L) {t : List UInt8} (h : t ∈ namesL L) : validB t = true ∧ keysOf L t ≠ [] := by
  have h1 := namesL_mem h
  refine ⟨?_, mem_tens.1 h1⟩
  unfold tens at h1
  rw [mem_ddup] at h1
  obtain ⟨p, hp, rfl⟩ := List.mem_map.1 h1
  exact hg.val p hp
end Go.Proofs.YtgdbplciepiinaaDoor.St
