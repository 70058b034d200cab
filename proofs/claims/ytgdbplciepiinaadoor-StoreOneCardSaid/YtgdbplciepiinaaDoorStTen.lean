/- Tenants: the names, rising. -/
import Derived.Test.YtgdbplciepiinaaDoorStSt
import Derived.Test.YtgdbplciepiinaaDoorIter
set_option linter.unusedVariables false
set_option linter.unusedSimpArgs false
namespace Go.Proofs.YtgdbplciepiinaaDoor.St
open Go.RowKit Go.Proofs.YtgdbplciepiinaaDoor.Ow Go.Proofs.YtgdbplciepiinaaDoor.Mp Go.Maps Go.Proofs
theorem tens_perm {w : World} {b n : Nat} {f : Lit → Option Value} {L : List Pr} {D : DataW Value} (hD : w.ownsMap Tryd.prog 9 raw b n D) (hf : ∀ kl, (f kl = none ∧ has D kl = false) ∨ ∃ v, f kl = some v ∧ has D kl = true ∧ ∀ z, D.atKey kl z = .held v)
    (hfx : ∀ x, (keysOf L x = [] ∧ f (.string x) = none) ∨ (keysOf L x ≠ [] ∧ ∃ v, f (.string x) = some v ∧ KS w v (keysOf L x))) : (tens L).Perm (strKeys D) := by
  obtain ⟨es, rfl, hp⟩ := hD.tidy keyed_str
  obtain ⟨es2, e2, hk⟩ := hD.keysOf
  injection e2 with e2
  subst e2
  refine perm_strKeys hp (fun p hp => ?_) (nodup_ddup _) fun x => ?_
  · obtain ⟨v, hv⟩ := hk p hp
    obtain ⟨x, _, h, _⟩ := Maps.keyOf_str Tryd.underlying9 hv
    exact ⟨x, h⟩
  · rw [mem_tens]
    rcases hfx x with ⟨h1, h2⟩ | ⟨h1, v, h2, _⟩
    · rcases hf (.string x) with ⟨h3, h4⟩ | ⟨v, h3, _⟩
      · rw [h4]; simp [h1]
      · rw [h2] at h3; cases h3
    · rcases hf (.string x) with ⟨h3, h4⟩ | ⟨v', h3, h4, _⟩
      · rw [h2] at h3; cases h3
      · rw [h4]; simp [h1]
set_option maxRecDepth 20000 in
set_option maxHeartbeats 1000000 in
theorem Tenants_any (w : World) (sb bo bw T K N : Nat) (L : List Pr) (h : IsSt w sb bo bw T K N L) (hN : (tens L).length ≤ 1000000) :
    Calls Tryd.prog 20 #[.pointer (some ⟨sb, 0, none⟩)] w fun e w' => ∃ v, e = .returned v ∧ Owns w' w.heap.size 9 v ((namesL L).map encStr) ∧ Below w.heap.size w w' := by
  obtain ⟨hB, hne, hG, ⟨f, ⟨D, hD, hsz, hf⟩, hfx⟩, _⟩ := h
  have HP := Lib.hid (tens_perm hD hf hfx)
  have c2 := hB.cell 2 (v := .map (some bo)) rfl
  have HK := Lib.hid (callsIn_wide.1 (Tryd.maps_Keys_31 (some bo) w))
  have HS := Lib.hid (callsIn_wide.1 (Tryd.slices_Sorted_keys_30_31 bo N D raw w hD (by unfold maxLen; omega) (by omega)))
  have HB := Lib.hid (show Below w.heap.size w (w.alloc (.cells #[.map (some bo)] 55)) from (Below.refl _ _).alloc (Nat.le_refl _) _)
  clear hB hG hf hfx hD hsz hN
  go_enter Tryd.func20, Tryd.ntmps20
  go_wp2_with (first
    | (go_at_call 31; refine HK.out.mono ?_; rintro e w1 ⟨rfl, rfl⟩; skip)
    | (go_at_call 30; refine HS.out.mono ?_; rintro e w2 ⟨v, ss, rfl, hp, hr, hn, hb⟩; skip; have HPS := Lib.hid hp; have HR := Lib.hid hr; have HB2 := Lib.hid hb; clear hp hr hn hb))
  go_ret
  have e1 : ss.mergeSort leB = namesL L := mergeSort_of_perm (HPS.out.trans HP.out.symm)
  refine ⟨_, rfl, ?_, HB.out.trans (HB2.out.mono (by simp))⟩
  have hr := HR.out
  rw [show (ss.mergeSort fun x y => decide (x ≤ y)) = namesL L from e1] at hr
  have el : ss.length = ((namesL L).map encStr).length := by rw [← e1]; simp
  rw [el] at hr
  refine ⟨hr.1, hr.2.imp id fun ⟨g, cap, cur, hv, hb, rest⟩ => ⟨g, cap, cur, hv, ?_, rest⟩⟩
  simp at hb
  omega
end Go.Proofs.YtgdbplciepiinaaDoor.St
