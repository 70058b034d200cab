/- Know.Parts: the texts that are known, rising. -/
import Derived.Test.YtfcemnebhapidaaDoorTmDs
import Derived.Test.YtfcemnebhapidaaDoorIter
set_option linter.unusedVariables false
set_option linter.unusedSimpArgs false
namespace Go.Proofs.YtfcemnebhapidaaDoor.Te
open Go.RowKit Go.Proofs.YtfcemnebhapidaaDoor.Ow Go.Proofs.YtfcemnebhapidaaDoor.Mp Go.Maps Go.Proofs
theorem txts_nodup {K : List Tm} (hn : K.Nodup) (hw : ∀ t ∈ K, t.wf) : (K.map Tm.txt).Nodup := by
  induction K with
  | nil => exact List.nodup_nil
  | cons t K ih =>
    rw [List.nodup_cons] at hn
    rw [List.map_cons, List.nodup_cons]
    refine ⟨fun h => ?_, ih hn.2 (fun u hu => hw u (by simp [hu]))⟩
    obtain ⟨u, hu, e⟩ := List.mem_map.1 h
    exact hn.1 (txt_inj (hw u (by simp [hu])) (hw t (by simp)) e ▸ hu)
theorem txts_perm {w : World} {b n : Nat} {f : Lit → Option Value} {K : List Tm} {D : DataW Value} (hD : w.ownsMap Tryd.prog 9 raw b n D) (hf : ∀ kl, (f kl = none ∧ has D kl = false) ∨ ∃ v, f kl = some v ∧ has D kl = true ∧ ∀ z, D.atKey kl z = .held v)
    (hn : K.Nodup) (hw : ∀ t ∈ K, t.wf) (hfx : MSpec w K f) : (K.map Tm.txt).Perm (strKeys D) := by
  obtain ⟨es, rfl, hp⟩ := hD.tidy keyed_str
  obtain ⟨es2, e2, hk⟩ := hD.keysOf
  injection e2 with e2
  subst e2
  refine perm_strKeys hp (fun p hp => ?_) (txts_nodup hn hw) fun x => ?_
  · obtain ⟨v, hv⟩ := hk p hp
    obtain ⟨x, _, h, _⟩ := Maps.keyOf_str Tryd.underlying9 hv
    exact ⟨x, h⟩
  · rw [List.mem_map]
    rcases hfx x with ⟨t, p, h1, h2, h3, _⟩ | ⟨h1, h2⟩
    · rcases hf (.string x) with ⟨h4, h5⟩ | ⟨v, h4, h5, _⟩
      · rw [h3] at h4; cases h4
      · rw [h5]; exact ⟨fun _ => rfl, fun _ => ⟨t, h1, h2⟩⟩
    · rcases hf (.string x) with ⟨h4, h5⟩ | ⟨v, h4, h5, _⟩
      · rw [h5]
        exact ⟨fun ⟨t, ht, e⟩ => absurd e (h1 t ht), fun h => by cases h⟩
      · rw [h2] at h4; cases h4
set_option maxRecDepth 20000 in
set_option maxHeartbeats 1000000 in
theorem KParts_any (w : World) (kb mb n N : Nat) (K : List Tm) (h : IsKn w kb mb n N K) (hN : K.length ≤ 1000000) :
    Calls Tryd.prog 12 #[.pointer (some ⟨kb, 0, none⟩)] w fun e w' => ∃ v, e = .returned v ∧ Owns w' w.heap.size 9 v ((prtsOf K).map encStr) ∧ Below w.heap.size w w' := by
  obtain ⟨hB, hnd, hwf, f, ⟨D, hD, hsz, hf⟩, hfx⟩ := h
  have HP := Lib.hid (txts_perm hD hf hnd hwf hfx)
  have c2 := hB.cell 1 (v := .map (some mb)) rfl
  have HK := Lib.hid (callsIn_wide.1 (Tryd.maps_Keys_33 (some mb) w))
  have HS := Lib.hid (callsIn_wide.1 (Tryd.slices_Sorted_keys_32_33 mb N D raw w hD (by unfold maxLen; omega) (by omega)))
  have HB := Lib.hid (show Below w.heap.size w (w.alloc (.cells #[.map (some mb)] 63)) from (Below.refl _ _).alloc (Nat.le_refl _) _)
  clear hB hnd hwf hf hfx hD hsz hN
  go_enter Tryd.func12, Tryd.ntmps12
  go_wp2_with (first
    | (go_at_call 33; refine HK.out.mono ?_; rintro e w1 ⟨rfl, rfl⟩; skip)
    | (go_at_call 32; refine HS.out.mono ?_; rintro e w2 ⟨v, ss, rfl, hp, hr, hn, hb⟩; skip; have HPS := Lib.hid hp; have HR := Lib.hid hr; have HB2 := Lib.hid hb; clear hp hr hn hb))
  go_ret
  have e1 : ss.mergeSort leB = prtsOf K := mergeSort_of_perm (HPS.out.trans HP.out.symm)
  refine ⟨_, rfl, ?_, HB.out.trans (HB2.out.mono (by simp))⟩
  have hr := HR.out
  rw [show (ss.mergeSort fun x y => decide (x ≤ y)) = prtsOf K from e1] at hr
  have el : ss.length = ((prtsOf K).map encStr).length := by rw [← e1]; simp
  rw [el] at hr
  refine ⟨hr.1, hr.2.imp id fun ⟨g, cap, cur, hv, hb, rest⟩ => ⟨g, cap, cur, hv, ?_, rest⟩⟩
  simp at hb
  omega
end Go.Proofs.YtfcemnebhapidaaDoor.Te
