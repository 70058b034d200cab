/- A product is added to a sum in two words: the walk. -/
import Derived.Test.YtfaeigbfnjkojaaGreatDoorKxE
set_option linter.unusedVariables false
set_option linter.unusedSimpArgs false
namespace Go.Proofs.YtfaeigbfnjkojaaGreatDoor.Kx
open Go.RowKit Go.Proofs.YtfaeigbfnjkojaaGreatDoor.Cl
theorem fl_cell_hi {w : World} {b T j v t h0 : Nat} {ts : List Nat} (h : Row w b T ((fl ts).set (2 * j) v)) (hj : 2 * j + 1 < (fl ts).length) (ht : nth ts j = t) (hh : t / M % M = h0) : w.cell? ⟨b, 2 * j + 1, none⟩ = some (.int .u64 (h0 : Nat)) := by
  have h1 := h.cell (2 * j + 1) (by rw [List.length_set]; exact hj)
  rw [nth_set_ne (show 2 * j ≠ 2 * j + 1 by omega), fl_hi, ht, hh] at h1
  exact h1
set_option maxRecDepth 20000 in
set_option maxHeartbeats 2000000 in
theorem sumadd_any (w : World) (b T j : Nat) (ts : List Nat) (hj : j < ts.length) (a c : Nat) (ha : a < M) (hc : c < M) (hB : Row w b T (fl ts)) :
    Calls Tryz.prog 43 #[.pointer (some ⟨b, 2 * j, none⟩), .int .u64 a, .int .u64 c] w fun e w' => (∃ v, e = .returned v) ∧ Row w' b T (fl (ts.set j (nth ts j + a * c))) ∧ w.grownBy w' (some b) := by
  have HR := Lib.hid hB
  have HLK := Lib.hid (show 2 * j < (fl ts).length by rw [fl_len]; omega)
  have HLK2 := Lib.hid (show 2 * j + 1 < (fl ts).length by rw [fl_len]; omega)
  have HLK3 := Lib.hid (show ∀ v, 2 * j + 1 < ((fl ts).set (2 * j) v).length from fun v => by rw [List.length_set]; exact HLK2.out)
  have c0 := hB.cell (2 * j) HLK.out
  have HMU := Lib.hid (fun W => Tryz.bits_Mul64 a c ha hc W)
  rw [fl_lo] at c0
  obtain ⟨t, ht⟩ : ∃ t, nth ts j = t := ⟨_, rfl⟩
  have h1 := sum_lo t (a * c)
  have h2 := sum_hi t (a * c)
  have HT := Lib.hid ht
  rw [ht] at c0 ⊢
  have HPQ := Lib.hid (show t % M < M ∧ a * c % M < M from ⟨mod_lt_M _, mod_lt_M _⟩)
  obtain ⟨l0, hl0⟩ : ∃ l0, t % M = l0 := ⟨_, rfl⟩
  obtain ⟨h0, hh0⟩ : ∃ h0, t / M % M = h0 := ⟨_, rfl⟩
  obtain ⟨p1, hp1⟩ : ∃ p1, a * c / M = p1 := ⟨_, rfl⟩
  obtain ⟨p2, hp2⟩ : ∃ p2, a * c % M = p2 := ⟨_, rfl⟩
  rw [hl0, hp2] at h1 h2 HPQ
  rw [hp1, hh0] at h2
  rw [hl0] at c0
  rw [show (18446744073709551616 : Nat) = M from rfl, hp1, hp2] at HMU
  obtain ⟨q, hq⟩ : ∃ q, (l0 + p2) / M = q := ⟨_, rfl⟩
  rw [hq] at h2
  have HQ := Lib.hid (show q ≤ 1 by have := HPQ.out; unfold M at *; omega)
  have HSET := Lib.hid (show ((fl ts).set (2 * j) ((l0 + p2) % M)).set (2 * j + 1) ((h0 + p1 + q) % M) = fl (ts.set j (t + a * c)) from by rw [h1, h2, fl_set])
  have HA0 := Lib.hid (fun W => add64_0 l0 p2 W)
  have HA1 := Lib.hid (fun W => add64_run h0 p1 q HQ.out W)
  rw [hq] at HA0
  obtain ⟨v1, hv1⟩ : ∃ v1, (l0 + p2) % M = v1 := ⟨_, rfl⟩
  obtain ⟨v2, hv2⟩ : ∃ v2, (h0 + p1 + q) % M = v2 := ⟨_, rfl⟩
  rw [hv1] at HA0 HSET
  rw [hv2] at HA1 HSET
  have HH0 := Lib.hid hh0
  clear hB ha hc ht h1 h2 hl0 hh0 hp1 hp2 hq hv1 hv2
  go_enter Tryz.func43, Tryz.ntmps43
  have tok1 := True.intro
  go_wp2_with (first
    | (go_at_call 45; refine (HMU.out _).mono ?_; rintro e w2 ⟨rfl, rfl⟩; skip)
    | (simp only [HA0.out])
    | (simp only [HA1.out])
    | (have _t := tok1; (with_reducible refine gate_ ?_); refine store_cell rfl 50 _ _ rfl (b := b) (j := 2 * j) (v := v1) rfl rfl Tryz.underlying50 (by kernel_rfl) HR.out HLK.out ?_; intro V hV hgV; have HRV := Lib.hid hV; have HG := Lib.hid hgV; have c1 := fl_cell_hi hV HLK2.out HT.out HH0.out; clear hV hgV c0; have tok2 := True.intro; clear _t tok1)
    | (have _t := tok2; (with_reducible refine gate_ ?_); refine store_cell rfl 50 _ _ rfl (b := b) (j := 2 * j + 1) (v := v2) rfl rfl Tryz.underlying50 (by kernel_rfl) HRV.out (HLK3.out v1) ?_; intro V2 hV hgV; rw [HSET.out] at hV; have HRW := Lib.hid hV; have HG2 := Lib.hid (HG.out.trans hgV); clear hV hgV c1 _t tok2))
  go_end0
  exact ⟨⟨_, rfl⟩, HRW.out, HG2.out⟩
end Go.Proofs.YtfaeigbfnjkojaaGreatDoor.Kx
