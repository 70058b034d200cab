/- message.names: may they be, each; and together? -/
import Derived.Test.YtjfikbnfabdkoaaDoorMsgSpec2
import Derived.Test.YtjfikbnfabdkoaaDoorGen
set_option linter.unusedVariables false
set_option linter.unusedSimpArgs false
namespace Go.Proofs.YtjfikbnfabdkoaaDoor.Mg
open Go.RowKit Go.Proofs.YtjfikbnfabdkoaaDoor.Wi Go.Proofs.YtjfikbnfabdkoaaDoor.Ow Go.Proofs.YtjfikbnfabdkoaaDoor.Be
set_option maxRecDepth 20000 in
set_option maxHeartbeats 1000000 in
theorem names_any (w : World) (A : Option Addr) (n c : Nat) (xs : List ByteArray) (hn : xs.length = n) (hc : n ≤ c) (hN : n ≤ 1000000) (hR : Rd w A (xs.map Value.string)) (hx : ∀ x ∈ xs, x.size ≤ 9223372036854775807) (hj : (joinC xs).length ≤ 1000000) :
    Calls Tryd.prog 47 #[.slice A n c] w fun e w' => e = .returned (.tuple #[.bool (xs.all okN), .bool (!(xs.all okN) || decide ((joinC xs).length ≤ 4096))]) ∧ Below w.heap.size w w' := by
  have HN := Lib.hid hn
  have HR := Lib.hid hR
  have HX := Lib.hid hx
  have HJ : Hid (Calls Tryd.prog 87 #[.slice A n c, .string ⟨#[44]⟩] w fun e w' => e = .returned (.string ⟨(joinC xs).toArray⟩) ∧ Below w.heap.size w w') := Lib.hid (by
    subst hn
    by_cases h0 : xs = []
    · subst h0
      refine (Tryd.strings_Join_none A c ⟨#[44]⟩ w).mono ?_
      rintro e w' ⟨rfl, rfl⟩
      exact ⟨rfl, Below.refl _ _⟩
    · obtain ⟨bk, o, rfl, hlt, hx⟩ := hR.place (by rw [List.length_map]; exact List.length_pos_iff.2 h0)
      exact Tryd.strings_Join bk o c xs ⟨#[44]⟩ w (fun j x hj => hx j _ (by rw [List.getElem?_map, hj]; rfl)) hlt (by omega) hc (by show (joinC xs).length ≤ _; omega))
  obtain ⟨t, ht⟩ : ∃ t, mkS (joinC xs) = t := ⟨_, rfl⟩
  have hts : t.size = (joinC xs).length := by rw [← ht, mkS_size]
  have HJ2 : Hid (Calls Tryd.prog 87 #[.slice A n c, .string ⟨#[44]⟩] w fun e w' => e = .returned (.string t) ∧ Below w.heap.size w w') := Lib.hid (by rw [← ht]; exact HJ.out)
  have HTS := Lib.hid hts
  clear hn hR hx hj ht hts HJ
  go_enter Tryd.func47, Tryd.ntmps47
  go_wp2_with fail
  go_loop [8] (fun i => ∃ k : Nat, k ≤ n ∧ i = .int .i64 k ∧ (xs.take k).all okN = true) (fun i => n - (intOf i).toNat)
  case atStart => exact ⟨0, Nat.zero_le _, rfl, rfl⟩
  case round =>
    obtain ⟨k, hk, rfl, hall⟩ := hrel
    have HAL := Lib.hid hall
    clear hall
    by_cases hkn : k < n
    · have hd : decide (k < n) = true := by simp; exact hkn
      have hik : (k : Int) < n := by omega
      have hx : xs[k]? = some (xs[k]'(by rw [HN.out]; exact hkn)) := List.getElem?_eq_getElem _
      have hxs := HX.out _ (List.getElem_mem (l := xs) (n := k) (by rw [HN.out]; exact hkn))
      obtain ⟨b, o, rfl, _, hcell⟩ := HR.out.at_ (j := k) (by rw [List.length_map, HN.out]; exact hkn)
      rw [List.getElem_map] at hcell
      generalize xs[k]'(by rw [HN.out]; exact hkn) = x at *
      have HXK := Lib.hid hx
      have HXS := Lib.hid hxs
      clear hx hxs
      cases hok : okN x
      · have HB := Lib.hid (all_bad xs k x HXK.out hok)
        have HOK := Lib.hid (show nameB x.data.toList = false from hok)
        clear hok
        go_wp2_with (go_at_call 86; refine (Name_any _ x HXS.out).mono ?_; rintro e w3 ⟨rfl, rfl⟩; skip; rw [HOK.out])
        go_ret2
        exact ⟨by rw [HB.out]; rfl, Below.refl _ _⟩
      · have HT := Lib.hid (all_take xs k x HXK.out HAL.out hok)
        have HOK := Lib.hid (show nameB x.data.toList = true from hok)
        clear hok
        go_wp2_with (go_at_call 86; refine (Name_any _ x HXS.out).mono ?_; rintro e w3 ⟨rfl, rfl⟩; skip; rw [HOK.out])
        go_round
        case rel => exact ⟨k + 1, by omega, by go_num, HT.out⟩
        case measure => simp [intOf]; omega
    · obtain rfl : k = n := by omega
      have hd : decide (k < k) = false := by simp
      have HA := Lib.hid (show xs.all okN = true by have := HAL.out; rwa [List.take_of_length_le (Nat.le_of_eq HN.out)] at this)
      go_wp2_with (go_at_call 87; refine HJ2.out.mono ?_; rintro e w3 ⟨rfl, hb3⟩; skip; have HB3 := Lib.hid hb3; clear hb3)
      go_ret2
      refine ⟨?_, HB3.out⟩
      rw [HA.out, ← HTS.out]
      simp
      omega
end Go.Proofs.YtjfikbnfabdkoaaDoor.Mg
