/- The reference: Names of any length; Name. -/
import Derived.Test.YtjfikbnfabdkoaaDoorMsgB
set_option linter.unusedVariables false
set_option linter.unusedSimpArgs false
namespace Go.Proofs.YtjfikbnfabdkoaaDoor.Wi
open Go.RowKit Go.Proofs.YtjfikbnfabdkoaaDoor.Ow Go.Proofs.YtjfikbnfabdkoaaDoor.Be
theorem joinC_step (xs : List ByteArray) (k : Nat) (x : ByteArray) (h : xs[k]? = some x) : (joinC (xs.take k)).length ≤ (joinC (xs.take (k + 1))).length ∧ x.size ≤ (joinC (xs.take (k + 1))).length := by
  rw [joinC_take xs k x h]
  split
  · rename_i h0
    subst h0
    exact ⟨Nat.zero_le _, by rw [len_list]; exact Nat.le_refl _⟩
  · rw [List.length_append, List.length_cons, len_list]; omega
theorem joinC_mono (xs : List ByteArray) : ∀ (d k : Nat), k + d = xs.length → (joinC (xs.take k)).length ≤ (joinC xs).length
  | 0, k, h => by rw [List.take_of_length_le (by omega)]; exact Nat.le_refl _
  | d + 1, k, h => Nat.le_trans (joinC_step xs k _ (List.getElem?_eq_getElem (by omega))).1 (joinC_mono xs d (k + 1) (by omega))
theorem joinC_le2 (xs : List ByteArray) (k : Nat) (hk : k ≤ xs.length) (hJ : (joinC xs).length ≤ 1000000) : (joinC (xs.take k)).length ≤ 1000000 := Nat.le_trans (joinC_mono xs (xs.length - k) k (by omega)) hJ
theorem joinC_one (xs : List ByteArray) (k : Nat) (x : ByteArray) (h : xs[k]? = some x) (hJ : (joinC xs).length ≤ 1000000) : x.size ≤ 1000000 :=
  Nat.le_trans (joinC_step xs k x h).2 (joinC_le2 xs (k + 1) (List.getElem?_eq_some_iff.1 h).1 hJ)
set_option maxRecDepth 20000 in
set_option maxHeartbeats 1000000 in
theorem RefNames_gen (w : World) (A : Option Addr) (n c : Nat) (xs : List ByteArray) (hn : xs.length = n) (hN : n ≤ 1000000) (hR : Rd w A (xs.map Value.string)) (hJ : (joinC xs).length ≤ 1000000) :
    Calls Tryd.prog 50 #[.slice A n c] w fun e w' => e = .returned (.string (mkS (textL (joinC xs)))) ∧ Below w.heap.size w w' := by
  have HN := Lib.hid hn
  have HR := Lib.hid hR
  have HJL := Lib.hid (fun k hk => joinC_le2 xs k hk hJ)
  have HXs := Lib.hid (fun k x h => joinC_one xs k x h hJ)
  clear hn hR hJ
  go_enter Tryd.func50, Tryd.ntmps50
  go_wp2_with fail
  go_loop [3, 8] (fun s i => ∃ (k : Nat) (t : ByteArray), k ≤ n ∧ i = .int .i64 k ∧ s = .string t ∧ t.data.toList = joinC (xs.take k)) (fun _ i => n - (intOf i).toNat)
  case atStart => exact ⟨0, _, Nat.zero_le _, rfl, rfl, rfl⟩
  case round =>
    obtain ⟨k, t, hk, rfl, rfl, ht⟩ := hrel
    have htl : t.size ≤ 1000000 := by
      have := HJL.out k (by rw [HN.out]; exact hk)
      rw [← ht, len_list] at this; omega
    have HT := Lib.hid ht
    clear ht
    by_cases hkn : k < n
    · have hd : decide (k < n) = true := by simp; exact hkn
      obtain ⟨b, o, rfl, hbl, hcell⟩ := HR.out.at_ (j := k) (by rw [List.length_map, HN.out]; exact hkn)
      rw [List.getElem_map] at hcell
      have hx : xs[k]? = some (xs[k]'(by rw [HN.out]; exact hkn)) := List.getElem?_eq_getElem _
      have hxl := HXs.out _ _ hx
      generalize xs[k]'(by rw [HN.out]; exact hkn) = x at *
      have HJ := Lib.hid (joinC_take xs k x hx)
      have hik : (k : Int) < n := by omega
      have hq1 : ¬ 9223372036854775807 < t.size + 1 := by omega
      have hq2 : ¬ 9223372036854775807 < t.size + 1 + x.size := by omega
      have hq3 : ¬ 9223372036854775807 < t.size + x.size := by omega
      have HS1 := Lib.hid (show (t ++ (⟨#[44]⟩ : ByteArray)).size = t.size + 1 by rw [ByteArray.size_append]; rfl)
      have hq4 : ¬ 9223372036854775807 < (t ++ (⟨#[44]⟩ : ByteArray)).size + x.size := by rw [HS1.out]; omega
      clear hx
      by_cases h0 : k = 0
      · subst h0
        have ht0 : t = ⟨#[]⟩ := by have := mkS_of t; rw [HT.out] at this; exact this.symm
        rw [Nat.add_zero] at hcell
        have HT1 := Lib.hid (show (t ++ x).data.toList = joinC (xs.take (0 + 1)) by rw [HJ.out, if_pos rfl, ht0]; simp)
        clear ht0
        go_wp2_with fail
        go_round
        case rel =>
          first
            | exact ⟨0 + 1, _, by omega, by go_num, rfl, HT1.out⟩
            | ((repeat apply Exists.intro); refine ⟨?_, rfl⟩; exact ⟨0 + 1, _, by omega, by go_num, rfl, HT1.out⟩)
        case measure => simp [intOf]; omega
      · have hk0 : (0 : Int) < k := by omega
        have HT1 := Lib.hid (show ((t ++ (⟨#[44]⟩ : ByteArray)) ++ x).data.toList = joinC (xs.take (k + 1)) by rw [HJ.out, if_neg h0]; simp [HT.out])
        clear h0
        go_wp2_with fail
        go_round
        case rel =>
          first
            | exact ⟨k + 1, _, by omega, by go_num, rfl, HT1.out⟩
            | ((repeat apply Exists.intro); refine ⟨?_, rfl⟩; exact ⟨k + 1, _, by omega, by go_num, rfl, HT1.out⟩)
        case measure => simp [intOf]; omega
    · obtain rfl : k = n := by omega
      have HJX := Lib.hid (show t.data.toList = joinC xs by rw [HT.out, List.take_of_length_le (Nat.le_of_eq HN.out)])
      go_wp2_with (go_at_call 61; refine (RefText_any _ t (by omega)).mono ?_; rintro e w1 ⟨rfl, hb1⟩; skip; have HB1 := Lib.hid hb1; clear hb1)
      go_ret
      exact ⟨by rw [← HJX.out]; rfl, HB1.out⟩
end Go.Proofs.YtjfikbnfabdkoaaDoor.Wi
namespace Go.Proofs.YtjfikbnfabdkoaaDoor.Mg
open Go.RowKit Go.Proofs.YtjfikbnfabdkoaaDoor.Wi Go.Proofs.YtjfikbnfabdkoaaDoor.Ow Go.Proofs.YtjfikbnfabdkoaaDoor.Be
/-- the world gets a name -/
theorem wp_named2 {P : Program} {c : Code} {Q : Exit → Act → World → Prop} {a : Act} {w : World} {o1 o2 : Obj} (h : ∀ X, X = (w.alloc o1).alloc o2 → c.wp P Q a X) : c.wp P Q a ((w.alloc o1).alloc o2) := h _ rfl
def namV (r : Nat × List UInt8 × List UInt8) : Value := .string (mkS r.2.1)
def kinV (r : Nat × List UInt8 × List UInt8) : Value := .int .i64 (r.1 : Int)
@[irreducible] def namsV : Array Value := (rowsL.map namV).toArray
@[irreducible] def kinsV : Array Value := (rowsL.map kinV).toArray
theorem namsV_eq : namsV = (rowsL.map namV).toArray := by unfold namsV; rfl
theorem kinsV_eq : kinsV = (rowsL.map kinV).toArray := by unfold kinsV; rfl
theorem namsV_get (k : Nat) (r : Nat × List UInt8 × List UInt8) (h : rowsL[k]? = some r) : namsV[k]? = some (.string (mkS r.2.1)) := by rw [namsV_eq]; simp [h, namV]
theorem kinsV_get (k : Nat) (r : Nat × List UInt8 × List UInt8) (h : rowsL[k]? = some r) : kinsV[k]? = some (.int .i64 (r.1 : Int)) := by rw [kinsV_eq]; simp [h, kinV]
set_option maxRecDepth 20000 in
set_option maxHeartbeats 2000000 in
theorem RefName_of (w : World) (kind : Int) :
    Calls Tryd.prog 22 #[.int .i64 kind] w fun e w' => e = .returned (.string (mkS (nam kind))) ∧ Below w.heap.size w w' := by
  go_enter Tryd.func22, Tryd.ntmps22
  go_wp2_with fail
  refine wp_named2 (fun X hX => ?_)
  have hXB : Rg.Blk X w.heap.size 9 namsV := by rw [hX, namsV_eq]; exact (Rg.Blk.new w _ _).alloc _
  have hY : Rg.Blk X (w.heap.size + 1) 3 kinsV := by rw [hX, kinsV_eq]; exact Rg.Blk.newAt (by simp) _ _
  have hBY : Below w.heap.size w X := by rw [hX]; exact ((Below.refl _ _).alloc (Nat.le_refl _) _).alloc (by simp) _
  have HXY := Lib.hid hXB
  have HY := Lib.hid hY
  have HBY := Lib.hid hBY
  clear hX hXB hY hBY
  go_loop [9] (fun i => ∃ k : Nat, k ≤ 29 ∧ i = .int .i64 k ∧ rowOf kind = (rowsL.drop k).find? fun r => decide ((r.1 : Int) = kind)) (fun i => 30 - (intOf i).toNat)
  case atStart => exact ⟨0, by decide, rfl, rfl⟩
  case round =>
    obtain ⟨k, hk, rfl, hrow⟩ := hrel
    have HROW := Lib.hid hrow
    clear hrow
    by_cases hk29 : k < 29
    · obtain ⟨r, hr⟩ : ∃ r, rowsL[k]? = some r := ⟨_, List.getElem?_eq_getElem (by exact hk29)⟩
      have hways := rowOf_drop kind k r hr HROW.out
      have y0 := HY.out.cell k (kinsV_get k r hr)
      have x0 := HXY.out.cell k (namsV_get k r hr)
      have hik : (k : Int) < 29 := by omega
      have hik0 : (0 : Int) ≤ k := by omega
      clear hr
      obtain ⟨kd, nm, lt⟩ := r
      simp only at y0 x0 hways
      by_cases hkd : (kd : Int) = kind
      · have HF := Lib.hid (hways.1 hkd)
        have hd : ((kd : Int) == kind) = true := by simpa using hkd
        clear hkd hways
        go_wp2_with fail
        go_ret
        exact ⟨by unfold nam; rw [HF.out]; rfl, HBY.out⟩
      · have HF := Lib.hid (hways.2 hkd)
        have hd : ((kd : Int) == kind) = false := by simpa using hkd
        clear hkd hways
        go_wp2_with fail
        go_round
        case rel =>
          first
            | exact ⟨k + 1, by omega, by go_num, HF.out⟩
            | ((repeat apply Exists.intro); refine ⟨?_, rfl⟩; exact ⟨k + 1, by omega, by go_num, HF.out⟩)
        case measure => simp [intOf]; omega
    · obtain rfl : k = 29 := by omega
      have HF := Lib.hid (show rowOf kind = none from HROW.out)
      go_wp2_with fail
      go_ret
      exact ⟨by unfold nam; rw [HF.out]; rfl, HBY.out⟩
end Go.Proofs.YtjfikbnfabdkoaaDoor.Mg
