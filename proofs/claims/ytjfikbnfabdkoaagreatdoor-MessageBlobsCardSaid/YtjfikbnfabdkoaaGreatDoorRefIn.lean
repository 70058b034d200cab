/- The reference's reading: raw bytes, numbers, texts. -/
import Derived.Test.YtjfikbnfabdkoaaGreatDoorWirB
import Derived.Test.YtjfikbnfabdkoaaGreatDoorWirC
import Derived.Deep.RegionHeld3
import Derived.Deep.DrawnRows
set_option linter.unusedVariables false
set_option linter.unusedSimpArgs false
namespace Go.Proofs.YtjfikbnfabdkoaaGreatDoor.Wi
open Go.RowKit Go.Proofs.YtjfikbnfabdkoaaGreatDoor.Ow Go.Proofs.YtjfikbnfabdkoaaGreatDoor.Be
attribute [local go_sem ↓] Go.wp_at_zero Go.wp_at_succ
/-- the reference's In, by value -/
def inV (s : ByteArray) (c : Nat) : Value := .agg #[.string s, .int .i64 (c : Int)]
def Read2 (w : World) (s : ByteArray) (c : Nat) (v : Value) (e : Ending) (w' : World) : Prop := e = .returned (.tuple #[inV s c, v]) ∧ Below w.heap.size w w'
set_option maxRecDepth 20000 in
set_option maxHeartbeats 1000000 in
theorem RefRaw_any (w : World) (s : ByteArray) (c : Nat) (n : Int) (hn : n ≤ 9223372036854775807) (hs : s.size ≤ 9223372036854775807) :
    Calls Tryz.prog 51 #[inV s c, .int .i64 n] w (Read2 w (rawS s c n.toNat) (rawC s c n.toNat) (.string (rawR s c n.toNat))) := by
  unfold inV
  by_cases hc : c = 0
  · subst hc
    obtain ⟨m, hm⟩ : ∃ m : Nat, n.toNat = m := ⟨_, rfl⟩
    rw [hm]
    by_cases hms : m ≤ s.size
    · have HR := Lib.hid (show rawR s 0 m = s.extract 0 m ∧ rawS s 0 m = s.extract m s.size ∧ rawC s 0 m = 0 from ⟨if_pos ⟨rfl, hms⟩, by unfold rawS; rw [if_pos rfl, if_pos hms], by unfold rawC; rw [if_pos rfl, if_pos hms]⟩)
      have hd : (m : Int) ≤ s.size := by omega
      have hd2 : (0 : Int) ≤ m := by omega
      have hd3 : ¬ (s.size : Int) < m := by omega
      by_cases hneg : n < 0
      · have hm0 : m = 0 := by omega
        subst hm0
        have hd4 : ¬ (s.size : Int) < 0 := by omega
        clear hm hms
        go_enter Tryz.func51, Tryz.ntmps51
        go_wp2_with fail
        go_region_held3 (fun w' => w'.cell? ⟨w.heap.size, 0, none⟩ = some (.string s)) (go_keep) (fail)
        all_goals go_wp2_with fail
        exact bodyPost_ret (v := .tuple #[.agg #[.string (s.extract 0 s.size), .int .i64 0], .string (s.extract 0 0)]) (by simp [results, Tryz.results51, go_sem]) rfl ⟨by rw [HR.out.1, HR.out.2.1, HR.out.2.2]; rfl, by
          repeat (first | exact Below.refl _ _ | apply Below.drew | (refine Below.setCell ?_ ?_ _; rotate_left; focus (first | (simp; done) | (simp; omega) | omega)) | (refine Below.alloc ?_ ?_ _; rotate_left; focus (first | (simp; done) | (simp; omega) | omega)))⟩
      · have hmn : n = (m : Int) := by omega
        subst hmn
        clear hm hms
        go_enter Tryz.func51, Tryz.ntmps51
        go_wp2_with fail
        go_region_held3 (fun w' => w'.cell? ⟨w.heap.size, 0, none⟩ = some (.string s)) (go_keep) (fail)
        all_goals go_wp2_with fail
        exact bodyPost_ret (v := .tuple #[.agg #[.string (s.extract m s.size), .int .i64 0], .string (s.extract 0 m)]) (by simp [results, Tryz.results51, go_sem]) rfl ⟨by rw [HR.out.1, HR.out.2.1, HR.out.2.2]; rfl, by
          repeat (first | exact Below.refl _ _ | apply Below.drew | (refine Below.setCell ?_ ?_ _; rotate_left; focus (first | (simp; done) | (simp; omega) | omega)) | (refine Below.alloc ?_ ?_ _; rotate_left; focus (first | (simp; done) | (simp; omega) | omega)))⟩
    · have HR := Lib.hid (show rawR s 0 m = ⟨#[]⟩ ∧ rawS s 0 m = ⟨#[]⟩ ∧ rawC s 0 m = 2 from ⟨if_neg fun e => hms e.2, by unfold rawS; rw [if_pos rfl, if_neg hms], by unfold rawC; rw [if_pos rfl, if_neg hms]⟩)
      have hmn : n = (m : Int) := by omega
      subst hmn
      have hd : (s.size : Int) < m := by omega
      have hd2 : ¬ (m : Int) < 0 := by omega
      clear hm hms
      go_enter Tryz.func51, Tryz.ntmps51
      go_wp2
      exact bodyPost_ret (v := .tuple #[.agg #[.string ⟨#[]⟩, .int .i64 2], .string ⟨#[]⟩]) (by simp [results, Tryz.results51, go_sem]) rfl ⟨by rw [HR.out.1, HR.out.2.1, HR.out.2.2]; rfl, by
        repeat (first | exact Below.refl _ _ | apply Below.drew | (refine Below.setCell ?_ ?_ _; rotate_left; focus (first | (simp; done) | (simp; omega) | omega)) | (refine Below.alloc ?_ ?_ _; rotate_left; focus (first | (simp; done) | (simp; omega) | omega)))⟩
  · have HR := Lib.hid (show rawR s c n.toNat = ⟨#[]⟩ ∧ rawS s c n.toNat = s ∧ rawC s c n.toNat = c from ⟨if_neg fun e => hc e.1, if_neg hc, if_neg hc⟩)
    have hd : ((c : Int) != 0) = true := by rw [bne_iff_ne]; omega
    clear hc
    go_enter Tryz.func51, Tryz.ntmps51
    go_wp2
    exact bodyPost_ret (v := .tuple #[.agg #[.string s, .int .i64 c], .string ⟨#[]⟩]) (by simp [results, Tryz.results51, go_sem]) rfl ⟨by rw [HR.out.1, HR.out.2.1, HR.out.2.2]; rfl, by
      repeat (first | exact Below.refl _ _ | apply Below.drew | (refine Below.setCell ?_ ?_ _; rotate_left; focus (first | (simp; done) | (simp; omega) | omega)) | (refine Below.alloc ?_ ?_ _; rotate_left; focus (first | (simp; done) | (simp; omega) | omega)))⟩
theorem numV_step (l : List UInt8) (k : Nat) (x : UInt8) (hx : l[k]? = some x) : numV (l.take (k + 1)) = numV (l.take k) * 256 + x.toNat := by
  rw [List.take_add_one, hx, Option.toList_some, numV_snoc]
set_option maxRecDepth 20000 in
set_option maxHeartbeats 1000000 in
theorem RefNumber_any (w : World) (s : ByteArray) (c : Nat) (n : Nat) (hn : n ≤ 8) (hs : s.size ≤ 9223372036854775807) :
    Calls Tryz.prog 50 #[inV s c, .int .i64 n] w (Read2 w (rawS s c n) (rawC s c n) (.int .u64 (numV (rawR s c n).data.toList : Nat))) := by
  obtain ⟨r, hr⟩ : ∃ r, rawR s c n = r := ⟨_, rfl⟩
  obtain ⟨s1, hs1⟩ : ∃ s1, rawS s c n = s1 := ⟨_, rfl⟩
  obtain ⟨c1, hc1⟩ : ∃ c1, rawC s c n = c1 := ⟨_, rfl⟩
  have hrs : r.size ≤ 8 := by rw [← hr]; exact Nat.le_trans (rawR_size s c n) hn
  have HRAW := Lib.hid (show ∀ W : World, Calls Tryz.prog 51 #[inV s c, .int .i64 n] W (Read2 W s1 c1 (.string r)) from fun W => by
    have := RefRaw_any W s c n (by omega) hs
    rw [Int.toNat_natCast, hr, hs1, hc1] at this
    exact this)
  rw [hr, hs1, hc1]
  clear hr hs1 hc1 hs
  unfold inV at HRAW ⊢
  go_enter Tryz.func50, Tryz.ntmps50
  go_wp2_with (go_at_call 51; refine (HRAW.out _).mono ?_; rintro e w1 ⟨rfl, hb1⟩; unfold inV
               have hB : Rg.Blk w1 (w.heap.size + 1) 58 #[.string ⟨#[]⟩, .int .i64 0] := (Rg.Blk.newAt (w := w.alloc (.cells #[.string s, .int .i64 c] 58)) (by simp) _ _).below hb1 (by simp)
               have q0 := hB.cell 0 (v := .string ⟨#[]⟩) rfl
               have q1 := hB.cell 1 (v := .int .i64 0) rfl
               have f0 := hB.frozen 0
               have f1 := hB.frozen 1
               clear hB
               have hz : w.heap.size + 1 < w1.heap.size := by have := hb1.size; simp at this; omega
               have HB1 := Lib.hid hb1
               clear hb1)
  go_loop [8, 9] (fun x i => ∃ k : Nat, k ≤ r.size ∧ i = .int .i64 k ∧ x = .int .u64 (numV (r.data.toList.take k) : Nat)) (fun _ i => 8 - (intOf i).toNat)
  case atStart => exact ⟨0, Nat.zero_le _, rfl, rfl⟩
  case round =>
    obtain ⟨k, hk, rfl, rfl⟩ := hrel
    by_cases hlt : k < r.size
    · have HX := Lib.hid (numV_step r.data.toList k r[k] (get_list r k hlt))
      have hb : numV (r.data.toList.take k) < 256 ^ 7 := by
        have h1 := numV_lt (r.data.toList.take k)
        rw [List.length_take, len_list] at h1
        exact Nat.lt_of_lt_of_le h1 (Nat.pow_le_pow_right (by decide) (by omega))
      have hb2 : (numV (r.data.toList.take k) : Int) ≤ 72057594037927935 := by omega
      have hik : (k : Int) < r.size := by omega
      have hr255 : (r[k].toNat : Int) ≤ 255 := by have := r[k].toNat_lt; omega
      clear hb
      generalize numV (r.data.toList.take k) = q at *
      go_wp2_with fail
      go_round
      case rel => exact ⟨k + 1, by omega, by go_num, by rw [HX.out]; go_num⟩
      case measure => simp [intOf]; omega
    · obtain rfl : k = r.size := by omega
      have HT := Lib.hid (show r.data.toList.take r.size = r.data.toList by rw [List.take_of_length_le (by rw [len_list]; exact Nat.le_refl _)])
      rw [HT.out]
      go_wp2_with fail
      refine bodyPost_ret (v := .tuple #[.agg #[.string s1, .int .i64 c1], .int .u64 (numV r.data.toList : Nat)]) (by simp [results, Tryz.results50, go_sem, q0, q1, hz]) rfl ?_
      refine ⟨rfl, ?_⟩
      have h1 : Below w.heap.size w w1 := Below.trans (show Below w.heap.size w ((w.alloc (.cells #[.string s, .int .i64 c] 58)).alloc (.cells #[.string ⟨#[]⟩, .int .i64 0] 58)) by repeat (first | exact Below.refl _ _ | apply Below.drew | (refine Below.setCell ?_ ?_ _; rotate_left; focus (first | (simp; done) | (simp; omega) | omega)) | (refine Below.alloc ?_ ?_ _; rotate_left; focus (first | (simp; done) | (simp; omega) | omega)))) (HB1.out.mono (by simp; omega))
      refine Below.trans h1 ?_
      repeat (first | exact Below.refl _ _ | apply Below.drew | (refine Below.setCell ?_ ?_ _; rotate_left; focus (first | (simp; done) | (simp; omega) | omega)) | (refine Below.alloc ?_ ?_ _; rotate_left; focus (first | (simp; done) | (simp; omega) | omega)))
set_option maxRecDepth 20000 in
set_option maxHeartbeats 1000000 in
theorem RefText_read (w : World) (s : ByteArray) (c : Nat) (most : Int) (hs : s.size ≤ 9223372036854775807) :
    Calls Tryz.prog 22 #[inV s c, .int .i64 most] w (Read2 w (txtS s c most) (txtC s c most) (.string (txtR s c most))) := by
  obtain ⟨s1, hs1⟩ : ∃ s1, rawS s c 4 = s1 := ⟨_, rfl⟩
  obtain ⟨c1, hc1⟩ : ∃ c1, rawC s c 4 = c1 := ⟨_, rfl⟩
  obtain ⟨n, hn⟩ : ∃ n, txtN s c = n := ⟨_, rfl⟩
  have hnl : n < 4294967296 := by rw [← hn]; exact num4_lt s c
  have hs1l : s1.size ≤ 9223372036854775807 := by rw [← hs1]; exact Nat.le_trans (rawS_size s c 4) hs
  have HNUM := Lib.hid (show ∀ W : World, Calls Tryz.prog 50 #[inV s c, .int .i64 4] W (Read2 W s1 c1 (.int .u64 (n : Int))) from fun W => by
    have := RefNumber_any W s c 4 (by decide) hs
    rw [hs1, hc1, show numV (rawR s c 4).data.toList = n from hn] at this
    exact this)
  have hb : txtBig s c most = decide (c1 = 0 ∧ most < (n : Int)) := by unfold txtBig; rw [hc1, hn]
  have HR := Lib.hid (show txtR s c most = (if txtBig s c most then ⟨#[]⟩ else rawR s1 c1 n) ∧ txtS s c most = (if txtBig s c most then ⟨#[]⟩ else rawS s1 c1 n) ∧ txtC s c most = (if txtBig s c most then 4 else rawC s1 c1 n) from by
    unfold txtR txtS txtC; rw [hs1, hc1, hn]; exact ⟨rfl, rfl, rfl⟩)
  clear hs1 hc1 hn hs
  by_cases hbig : c1 = 0 ∧ most < (n : Int)
  · have HT := Lib.hid (show txtBig s c most = true by rw [hb]; simp [hbig])
    rw [HR.out.1, HR.out.2.1, HR.out.2.2, HT.out]
    obtain ⟨rfl, hmn⟩ := hbig
    have hmn2 : most < (n : Int) := hmn
    clear hb hmn
    unfold inV at HNUM ⊢
    go_enter Tryz.func22, Tryz.ntmps22
    go_wp2_with (go_at_call 50; refine (HNUM.out _).mono ?_; rintro e w1 ⟨rfl, hb1⟩; unfold inV
                 have hB : Rg.Blk w1 (w.heap.size + 1) 58 #[.string ⟨#[]⟩, .int .i64 0] := (Rg.Blk.newAt (w := w.alloc (.cells #[.string s, .int .i64 c] 58)) (by simp) _ _).below hb1 (by simp)
                 have q0 := hB.cell 0 (v := .string ⟨#[]⟩) rfl
                 have q1 := hB.cell 1 (v := .int .i64 0) rfl
                 have f0 := hB.frozen 0
                 have f1 := hB.frozen 1
                 have hz : w.heap.size + 1 < w1.heap.size := by have := hb1.size; simp at this; omega
                 have HB1 := Lib.hid hb1
                 clear hb1 hB)
    refine bodyPost_ret (v := .tuple #[.agg #[.string ⟨#[]⟩, .int .i64 4], .string ⟨#[]⟩]) (by simp [results, Tryz.results22, go_sem, q0, q1, hz]) rfl ?_
    refine ⟨rfl, ?_⟩
    have h1 : Below w.heap.size w w1 := Below.trans (show Below w.heap.size w ((w.alloc (.cells #[.string s, .int .i64 c] 58)).alloc (.cells #[.string ⟨#[]⟩, .int .i64 0] 58)) by repeat (first | exact Below.refl _ _ | apply Below.drew | (refine Below.setCell ?_ ?_ _; rotate_left; focus (first | (simp; done) | (simp; omega) | omega)) | (refine Below.alloc ?_ ?_ _; rotate_left; focus (first | (simp; done) | (simp; omega) | omega)))) (HB1.out.mono (by simp; omega))
    refine Below.trans h1 ?_
    repeat (first | exact Below.refl _ _ | apply Below.drew | (refine Below.setCell ?_ ?_ _; rotate_left; focus (first | (simp; done) | (simp; omega) | omega)) | (refine Below.alloc ?_ ?_ _; rotate_left; focus (first | (simp; done) | (simp; omega) | omega)))
  · have HT := Lib.hid (show txtBig s c most = false by rw [hb, decide_eq_false_iff_not]; exact hbig)
    rw [HR.out.1, HR.out.2.1, HR.out.2.2, HT.out]
    simp only [Bool.false_eq_true, if_false]
    have hways : ((c1 : Int) == 0) = false ∨ ((c1 : Int) == 0) = true ∧ ¬ most < (n : Int) := by
      by_cases h0 : c1 = 0
      · right; exact ⟨by simp [h0], by omega⟩
      · left; rw [beq_eq_false_iff_ne]; omega
    have HRAW := Lib.hid (show ∀ W : World, Calls Tryz.prog 51 #[inV s1 c1, .int .i64 n] W (Read2 W (rawS s1 c1 n) (rawC s1 c1 n) (.string (rawR s1 c1 n))) from fun W => by
      have := RefRaw_any W s1 c1 n (by omega) hs1l
      rw [Int.toNat_natCast] at this
      exact this)
    obtain ⟨r2, hr2⟩ : ∃ r2, rawR s1 c1 n = r2 := ⟨_, rfl⟩
    obtain ⟨s2, hs2⟩ : ∃ s2, rawS s1 c1 n = s2 := ⟨_, rfl⟩
    obtain ⟨c2, hc2⟩ : ∃ c2, rawC s1 c1 n = c2 := ⟨_, rfl⟩
    rw [hr2, hs2, hc2] at HRAW ⊢
    clear hb hbig hr2 hs2 hc2
    unfold inV at HNUM HRAW ⊢
    rcases hways with hw1 | ⟨hw1, hw2⟩
    all_goals
      go_enter Tryz.func22, Tryz.ntmps22
      go_wp2_with (first
        | (go_at_call 50; refine (HNUM.out _).mono ?_; rintro e w1 ⟨rfl, hb1⟩; unfold inV
           have hB : Rg.Blk w1 (w.heap.size + 1) 58 #[.string ⟨#[]⟩, .int .i64 0] := (Rg.Blk.newAt (w := w.alloc (.cells #[.string s, .int .i64 c] 58)) (by simp) _ _).below hb1 (by simp)
           have hz : w.heap.size + 1 < w1.heap.size := by have := hb1.size; simp at this; omega
           have HB1 := Lib.hid hb1
           have HQ1 := Lib.hid hB
           clear hb1 hB)
        | (go_at_call 51; refine (HRAW.out _).mono ?_; rintro e w2 ⟨rfl, hb2⟩; unfold inV
           have hB : Rg.Blk w2 (w.heap.size + 1) 58 #[.string ⟨#[]⟩, .int .i64 0] := (HQ1.out.alloc _).below hb2 (by simp; omega)
           have q0 := hB.cell 0 (v := .string ⟨#[]⟩) rfl
           have q1 := hB.cell 1 (v := .int .i64 0) rfl
           have f0 := hB.frozen 0
           have f1 := hB.frozen 1
           have HB2 := Lib.hid hb2
           clear hb2 hB))
      refine bodyPost_ret (v := .tuple #[.agg #[.string s2, .int .i64 c2], .string r2]) (by simp [results, Tryz.results22, go_sem, q0, q1, hz]) rfl ?_
      refine ⟨rfl, ?_⟩
      have h1 : Below w.heap.size w w1 := Below.trans (show Below w.heap.size w ((w.alloc (.cells #[.string s, .int .i64 c] 58)).alloc (.cells #[.string ⟨#[]⟩, .int .i64 0] 58)) by repeat (first | exact Below.refl _ _ | apply Below.drew | (refine Below.setCell ?_ ?_ _; rotate_left; focus (first | (simp; done) | (simp; omega) | omega)) | (refine Below.alloc ?_ ?_ _; rotate_left; focus (first | (simp; done) | (simp; omega) | omega)))) (HB1.out.mono (by simp; omega))
      have h2 : Below w.heap.size w w2 := (h1.alloc h1.size _).trans (HB2.out.mono (by have := h1.size; simp; omega))
      refine Below.trans h2 ?_
      repeat (first | exact Below.refl _ _ | apply Below.drew | (refine Below.setCell ?_ ?_ _; rotate_left; focus (first | (simp; done) | (simp; omega) | omega)) | (refine Below.alloc ?_ ?_ _; rotate_left; focus (first | (simp; done) | (simp; omega) | omega)))
end Go.Proofs.YtjfikbnfabdkoaaGreatDoor.Wi
