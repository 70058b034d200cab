/- The reference's reading: big numbers. -/
import Derived.Test.YtkpecnkflibmjaaDoorRefIn2
import Derived.Test.YtkpecnkflibmjaaDoorRegionL
import Derived.Test.YtkpecnkflibmjaaDoorWireRef
import Derived.Deep.RegionHeld3
import Derived.Deep.RegionWith
import Derived.Deep.DrawnRows
set_option linter.unusedVariables false
set_option linter.unusedSimpArgs false
namespace Go.Proofs.YtkpecnkflibmjaaDoor.Wi
open Go.RowKit Go.Proofs.YtkpecnkflibmjaaDoor.Ow Go.Proofs.YtkpecnkflibmjaaDoor.Be
attribute [local go_sem ↓] Go.wp_at_zero Go.wp_at_succ
@[irreducible] def txtF (x : ByteArray) : ByteArray := mkS (textL x.data.toList)
@[irreducible] def bigF (x : ByteArray) : ByteArray := mkS (textL (bigL x.data.toList))
theorem textL_inj {a b : List UInt8} (h : textL a = textL b) (ha : a.length < 4294967296) (hb : b.length < 4294967296) : a = b := by
  unfold textL at h
  have := List.append_inj h (by rw [be_length, be_length])
  exact this.2
theorem txt_ne (x y : List UInt8) (hx : x.length < 4294967296) (hy : y.length < 4294967296) : ((mkS (textL x)).toList != (mkS (textL y)).toList) = decide (x ≠ y) := by
  by_cases h : x = y
  · subst h; simp
  · rw [show decide (x ≠ y) = true by simp [h], bne_iff_ne]
    intro e
    rw [ByteArray.toList_eq, ByteArray.toList_eq] at e
    exact h (textL_inj e hx hy)
theorem bigL_zero (t : List UInt8) : bigL (0 :: t) = 0 :: t ↔ t ≠ [] ∧ 128 ≤ (t.headD 0).toNat := by
  have hs : strip (0 :: t) = strip t := by unfold strip; rw [List.dropWhile_cons, if_pos (by rfl)]
  unfold bigL
  rw [hs]
  constructor
  · intro h
    split at h
    · rename_i h8
      have h2 : strip t = t := by simpa using h
      rw [h2] at h8
      refine ⟨?_, h8⟩
      rintro rfl
      exact absurd h8 (by decide)
    · have := strip_length t
      rw [h, List.length_cons] at this
      omega
  · rintro ⟨h1, h2⟩
    have h3 : strip t = t := by
      cases t with
      | nil => exact absurd rfl h1
      | cons x t =>
        unfold strip
        rw [List.dropWhile_cons, if_neg]
        intro e
        have : x = 0 := by simpa using e
        subst this
        have h4 : (128 : Nat) ≤ 0 := h2
        omega
    rw [h3, if_pos h2]
theorem badB_ways (r t : ByteArray) (hrp : 0 < r.size) (htp : tp r = t) : badB r.data.toList t.data.toList = true ∧ ((128 ≤ r[0].toNat ∧ bigL r.data.toList ≠ r.data.toList ∧ bigL r.data.toList = 0 :: r.data.toList) ∨ (r[0] = 0 ∧ bigL r.data.toList ≠ r.data.toList ∧ bigL r.data.toList ≠ 0 :: r.data.toList)) ∨
        badB r.data.toList t.data.toList = false ∧ r[0].toNat < 128 ∧ bigL r.data.toList = r.data.toList := by
  obtain ⟨l, hl⟩ : ∃ l : List UInt8, r.data.toList = r[0] :: l := by
    have h1 := head_get' r hrp
    cases hL : r.data.toList with
    | nil => have := len_list r; rw [hL] at this; simp at this; omega
    | cons x l => rw [hL] at h1; exact ⟨l, by rw [← h1]; rfl⟩
  by_cases hx0 : r[0] = 0
  · have htl : t.data.toList = l := by rw [← htp, tp_zero hrp hx0, hl]; rfl
    have hz := bigL_zero l
    rw [htl, hl, hx0]
    cases l with
    | nil => left; exact ⟨by decide, .inr ⟨rfl, by decide, by decide⟩⟩
    | cons y l =>
      have hne : y :: l ≠ 0 :: y :: l := fun e => by have := congrArg List.length e; simp at this
      by_cases hy : 128 ≤ y.toNat
      · right
        refine ⟨?_, by decide, hz.2 ⟨by simp, hy⟩⟩
        unfold badB
        have h1 : decide (((y :: l).headD 0).toNat < 128) = false := by rw [decide_eq_false_iff_not]; show ¬ y.toNat < 128; omega
        rw [h1]
        simp
      · left
        refine ⟨?_, .inr ⟨rfl, fun e => hy (hz.1 e).2, ?_⟩⟩
        · unfold badB
          have h1 : decide (((y :: l).headD 0).toNat < 128) = true := by rw [decide_eq_true_eq]; show y.toNat < 128; omega
          rw [h1, show decide (y :: l ≠ 0 :: y :: l) = true by simp [hne]]
          simp
        · intro e
          have h2 := strip_length (y :: l)
          have hs : strip (0 :: y :: l) = strip (y :: l) := by unfold strip; rw [List.dropWhile_cons, if_pos (by rfl)]
          have h3 := congrArg List.length e
          unfold bigL at h3
          rw [hs] at h3
          simp only [List.length_cons] at h2 h3
          split at h3
          · simp only [List.length_cons] at h3; omega
          · omega
  · have htr : t = r := by rw [← htp]; exact tp_same hrp hx0
    have hst : strip ((r[0] : UInt8) :: l) = r[0] :: l := by unfold strip; rw [List.dropWhile_cons, if_neg (by simpa using hx0)]
    rw [htr, hl]
    by_cases h8 : 128 ≤ r[0].toNat
    · left
      have hb : bigL ((r[0] : UInt8) :: l) = (0 : UInt8) :: r[0] :: l := by unfold bigL; rw [hst]; exact if_pos h8
      rw [hb]
      refine ⟨by unfold badB; simp [h8], .inl ⟨h8, fun e => by have := congrArg List.length e; simp at this, rfl⟩⟩
    · right
      have hb : bigL ((r[0] : UInt8) :: l) = r[0] :: l := by unfold bigL; rw [hst]; exact if_neg h8
      rw [hb]
      exact ⟨by unfold badB; simp [h8], by omega, rfl⟩
set_option maxRecDepth 20000 in
set_option maxHeartbeats 4000000 in
theorem RefBig_read (w : World) (s : ByteArray) (c : Nat) (most : Int) (hs : s.size ≤ 900000) (hm0 : -9223372036854775808 ≤ most) (hm9 : most ≤ 9223372036854775807) :
    Calls Tryd.prog 54 #[inV s c, .int .i64 most] w (Read2 w (bigS s c most) (bigC s c most) (.string (bigR s c most))) := by
  obtain ⟨q, hq⟩ : ∃ q, min (max most (-1)) 4096 = q := ⟨_, rfl⟩
  obtain ⟨m, hm⟩ : ∃ m : Nat, max q 0 = (m : Int) := ⟨(max q 0).toNat, by omega⟩
  have hml : m ≤ 4096 := by omega
  have hQ : bq most = (m : Int) + 1 := by unfold bq bmost; rw [← hm, ← hq]; split <;> omega
  have hbm : ∀ n : Nat, 0 < n → (bmost most < (n : Int) ↔ q < (n : Int)) := by intro n hn; unfold bmost; rw [← hq]; split <;> omega
  have HTXT := Lib.hid (show ∀ W : World, _ from fun W => RefText_read W s c ((m : Int) + 1) (by omega))
  have hrs := txtR_size s c ((m : Int) + 1)
  obtain ⟨r, hr⟩ : ∃ r, txtR s c ((m : Int) + 1) = r := ⟨_, rfl⟩
  obtain ⟨s1, hs1⟩ : ∃ s1, txtS s c ((m : Int) + 1) = s1 := ⟨_, rfl⟩
  obtain ⟨c1, hc1⟩ : ∃ c1, txtC s c ((m : Int) + 1) = c1 := ⟨_, rfl⟩
  rw [hr] at hrs
  rw [hr, hs1, hc1] at HTXT
  have HR := Lib.hid hr
  have HS1 := Lib.hid hs1
  have HC1 := Lib.hid hc1
  have HQ := Lib.hid hQ
  have HBM := Lib.hid hbm
  have hrs2 : r.size ≤ 900000 := by omega
  clear hr hs1 hc1 hrs hs hQ hbm
  unfold inV at HTXT ⊢
  by_cases h0 : r.size = 0
  · have HK := Lib.hid (show bigK s c most = 0 by unfold bigK; rw [HQ.out, HR.out, if_pos h0])
    have hl := toList_empty h0
    have hl2 : r.toList.isEmpty = true := by rw [hl]; rfl
    clear h0
    go_enter Tryd.func54, Tryd.ntmps54
    go_wp2_with (go_at_call 55; refine (HTXT.out _).mono ?_; rintro e w1 ⟨rfl, hb1⟩; unfold inV; have hB : Rg.Blk w1 (w.heap.size + 1) 62 #[.string ⟨#[]⟩, .int .i64 0] := (Rg.Blk.newAt (w := w.alloc (.cells #[.string s, .int .i64 c] 62)) (by simp) _ _).below hb1 (by simp); have q0 := hB.cell 0 (v := .string ⟨#[]⟩) rfl; have q1 := hB.cell 1 (v := .int .i64 0) rfl; have f0 := hB.frozen 0; have f1 := hB.frozen 1; have hz : w.heap.size + 1 < w1.heap.size := (by have := hb1.size; simp at this; omega); have HB1 := Lib.hid hb1; have HQB := Lib.hid hB; clear hb1 hB)
    refine bodyPost_ret (v := .tuple #[.agg #[.string s1, .int .i64 c1], .string ⟨#[]⟩]) (by simp [results, Tryd.results54, go_sem, q0, q1, hz]) rfl ?_
    unfold bigS bigC bigR
    rw [HK.out]
    refine ⟨by rw [HQ.out, HS1.out, HC1.out]; rfl, ?_⟩
    have h1 : Below w.heap.size w w1 := Below.trans (show Below w.heap.size w ((w.alloc (.cells #[.string s, .int .i64 c] 62)).alloc (.cells #[.string ⟨#[]⟩, .int .i64 0] 62)) by repeat (first | exact Below.refl _ _ | apply Below.drew | (refine Below.setCell ?_ ?_ _; rotate_left; focus (first | (simp; done) | (simp; omega) | omega)) | (refine Below.alloc ?_ ?_ _; rotate_left; focus (first | (simp; done) | (simp; omega) | omega)))) (HB1.out.mono (by simp; omega))
    refine Below.trans h1 ?_
    repeat (first | exact Below.refl _ _ | apply Below.drew | (refine Below.setCell ?_ ?_ _; rotate_left; focus (first | (simp; done) | (simp; omega) | omega)) | (refine Below.alloc ?_ ?_ _; rotate_left; focus (first | (simp; done) | (simp; omega) | omega)))
  · have hl2 := toList_ne h0
    have hrp : 0 < r.size := by omega
    have hc0 : c1 = 0 := by rw [← HC1.out]; exact txtR_pos (by rw [HR.out]; exact h0)
    subst hc0
    have HH := Lib.hid (head_get' r hrp)
    have HTX := Lib.hid (show ∀ (x : ByteArray) (W : World), x.size ≤ 1000000 → Calls Tryd.prog 23 #[.string x] W fun e w' => e = .returned (.string (txtF x)) ∧ Below W.heap.size W w' from fun x W hx => by
      unfold txtF; exact RefText_any W x hx)
    have HBG := Lib.hid (show ∀ W : World, Calls Tryd.prog 21 #[.string r] W fun e w' => e = .returned (.string (bigF r)) ∧ Below W.heap.size W w' from fun W => by
      unfold bigF; exact RefBig_any W r (by omega))
    have HZ0 := Lib.hid (show ((⟨#[0]⟩ : ByteArray) ++ r).size = 1 + r.size by rw [ByteArray.size_append]; rfl)
    have HS0 := Lib.hid (show r.size ≤ 1000000 by omega)
    have HS2 := Lib.hid (show ((⟨#[0]⟩ : ByteArray) ++ r).size ≤ 1000000 by rw [HZ0.out]; omega)
    have hq63 : ¬ 9223372036854775807 < 1 + r.size := by omega
    have hll : r.data.toList.length < 4294967296 := by rw [len_list]; omega
    have hlb : (bigL r.data.toList).length < 4294967296 := by have := bigL_length r.data.toList; rw [len_list] at this; omega
    have hc1 : ((bigF r).toList != (txtF r).toList) = decide (bigL r.data.toList ≠ r.data.toList) := by unfold bigF txtF; exact txt_ne _ _ hlb hll
    have hc2 : ((bigF r).toList != (txtF ((⟨#[0]⟩ : ByteArray) ++ r)).toList) = decide (bigL r.data.toList ≠ 0 :: r.data.toList) := by
      unfold bigF txtF
      have e : ((⟨#[0]⟩ : ByteArray) ++ r).data.toList = 0 :: r.data.toList := by simp
      rw [e]
      exact txt_ne _ _ hlb (by simp; omega)
    obtain ⟨t, htp⟩ : ∃ t, tp r = t := ⟨_, rfl⟩
    have HTP := Lib.hid htp
    have H0 := Lib.hid h0
    clear htp h0 hll hlb
    have hkey : badB r.data.toList t.data.toList = true ∧ ((128 ≤ r[0].toNat ∧ bigL r.data.toList ≠ r.data.toList ∧ bigL r.data.toList = 0 :: r.data.toList) ∨ (r[0] = 0 ∧ bigL r.data.toList ≠ r.data.toList ∧ bigL r.data.toList ≠ 0 :: r.data.toList)) ∨
        badB r.data.toList t.data.toList = false ∧ r[0].toNat < 128 ∧ bigL r.data.toList = r.data.toList := by
      exact badB_ways r t hrp HTP.out
    have hconv : ∀ (W : World) (b : Nat), Rg.Blk W b 5 #[.int .u8 0] → (convert 27 9 (.slice (some ⟨b, 0, none⟩) 1 1)).run Tryd.prog W = .ok (.string ⟨#[0]⟩) W := fun W b h =>
      Cv.run_string_bytes W 27 5 9 Tryd.underlying27 Tryd.underlying5 Tryd.underlying9 b 0 1 [0] (Cv.Bytes.of_blk (l := [0]) (by unfold Cv.bytesV Lib.byteCells; exact h))
    have hcv2 : ∀ W : World, (convert 27 9 (.slice (some ⟨W.heap.size, 0, none⟩) 1 1)).run Tryd.prog (W.alloc (.cells #[.int .u8 0] 5)) = .ok (.string ⟨#[0]⟩) (W.alloc (.cells #[.int .u8 0] 5)) := fun W => hconv _ _ (Rg.Blk.new W _ _)
    rcases hkey with ⟨hbad, hw⟩ | ⟨hgood, h8, hbl⟩
    · have HK := Lib.hid (show bigK s c most = 3 by unfold bigK; rw [HQ.out, HR.out, if_neg H0.out, HTP.out, hbad]; rfl)
      clear hbad
      rcases hw with ⟨h8, hb1, hb2⟩ | ⟨hx, hb1, hb2⟩
      · rw [show decide (bigL r.data.toList ≠ r.data.toList) = true by simp [hb1]] at hc1
        rw [show decide (bigL r.data.toList ≠ 0 :: r.data.toList) = false by simp [hb2]] at hc2
        have hd : decide ((127 : Int) < (r[0].toNat : Int)) = true := by simp; omega
        have hc3 : ((bigF r).toList == (txtF r).toList) = false := by simpa using hc1
        have hc4 : ((bigF r).toList == (txtF ((⟨#[0]⟩ : ByteArray) ++ r)).toList) = true := by simpa using hc2
        clear hb1 hb2 h8
        go_enter Tryd.func54, Tryd.ntmps54
        go_wp2_with (go_at_call 55; refine (HTXT.out _).mono ?_; rintro e w1 ⟨rfl, hb1⟩; unfold inV; have hB : Rg.Blk w1 (w.heap.size + 1) 62 #[.string ⟨#[]⟩, .int .i64 0] := (Rg.Blk.newAt (w := w.alloc (.cells #[.string s, .int .i64 c] 62)) (by simp) _ _).below hb1 (by simp); have q0 := hB.cell 0 (v := .string ⟨#[]⟩) rfl; have q1 := hB.cell 1 (v := .int .i64 0) rfl; have f0 := hB.frozen 0; have f1 := hB.frozen 1; have hz : w.heap.size + 1 < w1.heap.size := (by have := hb1.size; simp at this; omega); have HB1 := Lib.hid hb1; have HQB := Lib.hid hB; clear hb1 hB)
        have h1 : Below w.heap.size w w1 := Below.trans (show Below w.heap.size w ((w.alloc (.cells #[.string s, .int .i64 c] 62)).alloc (.cells #[.string ⟨#[]⟩, .int .i64 0] 62)) by repeat (first | exact Below.refl _ _ | apply Below.drew | (refine Below.setCell ?_ ?_ _; rotate_left; focus (first | (simp; done) | (simp; omega) | omega)) | (refine Below.alloc ?_ ?_ _; rotate_left; focus (first | (simp; done) | (simp; omega) | omega)))) (HB1.out.mono (by simp; omega))
        have hX1 : Below w.heap.size w (w1.alloc (.cells #[.string s1, .int .i64 0] 62)) := h1.alloc h1.size _
        have hXB : Rg.Blk (w1.alloc (.cells #[.string s1, .int .i64 0] 62)) w1.heap.size 62 #[.string s1, .int .i64 0] := Rg.Blk.new w1 _ _
        have hXB2 : Rg.Blk (w1.alloc (.cells #[.string s1, .int .i64 0] 62)) (w.heap.size + 1) 62 #[.string ⟨#[]⟩, .int .i64 0] := HQB.out.alloc _
        have hXZ : (w1.alloc (.cells #[.string s1, .int .i64 0] 62)).heap.size = w1.heap.size + 1 := by simp
        generalize w1.alloc (.cells #[.string s1, .int .i64 0] 62) = X at *
        have HX1 := Lib.hid hX1
        have HXB := Lib.hid hXB
        have HXB2 := Lib.hid hXB2
        have HXZ := Lib.hid hXZ
        have HZ := Lib.hid hz
        clear hX1 hXB hXB2 q0 q1 f0 f1 h1 hXZ
        refine RL.start (RL.Aft X) (by kernel_rfl) (RL.Aft.drew (RL.Aft.refl X)) ?_
        refine' RL.takeV (i := 0) (v := _) rfl (by kernel_rfl) (by kernel_rfl) (by kernel_rfl) (fun _ _ _ h => h) (by rfl) ?hhs1x0 ?rrs1x0
        case hhs1x0 => (intro w hSw; go_simp; try with_reducible rfl)
        (try simp only [Act.put, List.setIfInBounds_toArray, List.set_cons_zero, List.set_cons_succ])
        refine' RL.takeC (i := 1) (v := .string (bigF r)) 21 #[.string r] rfl (by kernel_rfl) (by kernel_rfl) (by kernel_rfl) (fun _ _ _ h => h) (by rfl) ?hhs1x1 ?ccs1x1 ?rrs1x1
        case hhs1x1 => (intro w; go_simp; try with_reducible rfl)
        case ccs1x1 => exact fun w hw => (HBG.out w).mono fun e w' h => ⟨h.1, h.2, RL.Aft.lat hw h.2⟩
        (try simp only [Act.put, List.setIfInBounds_toArray, List.set_cons_zero, List.set_cons_succ])
        refine' RL.takeV (i := 2) (v := _) rfl (by kernel_rfl) (by kernel_rfl) (by kernel_rfl) (fun _ _ _ h => h) (by rfl) ?hhs1x2 ?rrs1x2
        case hhs1x2 => (intro w hSw; go_simp; try with_reducible rfl)
        (try simp only [Act.put, List.setIfInBounds_toArray, List.set_cons_zero, List.set_cons_succ])
        refine' RL.takeC (i := 3) (v := .string (txtF r)) 23 #[.string r] rfl (by kernel_rfl) (by kernel_rfl) (by kernel_rfl) (fun _ _ _ h => h) (by rfl) ?hhs1x3 ?ccs1x3 ?rrs1x3
        case hhs1x3 => (intro w; go_simp; try with_reducible rfl)
        case ccs1x3 => exact fun w hw => (HTX.out r w HS0.out).mono fun e w' h => ⟨h.1, h.2, RL.Aft.lat hw h.2⟩
        (try simp only [Act.put, List.setIfInBounds_toArray, List.set_cons_zero, List.set_cons_succ])
        refine' RL.takeV (i := 4) (v := _) rfl (by kernel_rfl) (by kernel_rfl) (by kernel_rfl) (fun _ _ _ h => h) (by rfl) ?hhs1x4 ?rrs1x4
        case hhs1x4 => (intro w hSw; go_simp; try with_reducible rfl)
        (try simp only [Act.put, List.setIfInBounds_toArray, List.set_cons_zero, List.set_cons_succ])
        refine' RL.takeV (i := 5) (v := _) rfl (by kernel_rfl) (by kernel_rfl) (by kernel_rfl) (fun _ _ _ h => h) (by rfl) ?hhs1x5 ?rrs1x5
        case hhs1x5 => (intro w hSw; go_simp; try with_reducible rfl)
        (try simp only [Act.put, List.setIfInBounds_toArray, List.set_cons_zero, List.set_cons_succ])
        refine' RL.takeV (i := 6) (v := _) rfl (by kernel_rfl) (by kernel_rfl) (by kernel_rfl) (fun _ _ _ h => h) (by rfl) ?hhs1x6 ?rrs1x6
        case hhs1x6 => (intro w hSw; go_simp; try with_reducible rfl)
        (try simp only [Act.put, List.setIfInBounds_toArray, List.set_cons_zero, List.set_cons_succ])
        refine' RL.takeC (i := 7) (v := .string (bigF r)) 21 #[.string r] rfl (by kernel_rfl) (by kernel_rfl) (by kernel_rfl) (fun _ _ _ h => h) (by rfl) ?hhs1x7 ?ccs1x7 ?rrs1x7
        case hhs1x7 => (intro w; go_simp; try with_reducible rfl)
        case ccs1x7 => exact fun w hw => (HBG.out w).mono fun e w' h => ⟨h.1, h.2, RL.Aft.lat hw h.2⟩
        (try simp only [Act.put, List.setIfInBounds_toArray, List.set_cons_zero, List.set_cons_succ])
        refine' RL.takeV (i := 10) (v := _) rfl (by kernel_rfl) (by kernel_rfl) (by kernel_rfl) (fun _ _ _ h => h) (by rfl) ?hhs1x10 ?rrs1x10
        case hhs1x10 => (intro w hSw; go_simp; try with_reducible rfl)
        (try simp only [Act.put, List.setIfInBounds_toArray, List.set_cons_zero, List.set_cons_succ])
        refine RL.stepK (i := 8) rfl (by kernel_rfl) (by rfl) (fun wa hlwa hswa K hK => ?_)
        go_simp
        refine hK.out _ _ (RL.Aft.alloc hswa _) ?_
        clear hK
        (try simp only [Act.put, List.setIfInBounds_toArray, List.set_cons_zero, List.set_cons_succ])
        refine RL.stepK (i := 9) rfl (by kernel_rfl) (by rfl) (fun wb hlwb hswb K hK => ?_)
        have hcw := hconv wb wa.heap.size (Rg.Blk.below (Rg.Blk.new wa _ _) hlwb (by simp))
        go_simp
        refine hK.out _ _ (hswb) ?_
        clear hK
        (try simp only [Act.put, List.setIfInBounds_toArray, List.set_cons_zero, List.set_cons_succ])
        refine' RL.takeV (i := 11) (v := _) rfl (by kernel_rfl) (by kernel_rfl) (by kernel_rfl) (fun _ _ _ h => h) (by rfl) ?hhs1x11 ?rrs1x11
        case hhs1x11 => (intro w hSw; go_simp; try with_reducible rfl)
        (try simp only [Act.put, List.setIfInBounds_toArray, List.set_cons_zero, List.set_cons_succ])
        refine' RL.takeC (i := 12) (v := .string (txtF ((⟨#[0]⟩ : ByteArray) ++ r))) 23 #[.string ((⟨#[0]⟩ : ByteArray) ++ r)] rfl (by kernel_rfl) (by kernel_rfl) (by kernel_rfl) (fun _ _ _ h => h) (by rfl) ?hhs1x12 ?ccs1x12 ?rrs1x12
        case hhs1x12 => (intro w; go_simp; try with_reducible rfl)
        case ccs1x12 => exact fun w hw => (HTX.out _ w HS2.out).mono fun e w' h => ⟨h.1, h.2, RL.Aft.lat hw h.2⟩
        (try simp only [Act.put, List.setIfInBounds_toArray, List.set_cons_zero, List.set_cons_succ])
        refine' RL.takeV (i := 13) (v := _) rfl (by kernel_rfl) (by kernel_rfl) (by kernel_rfl) (fun _ _ _ h => h) (by rfl) ?hhs1x13 ?rrs1x13
        case hhs1x13 => (intro w hSw; go_simp; try with_reducible rfl)
        (try simp only [Act.put, List.setIfInBounds_toArray, List.set_cons_zero, List.set_cons_succ])
        refine' RL.takeV (i := 14) (v := _) rfl (by kernel_rfl) (by kernel_rfl) (by kernel_rfl) (fun _ _ _ h => h) (by rfl) ?hhs1x14 ?rrs1x14
        case hhs1x14 => (intro w hSw; go_simp; try with_reducible rfl)
        (try simp only [Act.put, List.setIfInBounds_toArray, List.set_cons_zero, List.set_cons_succ])
        refine' RL.takeV (i := 15) (v := _) rfl (by kernel_rfl) (by kernel_rfl) (by kernel_rfl) (fun _ _ _ h => h) (by rfl) ?hhs1x15 ?rrs1x15
        case hhs1x15 => (intro w hSw; go_simp; try with_reducible rfl)
        (try simp only [Act.put, List.setIfInBounds_toArray, List.set_cons_zero, List.set_cons_succ])
        refine' RL.takeV (i := 16) (v := _) rfl (by kernel_rfl) (by kernel_rfl) (by kernel_rfl) (fun _ _ _ h => h) (by rfl) ?hhs1x16 ?rrs1x16
        case hhs1x16 => (intro w hSw; go_simp; try with_reducible rfl)
        (try simp only [Act.put, List.setIfInBounds_toArray, List.set_cons_zero, List.set_cons_succ])
        refine' RL.takeV (i := 17) (v := _) rfl (by kernel_rfl) (by kernel_rfl) (by kernel_rfl) (fun _ _ _ h => h) (by rfl) ?hhs1x17 ?rrs1x17
        case hhs1x17 => (intro w hSw; go_simp; try with_reducible rfl)
        (try simp only [Act.put, List.setIfInBounds_toArray, List.set_cons_zero, List.set_cons_succ])
        refine' RL.takeV (i := 18) (v := _) rfl (by kernel_rfl) (by kernel_rfl) (by kernel_rfl) (fun _ _ _ h => h) (by rfl) ?hhs1x18 ?rrs1x18
        case hhs1x18 => (intro w hSw; go_simp; try with_reducible rfl)
        (try simp only [Act.put, List.setIfInBounds_toArray, List.set_cons_zero, List.set_cons_succ])
        refine' RL.takeV (i := 19) (v := _) rfl (by kernel_rfl) (by kernel_rfl) (by kernel_rfl) (fun _ _ _ h => h) (by rfl) ?hhs1x19 ?rrs1x19
        case hhs1x19 => (intro w hSw; go_simp; try with_reducible rfl)
        (try simp only [Act.put, List.setIfInBounds_toArray, List.set_cons_zero, List.set_cons_succ])
        refine' RL.takeV (i := 20) (v := _) rfl (by kernel_rfl) (by kernel_rfl) (by kernel_rfl) (fun _ _ _ h => h) (by rfl) ?hhs1x20 ?rrs1x20
        case hhs1x20 => (intro w hSw; go_simp; try with_reducible rfl)
        (try simp only [Act.put, List.setIfInBounds_toArray, List.set_cons_zero, List.set_cons_succ])
        refine' RL.takeU (i := 21) rfl (by kernel_rfl) (by kernel_rfl) (by kernel_rfl) (fun _ _ _ h => h) (by rfl) ?_
        (try simp only [Act.put, List.setIfInBounds_toArray, List.set_cons_zero, List.set_cons_succ])
        refine' RL.takeU (i := 22) rfl (by kernel_rfl) (by kernel_rfl) (by kernel_rfl) (fun _ _ _ h => h) (by rfl) ?_
        (try simp only [Act.put, List.setIfInBounds_toArray, List.set_cons_zero, List.set_cons_succ])
        refine' RL.takeU (i := 23) rfl (by kernel_rfl) (by kernel_rfl) (by kernel_rfl) (fun _ _ _ h => h) (by rfl) ?_
        (try simp only [Act.put, List.setIfInBounds_toArray, List.set_cons_zero, List.set_cons_succ])
        refine' RL.takeU (i := 24) rfl (by kernel_rfl) (by kernel_rfl) (by kernel_rfl) (fun _ _ _ h => h) (by rfl) ?_
        (try simp only [Act.put, List.setIfInBounds_toArray, List.set_cons_zero, List.set_cons_succ])
        refine' RL.takeU (i := 25) rfl (by kernel_rfl) (by kernel_rfl) (by kernel_rfl) (fun _ _ _ h => h) (by rfl) ?_
        (try simp only [Act.put, List.setIfInBounds_toArray, List.set_cons_zero, List.set_cons_succ])
        refine' RL.takeU (i := 26) rfl (by kernel_rfl) (by kernel_rfl) (by kernel_rfl) (fun _ _ _ h => h) (by rfl) ?_
        (try simp only [Act.put, List.setIfInBounds_toArray, List.set_cons_zero, List.set_cons_succ])
        refine' RL.takeU (i := 27) rfl (by kernel_rfl) (by kernel_rfl) (by kernel_rfl) (fun _ _ _ h => h) (by rfl) ?_
        (try simp only [Act.put, List.setIfInBounds_toArray, List.set_cons_zero, List.set_cons_succ])
        refine' RL.takeU (i := 28) rfl (by kernel_rfl) (by kernel_rfl) (by kernel_rfl) (fun _ _ _ h => h) (by rfl) ?_
        (try simp only [Act.put, List.setIfInBounds_toArray, List.set_cons_zero, List.set_cons_succ])
        refine' RL.takeU (i := 29) rfl (by kernel_rfl) (by kernel_rfl) (by kernel_rfl) (fun _ _ _ h => h) (by rfl) ?_
        (try simp only [Act.put, List.setIfInBounds_toArray, List.set_cons_zero, List.set_cons_succ])
        refine' RL.takeU (i := 30) rfl (by kernel_rfl) (by kernel_rfl) (by kernel_rfl) (fun _ _ _ h => h) (by rfl) ?_
        (try simp only [Act.put, List.setIfInBounds_toArray, List.set_cons_zero, List.set_cons_succ])
        refine' RL.takeV (i := 31) (v := _) rfl (by kernel_rfl) (by kernel_rfl) (by kernel_rfl) (fun _ _ _ h => h) (by rfl) ?hhs1x31 ?rrs1x31
        case hhs1x31 => (intro w hSw; go_simp; try with_reducible rfl)
        (try simp only [Act.put, List.setIfInBounds_toArray, List.set_cons_zero, List.set_cons_succ])
        refine RL.done (by kernel_rfl) (fun wd hlwd hswd => ?_)
        have hB1 := HXB.out.below hswd (by have := HXZ.out; omega)
        have hB2 := HXB2.out.below hswd (by have := HXZ.out; have := HZ.out; omega)
        have p0 := hB2.cell 0 (v := .string ⟨#[]⟩) rfl
        have p1 := hB2.cell 1 (v := .int .i64 0) rfl
        have g0 := hB2.frozen 0
        have g1 := hB2.frozen 1
        have r0 := hB1.cell 0 (v := .string s1) rfl
        have r1 := hB1.cell 1 (v := .int .i64 0) rfl
        have hz2 : w.heap.size + 1 < wd.heap.size := by have := HXZ.out; have := HZ.out; have h5 := Below.size hswd; omega
        have HWD := Lib.hid (show Below w.heap.size w wd from HX1.out.trans (Below.mono hswd HX1.out.size))
        clear hB1 hB2
        go_wp2_with fail
        refine bodyPost_ret (v := .tuple #[.agg #[.string ⟨#[]⟩, .int .i64 3], .string ⟨#[]⟩]) (by simp [results, Tryd.results54, go_sem, p0, p1, hz2]) rfl ?_
        unfold bigS bigC bigR
        rw [HK.out]
        refine ⟨rfl, ?_⟩
        refine Below.trans HWD.out ?_
        repeat (first | exact Below.refl _ _ | apply Below.drew | (refine Below.setCell ?_ ?_ _; rotate_left; focus (first | (simp; done) | (simp; omega) | omega)) | (refine Below.alloc ?_ ?_ _; rotate_left; focus (first | (simp; done) | (simp; omega) | omega)))
      · rw [show decide (bigL r.data.toList ≠ r.data.toList) = true by simp [hb1]] at hc1
        rw [show decide (bigL r.data.toList ≠ 0 :: r.data.toList) = true by simp [hb2]] at hc2
        have hc3 : ((bigF r).toList == (txtF r).toList) = false := by simpa using hc1
        have hc4 : ((bigF r).toList == (txtF ((⟨#[0]⟩ : ByteArray) ++ r)).toList) = false := by simpa using hc2
        clear hb1 hb2 hx
        go_enter Tryd.func54, Tryd.ntmps54
        go_wp2_with (go_at_call 55; refine (HTXT.out _).mono ?_; rintro e w1 ⟨rfl, hb1⟩; unfold inV; have hB : Rg.Blk w1 (w.heap.size + 1) 62 #[.string ⟨#[]⟩, .int .i64 0] := (Rg.Blk.newAt (w := w.alloc (.cells #[.string s, .int .i64 c] 62)) (by simp) _ _).below hb1 (by simp); have q0 := hB.cell 0 (v := .string ⟨#[]⟩) rfl; have q1 := hB.cell 1 (v := .int .i64 0) rfl; have f0 := hB.frozen 0; have f1 := hB.frozen 1; have hz : w.heap.size + 1 < w1.heap.size := (by have := hb1.size; simp at this; omega); have HB1 := Lib.hid hb1; have HQB := Lib.hid hB; clear hb1 hB)
        have h1 : Below w.heap.size w w1 := Below.trans (show Below w.heap.size w ((w.alloc (.cells #[.string s, .int .i64 c] 62)).alloc (.cells #[.string ⟨#[]⟩, .int .i64 0] 62)) by repeat (first | exact Below.refl _ _ | apply Below.drew | (refine Below.setCell ?_ ?_ _; rotate_left; focus (first | (simp; done) | (simp; omega) | omega)) | (refine Below.alloc ?_ ?_ _; rotate_left; focus (first | (simp; done) | (simp; omega) | omega)))) (HB1.out.mono (by simp; omega))
        have hX1 : Below w.heap.size w (w1.alloc (.cells #[.string s1, .int .i64 0] 62)) := h1.alloc h1.size _
        have hXB : Rg.Blk (w1.alloc (.cells #[.string s1, .int .i64 0] 62)) w1.heap.size 62 #[.string s1, .int .i64 0] := Rg.Blk.new w1 _ _
        have hXB2 : Rg.Blk (w1.alloc (.cells #[.string s1, .int .i64 0] 62)) (w.heap.size + 1) 62 #[.string ⟨#[]⟩, .int .i64 0] := HQB.out.alloc _
        have hXZ : (w1.alloc (.cells #[.string s1, .int .i64 0] 62)).heap.size = w1.heap.size + 1 := by simp
        generalize w1.alloc (.cells #[.string s1, .int .i64 0] 62) = X at *
        have HX1 := Lib.hid hX1
        have HXB := Lib.hid hXB
        have HXB2 := Lib.hid hXB2
        have HXZ := Lib.hid hXZ
        have HZ := Lib.hid hz
        clear hX1 hXB hXB2 q0 q1 f0 f1 h1 hXZ
        refine RL.start (RL.Aft X) (by kernel_rfl) (RL.Aft.drew (RL.Aft.refl X)) ?_
        refine' RL.takeV (i := 0) (v := _) rfl (by kernel_rfl) (by kernel_rfl) (by kernel_rfl) (fun _ _ _ h => h) (by rfl) ?hhs2x0 ?rrs2x0
        case hhs2x0 => (intro w hSw; go_simp; try with_reducible rfl)
        (try simp only [Act.put, List.setIfInBounds_toArray, List.set_cons_zero, List.set_cons_succ])
        refine' RL.takeC (i := 1) (v := .string (bigF r)) 21 #[.string r] rfl (by kernel_rfl) (by kernel_rfl) (by kernel_rfl) (fun _ _ _ h => h) (by rfl) ?hhs2x1 ?ccs2x1 ?rrs2x1
        case hhs2x1 => (intro w; go_simp; try with_reducible rfl)
        case ccs2x1 => exact fun w hw => (HBG.out w).mono fun e w' h => ⟨h.1, h.2, RL.Aft.lat hw h.2⟩
        (try simp only [Act.put, List.setIfInBounds_toArray, List.set_cons_zero, List.set_cons_succ])
        refine' RL.takeV (i := 2) (v := _) rfl (by kernel_rfl) (by kernel_rfl) (by kernel_rfl) (fun _ _ _ h => h) (by rfl) ?hhs2x2 ?rrs2x2
        case hhs2x2 => (intro w hSw; go_simp; try with_reducible rfl)
        (try simp only [Act.put, List.setIfInBounds_toArray, List.set_cons_zero, List.set_cons_succ])
        refine' RL.takeC (i := 3) (v := .string (txtF r)) 23 #[.string r] rfl (by kernel_rfl) (by kernel_rfl) (by kernel_rfl) (fun _ _ _ h => h) (by rfl) ?hhs2x3 ?ccs2x3 ?rrs2x3
        case hhs2x3 => (intro w; go_simp; try with_reducible rfl)
        case ccs2x3 => exact fun w hw => (HTX.out r w HS0.out).mono fun e w' h => ⟨h.1, h.2, RL.Aft.lat hw h.2⟩
        (try simp only [Act.put, List.setIfInBounds_toArray, List.set_cons_zero, List.set_cons_succ])
        refine' RL.takeV (i := 4) (v := _) rfl (by kernel_rfl) (by kernel_rfl) (by kernel_rfl) (fun _ _ _ h => h) (by rfl) ?hhs2x4 ?rrs2x4
        case hhs2x4 => (intro w hSw; go_simp; try with_reducible rfl)
        (try simp only [Act.put, List.setIfInBounds_toArray, List.set_cons_zero, List.set_cons_succ])
        refine' RL.takeV (i := 5) (v := _) rfl (by kernel_rfl) (by kernel_rfl) (by kernel_rfl) (fun _ _ _ h => h) (by rfl) ?hhs2x5 ?rrs2x5
        case hhs2x5 => (intro w hSw; go_simp; try with_reducible rfl)
        (try simp only [Act.put, List.setIfInBounds_toArray, List.set_cons_zero, List.set_cons_succ])
        refine' RL.takeV (i := 6) (v := _) rfl (by kernel_rfl) (by kernel_rfl) (by kernel_rfl) (fun _ _ _ h => h) (by rfl) ?hhs2x6 ?rrs2x6
        case hhs2x6 => (intro w hSw; go_simp; try with_reducible rfl)
        (try simp only [Act.put, List.setIfInBounds_toArray, List.set_cons_zero, List.set_cons_succ])
        refine' RL.takeC (i := 7) (v := .string (bigF r)) 21 #[.string r] rfl (by kernel_rfl) (by kernel_rfl) (by kernel_rfl) (fun _ _ _ h => h) (by rfl) ?hhs2x7 ?ccs2x7 ?rrs2x7
        case hhs2x7 => (intro w; go_simp; try with_reducible rfl)
        case ccs2x7 => exact fun w hw => (HBG.out w).mono fun e w' h => ⟨h.1, h.2, RL.Aft.lat hw h.2⟩
        (try simp only [Act.put, List.setIfInBounds_toArray, List.set_cons_zero, List.set_cons_succ])
        refine' RL.takeV (i := 10) (v := _) rfl (by kernel_rfl) (by kernel_rfl) (by kernel_rfl) (fun _ _ _ h => h) (by rfl) ?hhs2x10 ?rrs2x10
        case hhs2x10 => (intro w hSw; go_simp; try with_reducible rfl)
        (try simp only [Act.put, List.setIfInBounds_toArray, List.set_cons_zero, List.set_cons_succ])
        refine RL.stepK (i := 8) rfl (by kernel_rfl) (by rfl) (fun wa hlwa hswa K hK => ?_)
        go_simp
        refine hK.out _ _ (RL.Aft.alloc hswa _) ?_
        clear hK
        (try simp only [Act.put, List.setIfInBounds_toArray, List.set_cons_zero, List.set_cons_succ])
        refine RL.stepK (i := 9) rfl (by kernel_rfl) (by rfl) (fun wb hlwb hswb K hK => ?_)
        have hcw := hconv wb wa.heap.size (Rg.Blk.below (Rg.Blk.new wa _ _) hlwb (by simp))
        go_simp
        refine hK.out _ _ (hswb) ?_
        clear hK
        (try simp only [Act.put, List.setIfInBounds_toArray, List.set_cons_zero, List.set_cons_succ])
        refine' RL.takeV (i := 11) (v := _) rfl (by kernel_rfl) (by kernel_rfl) (by kernel_rfl) (fun _ _ _ h => h) (by rfl) ?hhs2x11 ?rrs2x11
        case hhs2x11 => (intro w hSw; go_simp; try with_reducible rfl)
        (try simp only [Act.put, List.setIfInBounds_toArray, List.set_cons_zero, List.set_cons_succ])
        refine' RL.takeC (i := 12) (v := .string (txtF ((⟨#[0]⟩ : ByteArray) ++ r))) 23 #[.string ((⟨#[0]⟩ : ByteArray) ++ r)] rfl (by kernel_rfl) (by kernel_rfl) (by kernel_rfl) (fun _ _ _ h => h) (by rfl) ?hhs2x12 ?ccs2x12 ?rrs2x12
        case hhs2x12 => (intro w; go_simp; try with_reducible rfl)
        case ccs2x12 => exact fun w hw => (HTX.out _ w HS2.out).mono fun e w' h => ⟨h.1, h.2, RL.Aft.lat hw h.2⟩
        (try simp only [Act.put, List.setIfInBounds_toArray, List.set_cons_zero, List.set_cons_succ])
        refine' RL.takeV (i := 13) (v := _) rfl (by kernel_rfl) (by kernel_rfl) (by kernel_rfl) (fun _ _ _ h => h) (by rfl) ?hhs2x13 ?rrs2x13
        case hhs2x13 => (intro w hSw; go_simp; try with_reducible rfl)
        (try simp only [Act.put, List.setIfInBounds_toArray, List.set_cons_zero, List.set_cons_succ])
        refine' RL.takeV (i := 14) (v := _) rfl (by kernel_rfl) (by kernel_rfl) (by kernel_rfl) (fun _ _ _ h => h) (by rfl) ?hhs2x14 ?rrs2x14
        case hhs2x14 => (intro w hSw; go_simp; try with_reducible rfl)
        (try simp only [Act.put, List.setIfInBounds_toArray, List.set_cons_zero, List.set_cons_succ])
        refine' RL.takeV (i := 15) (v := _) rfl (by kernel_rfl) (by kernel_rfl) (by kernel_rfl) (fun _ _ _ h => h) (by rfl) ?hhs2x15 ?rrs2x15
        case hhs2x15 => (intro w hSw; go_simp; try with_reducible rfl)
        (try simp only [Act.put, List.setIfInBounds_toArray, List.set_cons_zero, List.set_cons_succ])
        refine' RL.takeU (i := 16) rfl (by kernel_rfl) (by kernel_rfl) (by kernel_rfl) (fun _ _ _ h => h) (by rfl) ?_
        (try simp only [Act.put, List.setIfInBounds_toArray, List.set_cons_zero, List.set_cons_succ])
        refine' RL.takeU (i := 17) rfl (by kernel_rfl) (by kernel_rfl) (by kernel_rfl) (fun _ _ _ h => h) (by rfl) ?_
        (try simp only [Act.put, List.setIfInBounds_toArray, List.set_cons_zero, List.set_cons_succ])
        refine' RL.takeU (i := 18) rfl (by kernel_rfl) (by kernel_rfl) (by kernel_rfl) (fun _ _ _ h => h) (by rfl) ?_
        (try simp only [Act.put, List.setIfInBounds_toArray, List.set_cons_zero, List.set_cons_succ])
        refine' RL.takeV (i := 19) (v := _) rfl (by kernel_rfl) (by kernel_rfl) (by kernel_rfl) (fun _ _ _ h => h) (by rfl) ?hhs2x19 ?rrs2x19
        case hhs2x19 => (intro w hSw; go_simp; try with_reducible rfl)
        (try simp only [Act.put, List.setIfInBounds_toArray, List.set_cons_zero, List.set_cons_succ])
        refine' RL.takeV (i := 20) (v := _) rfl (by kernel_rfl) (by kernel_rfl) (by kernel_rfl) (fun _ _ _ h => h) (by rfl) ?hhs2x20 ?rrs2x20
        case hhs2x20 => (intro w hSw; go_simp; try with_reducible rfl)
        (try simp only [Act.put, List.setIfInBounds_toArray, List.set_cons_zero, List.set_cons_succ])
        refine' RL.takeU (i := 21) rfl (by kernel_rfl) (by kernel_rfl) (by kernel_rfl) (fun _ _ _ h => h) (by rfl) ?_
        (try simp only [Act.put, List.setIfInBounds_toArray, List.set_cons_zero, List.set_cons_succ])
        refine' RL.takeU (i := 22) rfl (by kernel_rfl) (by kernel_rfl) (by kernel_rfl) (fun _ _ _ h => h) (by rfl) ?_
        (try simp only [Act.put, List.setIfInBounds_toArray, List.set_cons_zero, List.set_cons_succ])
        refine' RL.takeU (i := 23) rfl (by kernel_rfl) (by kernel_rfl) (by kernel_rfl) (fun _ _ _ h => h) (by rfl) ?_
        (try simp only [Act.put, List.setIfInBounds_toArray, List.set_cons_zero, List.set_cons_succ])
        refine' RL.takeU (i := 24) rfl (by kernel_rfl) (by kernel_rfl) (by kernel_rfl) (fun _ _ _ h => h) (by rfl) ?_
        (try simp only [Act.put, List.setIfInBounds_toArray, List.set_cons_zero, List.set_cons_succ])
        refine' RL.takeU (i := 25) rfl (by kernel_rfl) (by kernel_rfl) (by kernel_rfl) (fun _ _ _ h => h) (by rfl) ?_
        (try simp only [Act.put, List.setIfInBounds_toArray, List.set_cons_zero, List.set_cons_succ])
        refine' RL.takeU (i := 26) rfl (by kernel_rfl) (by kernel_rfl) (by kernel_rfl) (fun _ _ _ h => h) (by rfl) ?_
        (try simp only [Act.put, List.setIfInBounds_toArray, List.set_cons_zero, List.set_cons_succ])
        refine' RL.takeU (i := 27) rfl (by kernel_rfl) (by kernel_rfl) (by kernel_rfl) (fun _ _ _ h => h) (by rfl) ?_
        (try simp only [Act.put, List.setIfInBounds_toArray, List.set_cons_zero, List.set_cons_succ])
        refine' RL.takeU (i := 28) rfl (by kernel_rfl) (by kernel_rfl) (by kernel_rfl) (fun _ _ _ h => h) (by rfl) ?_
        (try simp only [Act.put, List.setIfInBounds_toArray, List.set_cons_zero, List.set_cons_succ])
        refine' RL.takeU (i := 29) rfl (by kernel_rfl) (by kernel_rfl) (by kernel_rfl) (fun _ _ _ h => h) (by rfl) ?_
        (try simp only [Act.put, List.setIfInBounds_toArray, List.set_cons_zero, List.set_cons_succ])
        refine' RL.takeU (i := 30) rfl (by kernel_rfl) (by kernel_rfl) (by kernel_rfl) (fun _ _ _ h => h) (by rfl) ?_
        (try simp only [Act.put, List.setIfInBounds_toArray, List.set_cons_zero, List.set_cons_succ])
        refine' RL.takeV (i := 31) (v := _) rfl (by kernel_rfl) (by kernel_rfl) (by kernel_rfl) (fun _ _ _ h => h) (by rfl) ?hhs2x31 ?rrs2x31
        case hhs2x31 => (intro w hSw; go_simp; try with_reducible rfl)
        (try simp only [Act.put, List.setIfInBounds_toArray, List.set_cons_zero, List.set_cons_succ])
        refine RL.done (by kernel_rfl) (fun wd hlwd hswd => ?_)
        have hB1 := HXB.out.below hswd (by have := HXZ.out; omega)
        have hB2 := HXB2.out.below hswd (by have := HXZ.out; have := HZ.out; omega)
        have p0 := hB2.cell 0 (v := .string ⟨#[]⟩) rfl
        have p1 := hB2.cell 1 (v := .int .i64 0) rfl
        have g0 := hB2.frozen 0
        have g1 := hB2.frozen 1
        have r0 := hB1.cell 0 (v := .string s1) rfl
        have r1 := hB1.cell 1 (v := .int .i64 0) rfl
        have hz2 : w.heap.size + 1 < wd.heap.size := by have := HXZ.out; have := HZ.out; have h5 := Below.size hswd; omega
        have HWD := Lib.hid (show Below w.heap.size w wd from HX1.out.trans (Below.mono hswd HX1.out.size))
        clear hB1 hB2
        go_wp2_with fail
        refine bodyPost_ret (v := .tuple #[.agg #[.string ⟨#[]⟩, .int .i64 3], .string ⟨#[]⟩]) (by simp [results, Tryd.results54, go_sem, p0, p1, hz2]) rfl ?_
        unfold bigS bigC bigR
        rw [HK.out]
        refine ⟨rfl, ?_⟩
        refine Below.trans HWD.out ?_
        repeat (first | exact Below.refl _ _ | apply Below.drew | (refine Below.setCell ?_ ?_ _; rotate_left; focus (first | (simp; done) | (simp; omega) | omega)) | (refine Below.alloc ?_ ?_ _; rotate_left; focus (first | (simp; done) | (simp; omega) | omega)))
    · rw [show decide (bigL r.data.toList ≠ r.data.toList) = false by simp [hbl]] at hc1
      have hd : decide ((127 : Int) < (r[0].toNat : Int)) = false := by rw [decide_eq_false_iff_not]; omega
      have hc3 : ((bigF r).toList == (txtF r).toList) = true := by simpa using hc1
      have htpos : 0 < t.size := by
        have h1 : t.data.toList ≠ [] := fun e => by
          unfold badB at hgood
          rw [e] at hgood
          simp at hgood
        have := List.length_pos_iff.2 h1
        rw [len_list] at this; exact this
      have hkk : bigK s c most = if q < (t.size : Int) then 4 else 1 := by
        unfold bigK
        rw [HQ.out, HR.out, if_neg H0.out, HTP.out, hgood]
        simp only [Bool.false_eq_true, if_false, HBM.out t.size htpos]
      clear hc2 hbl hgood h8
      by_cases hx : r[0] = 0
      · have hte : r.extract 1 r.size = t := by
          apply ext_list
          rw [← HTP.out, tp_zero hrp hx]
          simp only [ByteArray.data_extract, Array.toList_extract, List.extract_eq_take_drop]
          rw [List.take_of_length_le (by rw [List.length_drop, len_list]; omega)]
        have hd2 : ((r[0].toNat : Int) == 0) = true := by rw [hx]; rfl
        have hI : (1 : Int) ≤ r.size := by omega
        clear hx
        by_cases hqt : q < (t.size : Int)
        · have HK := Lib.hid (show bigK s c most = 4 by rw [hkk, if_pos hqt])
          clear hkk
          go_enter Tryd.func54, Tryd.ntmps54
          go_wp2_with (go_at_call 55; refine (HTXT.out _).mono ?_; rintro e w1 ⟨rfl, hb1⟩; unfold inV; have hB : Rg.Blk w1 (w.heap.size + 1) 62 #[.string ⟨#[]⟩, .int .i64 0] := (Rg.Blk.newAt (w := w.alloc (.cells #[.string s, .int .i64 c] 62)) (by simp) _ _).below hb1 (by simp); have q0 := hB.cell 0 (v := .string ⟨#[]⟩) rfl; have q1 := hB.cell 1 (v := .int .i64 0) rfl; have f0 := hB.frozen 0; have f1 := hB.frozen 1; have hz : w.heap.size + 1 < w1.heap.size := (by have := hb1.size; simp at this; omega); have HB1 := Lib.hid hb1; have HQB := Lib.hid hB; clear hb1 hB)
          have h1 : Below w.heap.size w w1 := Below.trans (show Below w.heap.size w ((w.alloc (.cells #[.string s, .int .i64 c] 62)).alloc (.cells #[.string ⟨#[]⟩, .int .i64 0] 62)) by repeat (first | exact Below.refl _ _ | apply Below.drew | (refine Below.setCell ?_ ?_ _; rotate_left; focus (first | (simp; done) | (simp; omega) | omega)) | (refine Below.alloc ?_ ?_ _; rotate_left; focus (first | (simp; done) | (simp; omega) | omega)))) (HB1.out.mono (by simp; omega))
          have hX1 : Below w.heap.size w (w1.alloc (.cells #[.string s1, .int .i64 0] 62)) := h1.alloc h1.size _
          have hXB : Rg.Blk (w1.alloc (.cells #[.string s1, .int .i64 0] 62)) w1.heap.size 62 #[.string s1, .int .i64 0] := Rg.Blk.new w1 _ _
          have hXB2 : Rg.Blk (w1.alloc (.cells #[.string s1, .int .i64 0] 62)) (w.heap.size + 1) 62 #[.string ⟨#[]⟩, .int .i64 0] := HQB.out.alloc _
          have hXZ : (w1.alloc (.cells #[.string s1, .int .i64 0] 62)).heap.size = w1.heap.size + 1 := by simp
          generalize w1.alloc (.cells #[.string s1, .int .i64 0] 62) = X at *
          have HX1 := Lib.hid hX1
          have HXB := Lib.hid hXB
          have HXB2 := Lib.hid hXB2
          have HXZ := Lib.hid hXZ
          have HZ := Lib.hid hz
          clear hX1 hXB hXB2 q0 q1 f0 f1 h1 hXZ
          refine RL.start (RL.Aft X) (by kernel_rfl) (RL.Aft.drew (RL.Aft.refl X)) ?_
          refine' RL.takeV (i := 0) (v := _) rfl (by kernel_rfl) (by kernel_rfl) (by kernel_rfl) (fun _ _ _ h => h) (by rfl) ?hhs5x0 ?rrs5x0
          case hhs5x0 => (intro w hSw; go_simp; try with_reducible rfl)
          (try simp only [Act.put, List.setIfInBounds_toArray, List.set_cons_zero, List.set_cons_succ])
          refine' RL.takeC (i := 1) (v := .string (bigF r)) 21 #[.string r] rfl (by kernel_rfl) (by kernel_rfl) (by kernel_rfl) (fun _ _ _ h => h) (by rfl) ?hhs5x1 ?ccs5x1 ?rrs5x1
          case hhs5x1 => (intro w; go_simp; try with_reducible rfl)
          case ccs5x1 => exact fun w hw => (HBG.out w).mono fun e w' h => ⟨h.1, h.2, RL.Aft.lat hw h.2⟩
          (try simp only [Act.put, List.setIfInBounds_toArray, List.set_cons_zero, List.set_cons_succ])
          refine' RL.takeV (i := 2) (v := _) rfl (by kernel_rfl) (by kernel_rfl) (by kernel_rfl) (fun _ _ _ h => h) (by rfl) ?hhs5x2 ?rrs5x2
          case hhs5x2 => (intro w hSw; go_simp; try with_reducible rfl)
          (try simp only [Act.put, List.setIfInBounds_toArray, List.set_cons_zero, List.set_cons_succ])
          refine' RL.takeC (i := 3) (v := .string (txtF r)) 23 #[.string r] rfl (by kernel_rfl) (by kernel_rfl) (by kernel_rfl) (fun _ _ _ h => h) (by rfl) ?hhs5x3 ?ccs5x3 ?rrs5x3
          case hhs5x3 => (intro w; go_simp; try with_reducible rfl)
          case ccs5x3 => exact fun w hw => (HTX.out r w HS0.out).mono fun e w' h => ⟨h.1, h.2, RL.Aft.lat hw h.2⟩
          (try simp only [Act.put, List.setIfInBounds_toArray, List.set_cons_zero, List.set_cons_succ])
          refine' RL.takeV (i := 4) (v := _) rfl (by kernel_rfl) (by kernel_rfl) (by kernel_rfl) (fun _ _ _ h => h) (by rfl) ?hhs5x4 ?rrs5x4
          case hhs5x4 => (intro w hSw; go_simp; try with_reducible rfl)
          (try simp only [Act.put, List.setIfInBounds_toArray, List.set_cons_zero, List.set_cons_succ])
          refine' RL.takeV (i := 5) (v := _) rfl (by kernel_rfl) (by kernel_rfl) (by kernel_rfl) (fun _ _ _ h => h) (by rfl) ?hhs5x5 ?rrs5x5
          case hhs5x5 => (intro w hSw; go_simp; try with_reducible rfl)
          (try simp only [Act.put, List.setIfInBounds_toArray, List.set_cons_zero, List.set_cons_succ])
          refine' RL.takeU (i := 6) rfl (by kernel_rfl) (by kernel_rfl) (by kernel_rfl) (fun _ _ _ h => h) (by rfl) ?_
          (try simp only [Act.put, List.setIfInBounds_toArray, List.set_cons_zero, List.set_cons_succ])
          refine' RL.takeU (i := 7) rfl (by kernel_rfl) (by kernel_rfl) (by kernel_rfl) (fun _ _ _ h => h) (by rfl) ?_
          (try simp only [Act.put, List.setIfInBounds_toArray, List.set_cons_zero, List.set_cons_succ])
          refine' RL.takeU (i := 8) rfl (by kernel_rfl) (by kernel_rfl) (by kernel_rfl) (fun _ _ _ h => h) (by rfl) ?_
          (try simp only [Act.put, List.setIfInBounds_toArray, List.set_cons_zero, List.set_cons_succ])
          refine' RL.takeU (i := 9) rfl (by kernel_rfl) (by kernel_rfl) (by kernel_rfl) (fun _ _ _ h => h) (by rfl) ?_
          (try simp only [Act.put, List.setIfInBounds_toArray, List.set_cons_zero, List.set_cons_succ])
          refine' RL.takeU (i := 10) rfl (by kernel_rfl) (by kernel_rfl) (by kernel_rfl) (fun _ _ _ h => h) (by rfl) ?_
          (try simp only [Act.put, List.setIfInBounds_toArray, List.set_cons_zero, List.set_cons_succ])
          refine' RL.takeU (i := 11) rfl (by kernel_rfl) (by kernel_rfl) (by kernel_rfl) (fun _ _ _ h => h) (by rfl) ?_
          (try simp only [Act.put, List.setIfInBounds_toArray, List.set_cons_zero, List.set_cons_succ])
          refine' RL.takeU (i := 12) rfl (by kernel_rfl) (by kernel_rfl) (by kernel_rfl) (fun _ _ _ h => h) (by rfl) ?_
          (try simp only [Act.put, List.setIfInBounds_toArray, List.set_cons_zero, List.set_cons_succ])
          refine' RL.takeU (i := 13) rfl (by kernel_rfl) (by kernel_rfl) (by kernel_rfl) (fun _ _ _ h => h) (by rfl) ?_
          (try simp only [Act.put, List.setIfInBounds_toArray, List.set_cons_zero, List.set_cons_succ])
          refine' RL.takeV (i := 14) (v := _) rfl (by kernel_rfl) (by kernel_rfl) (by kernel_rfl) (fun _ _ _ h => h) (by rfl) ?hhs5x14 ?rrs5x14
          case hhs5x14 => (intro w hSw; go_simp; try with_reducible rfl)
          (try simp only [Act.put, List.setIfInBounds_toArray, List.set_cons_zero, List.set_cons_succ])
          refine' RL.takeV (i := 15) (v := _) rfl (by kernel_rfl) (by kernel_rfl) (by kernel_rfl) (fun _ _ _ h => h) (by rfl) ?hhs5x15 ?rrs5x15
          case hhs5x15 => (intro w hSw; go_simp; try with_reducible rfl)
          (try simp only [Act.put, List.setIfInBounds_toArray, List.set_cons_zero, List.set_cons_succ])
          refine' RL.takeV (i := 16) (v := _) rfl (by kernel_rfl) (by kernel_rfl) (by kernel_rfl) (fun _ _ _ h => h) (by rfl) ?hhs5x16 ?rrs5x16
          case hhs5x16 => (intro w hSw; go_simp; try with_reducible rfl)
          (try simp only [Act.put, List.setIfInBounds_toArray, List.set_cons_zero, List.set_cons_succ])
          refine' RL.takeV (i := 17) (v := _) rfl (by kernel_rfl) (by kernel_rfl) (by kernel_rfl) (fun _ _ _ h => h) (by rfl) ?hhs5x17 ?rrs5x17
          case hhs5x17 => (intro w hSw; go_simp; try with_reducible rfl)
          (try simp only [Act.put, List.setIfInBounds_toArray, List.set_cons_zero, List.set_cons_succ])
          refine' RL.takeV (i := 18) (v := _) rfl (by kernel_rfl) (by kernel_rfl) (by kernel_rfl) (fun _ _ _ h => h) (by rfl) ?hhs5x18 ?rrs5x18
          case hhs5x18 => (intro w hSw; go_simp; try with_reducible rfl)
          (try simp only [Act.put, List.setIfInBounds_toArray, List.set_cons_zero, List.set_cons_succ])
          refine' RL.takeV (i := 19) (v := _) rfl (by kernel_rfl) (by kernel_rfl) (by kernel_rfl) (fun _ _ _ h => h) (by rfl) ?hhs5x19 ?rrs5x19
          case hhs5x19 => (intro w hSw; go_simp; try with_reducible rfl)
          (try simp only [Act.put, List.setIfInBounds_toArray, List.set_cons_zero, List.set_cons_succ])
          refine' RL.takeV (i := 20) (v := _) rfl (by kernel_rfl) (by kernel_rfl) (by kernel_rfl) (fun _ _ _ h => h) (by rfl) ?hhs5x20 ?rrs5x20
          case hhs5x20 => (intro w hSw; go_simp; try with_reducible rfl)
          (try simp only [Act.put, List.setIfInBounds_toArray, List.set_cons_zero, List.set_cons_succ])
          refine' RL.takeV (i := 21) (v := _) rfl (by kernel_rfl) (by kernel_rfl) (by kernel_rfl) (fun _ _ _ h => h) (by rfl) ?hhs5x21 ?rrs5x21
          case hhs5x21 => (intro w hSw; go_simp; try with_reducible rfl)
          (try simp only [Act.put, List.setIfInBounds_toArray, List.set_cons_zero, List.set_cons_succ])
          refine' RL.takeV (i := 22) (v := _) rfl (by kernel_rfl) (by kernel_rfl) (by kernel_rfl) (fun _ _ _ h => h) (by rfl) ?hhs5x22 ?rrs5x22
          case hhs5x22 => (intro w hSw; go_simp; try with_reducible rfl)
          (try simp only [Act.put, List.setIfInBounds_toArray, List.set_cons_zero, List.set_cons_succ])
          refine' RL.takeV (i := 23) (v := _) rfl (by kernel_rfl) (by kernel_rfl) (by kernel_rfl) (fun _ _ _ h => h) (by rfl) ?hhs5x23 ?rrs5x23
          case hhs5x23 => (intro w hSw; go_simp; try with_reducible rfl)
          (try simp only [Act.put, List.setIfInBounds_toArray, List.set_cons_zero, List.set_cons_succ])
          refine' RL.takeV (i := 24) (v := _) rfl (by kernel_rfl) (by kernel_rfl) (by kernel_rfl) (fun _ _ _ h => h) (by rfl) ?hhs5x24 ?rrs5x24
          case hhs5x24 => (intro w hSw; go_simp; try with_reducible rfl)
          (try simp only [Act.put, List.setIfInBounds_toArray, List.set_cons_zero, List.set_cons_succ])
          refine' RL.takeV (i := 25) (v := _) rfl (by kernel_rfl) (by kernel_rfl) (by kernel_rfl) (fun _ _ _ h => h) (by rfl) ?hhs5x25 ?rrs5x25
          case hhs5x25 => (intro w hSw; go_simp; try with_reducible rfl)
          (try simp only [Act.put, List.setIfInBounds_toArray, List.set_cons_zero, List.set_cons_succ])
          refine' RL.takeC (i := 26) (v := .string (bigF r)) 21 #[.string r] rfl (by kernel_rfl) (by kernel_rfl) (by kernel_rfl) (fun _ _ _ h => h) (by rfl) ?hhs5x26 ?ccs5x26 ?rrs5x26
          case hhs5x26 => (intro w; go_simp; try with_reducible rfl)
          case ccs5x26 => exact fun w hw => (HBG.out w).mono fun e w' h => ⟨h.1, h.2, RL.Aft.lat hw h.2⟩
          (try simp only [Act.put, List.setIfInBounds_toArray, List.set_cons_zero, List.set_cons_succ])
          refine' RL.takeV (i := 27) (v := _) rfl (by kernel_rfl) (by kernel_rfl) (by kernel_rfl) (fun _ _ _ h => h) (by rfl) ?hhs5x27 ?rrs5x27
          case hhs5x27 => (intro w hSw; go_simp; try with_reducible rfl)
          (try simp only [Act.put, List.setIfInBounds_toArray, List.set_cons_zero, List.set_cons_succ])
          refine' RL.takeC (i := 28) (v := .string (txtF r)) 23 #[.string r] rfl (by kernel_rfl) (by kernel_rfl) (by kernel_rfl) (fun _ _ _ h => h) (by rfl) ?hhs5x28 ?ccs5x28 ?rrs5x28
          case hhs5x28 => (intro w; go_simp; try with_reducible rfl)
          case ccs5x28 => exact fun w hw => (HTX.out r w HS0.out).mono fun e w' h => ⟨h.1, h.2, RL.Aft.lat hw h.2⟩
          (try simp only [Act.put, List.setIfInBounds_toArray, List.set_cons_zero, List.set_cons_succ])
          refine' RL.takeV (i := 29) (v := _) rfl (by kernel_rfl) (by kernel_rfl) (by kernel_rfl) (fun _ _ _ h => h) (by rfl) ?hhs5x29 ?rrs5x29
          case hhs5x29 => (intro w hSw; go_simp; try with_reducible rfl)
          (try simp only [Act.put, List.setIfInBounds_toArray, List.set_cons_zero, List.set_cons_succ])
          refine' RL.takeV (i := 30) (v := _) rfl (by kernel_rfl) (by kernel_rfl) (by kernel_rfl) (fun _ _ _ h => h) (by rfl) ?hhs5x30 ?rrs5x30
          case hhs5x30 => (intro w hSw; go_simp; try with_reducible rfl)
          (try simp only [Act.put, List.setIfInBounds_toArray, List.set_cons_zero, List.set_cons_succ])
          refine' RL.takeV (i := 31) (v := _) rfl (by kernel_rfl) (by kernel_rfl) (by kernel_rfl) (fun _ _ _ h => h) (by rfl) ?hhs5x31 ?rrs5x31
          case hhs5x31 => (intro w hSw; go_simp; try with_reducible rfl)
          (try simp only [Act.put, List.setIfInBounds_toArray, List.set_cons_zero, List.set_cons_succ])
          refine RL.done (by kernel_rfl) (fun wd hlwd hswd => ?_)
          have hB1 := HXB.out.below hswd (by have := HXZ.out; omega)
          have hB2 := HXB2.out.below hswd (by have := HXZ.out; have := HZ.out; omega)
          have p0 := hB2.cell 0 (v := .string ⟨#[]⟩) rfl
          have p1 := hB2.cell 1 (v := .int .i64 0) rfl
          have g0 := hB2.frozen 0
          have g1 := hB2.frozen 1
          have r0 := hB1.cell 0 (v := .string s1) rfl
          have r1 := hB1.cell 1 (v := .int .i64 0) rfl
          have hz2 : w.heap.size + 1 < wd.heap.size := by have := HXZ.out; have := HZ.out; have h5 := Below.size hswd; omega
          have HWD := Lib.hid (show Below w.heap.size w wd from HX1.out.trans (Below.mono hswd HX1.out.size))
          clear hB1 hB2
          go_wp2_with fail
          refine bodyPost_ret (v := .tuple #[.agg #[.string ⟨#[]⟩, .int .i64 4], .string ⟨#[]⟩]) (by simp [results, Tryd.results54, go_sem, p0, p1, hz2]) rfl ?_
          unfold bigS bigC bigR
          rw [HK.out]
          refine ⟨rfl, ?_⟩
          refine Below.trans HWD.out ?_
          repeat (first | exact Below.refl _ _ | apply Below.drew | (refine Below.setCell ?_ ?_ _; rotate_left; focus (first | (simp; done) | (simp; omega) | omega)) | (refine Below.alloc ?_ ?_ _; rotate_left; focus (first | (simp; done) | (simp; omega) | omega)))
        · have HK := Lib.hid (show bigK s c most = 1 by rw [hkk, if_neg hqt])
          clear hkk
          go_enter Tryd.func54, Tryd.ntmps54
          go_wp2_with (go_at_call 55; refine (HTXT.out _).mono ?_; rintro e w1 ⟨rfl, hb1⟩; unfold inV; have hB : Rg.Blk w1 (w.heap.size + 1) 62 #[.string ⟨#[]⟩, .int .i64 0] := (Rg.Blk.newAt (w := w.alloc (.cells #[.string s, .int .i64 c] 62)) (by simp) _ _).below hb1 (by simp); have q0 := hB.cell 0 (v := .string ⟨#[]⟩) rfl; have q1 := hB.cell 1 (v := .int .i64 0) rfl; have f0 := hB.frozen 0; have f1 := hB.frozen 1; have hz : w.heap.size + 1 < w1.heap.size := (by have := hb1.size; simp at this; omega); have HB1 := Lib.hid hb1; have HQB := Lib.hid hB; clear hb1 hB)
          have h1 : Below w.heap.size w w1 := Below.trans (show Below w.heap.size w ((w.alloc (.cells #[.string s, .int .i64 c] 62)).alloc (.cells #[.string ⟨#[]⟩, .int .i64 0] 62)) by repeat (first | exact Below.refl _ _ | apply Below.drew | (refine Below.setCell ?_ ?_ _; rotate_left; focus (first | (simp; done) | (simp; omega) | omega)) | (refine Below.alloc ?_ ?_ _; rotate_left; focus (first | (simp; done) | (simp; omega) | omega)))) (HB1.out.mono (by simp; omega))
          have hX1 : Below w.heap.size w (w1.alloc (.cells #[.string s1, .int .i64 0] 62)) := h1.alloc h1.size _
          have hXB : Rg.Blk (w1.alloc (.cells #[.string s1, .int .i64 0] 62)) w1.heap.size 62 #[.string s1, .int .i64 0] := Rg.Blk.new w1 _ _
          have hXB2 : Rg.Blk (w1.alloc (.cells #[.string s1, .int .i64 0] 62)) (w.heap.size + 1) 62 #[.string ⟨#[]⟩, .int .i64 0] := HQB.out.alloc _
          have hXZ : (w1.alloc (.cells #[.string s1, .int .i64 0] 62)).heap.size = w1.heap.size + 1 := by simp
          generalize w1.alloc (.cells #[.string s1, .int .i64 0] 62) = X at *
          have HX1 := Lib.hid hX1
          have HXB := Lib.hid hXB
          have HXB2 := Lib.hid hXB2
          have HXZ := Lib.hid hXZ
          have HZ := Lib.hid hz
          clear hX1 hXB hXB2 q0 q1 f0 f1 h1 hXZ
          refine RL.start (RL.Aft X) (by kernel_rfl) (RL.Aft.drew (RL.Aft.refl X)) ?_
          refine' RL.takeV (i := 0) (v := _) rfl (by kernel_rfl) (by kernel_rfl) (by kernel_rfl) (fun _ _ _ h => h) (by rfl) ?hhs6x0 ?rrs6x0
          case hhs6x0 => (intro w hSw; go_simp; try with_reducible rfl)
          (try simp only [Act.put, List.setIfInBounds_toArray, List.set_cons_zero, List.set_cons_succ])
          refine' RL.takeC (i := 1) (v := .string (bigF r)) 21 #[.string r] rfl (by kernel_rfl) (by kernel_rfl) (by kernel_rfl) (fun _ _ _ h => h) (by rfl) ?hhs6x1 ?ccs6x1 ?rrs6x1
          case hhs6x1 => (intro w; go_simp; try with_reducible rfl)
          case ccs6x1 => exact fun w hw => (HBG.out w).mono fun e w' h => ⟨h.1, h.2, RL.Aft.lat hw h.2⟩
          (try simp only [Act.put, List.setIfInBounds_toArray, List.set_cons_zero, List.set_cons_succ])
          refine' RL.takeV (i := 2) (v := _) rfl (by kernel_rfl) (by kernel_rfl) (by kernel_rfl) (fun _ _ _ h => h) (by rfl) ?hhs6x2 ?rrs6x2
          case hhs6x2 => (intro w hSw; go_simp; try with_reducible rfl)
          (try simp only [Act.put, List.setIfInBounds_toArray, List.set_cons_zero, List.set_cons_succ])
          refine' RL.takeC (i := 3) (v := .string (txtF r)) 23 #[.string r] rfl (by kernel_rfl) (by kernel_rfl) (by kernel_rfl) (fun _ _ _ h => h) (by rfl) ?hhs6x3 ?ccs6x3 ?rrs6x3
          case hhs6x3 => (intro w; go_simp; try with_reducible rfl)
          case ccs6x3 => exact fun w hw => (HTX.out r w HS0.out).mono fun e w' h => ⟨h.1, h.2, RL.Aft.lat hw h.2⟩
          (try simp only [Act.put, List.setIfInBounds_toArray, List.set_cons_zero, List.set_cons_succ])
          refine' RL.takeV (i := 4) (v := _) rfl (by kernel_rfl) (by kernel_rfl) (by kernel_rfl) (fun _ _ _ h => h) (by rfl) ?hhs6x4 ?rrs6x4
          case hhs6x4 => (intro w hSw; go_simp; try with_reducible rfl)
          (try simp only [Act.put, List.setIfInBounds_toArray, List.set_cons_zero, List.set_cons_succ])
          refine' RL.takeV (i := 5) (v := _) rfl (by kernel_rfl) (by kernel_rfl) (by kernel_rfl) (fun _ _ _ h => h) (by rfl) ?hhs6x5 ?rrs6x5
          case hhs6x5 => (intro w hSw; go_simp; try with_reducible rfl)
          (try simp only [Act.put, List.setIfInBounds_toArray, List.set_cons_zero, List.set_cons_succ])
          refine' RL.takeU (i := 6) rfl (by kernel_rfl) (by kernel_rfl) (by kernel_rfl) (fun _ _ _ h => h) (by rfl) ?_
          (try simp only [Act.put, List.setIfInBounds_toArray, List.set_cons_zero, List.set_cons_succ])
          refine' RL.takeU (i := 7) rfl (by kernel_rfl) (by kernel_rfl) (by kernel_rfl) (fun _ _ _ h => h) (by rfl) ?_
          (try simp only [Act.put, List.setIfInBounds_toArray, List.set_cons_zero, List.set_cons_succ])
          refine' RL.takeU (i := 8) rfl (by kernel_rfl) (by kernel_rfl) (by kernel_rfl) (fun _ _ _ h => h) (by rfl) ?_
          (try simp only [Act.put, List.setIfInBounds_toArray, List.set_cons_zero, List.set_cons_succ])
          refine' RL.takeU (i := 9) rfl (by kernel_rfl) (by kernel_rfl) (by kernel_rfl) (fun _ _ _ h => h) (by rfl) ?_
          (try simp only [Act.put, List.setIfInBounds_toArray, List.set_cons_zero, List.set_cons_succ])
          refine' RL.takeU (i := 10) rfl (by kernel_rfl) (by kernel_rfl) (by kernel_rfl) (fun _ _ _ h => h) (by rfl) ?_
          (try simp only [Act.put, List.setIfInBounds_toArray, List.set_cons_zero, List.set_cons_succ])
          refine' RL.takeU (i := 11) rfl (by kernel_rfl) (by kernel_rfl) (by kernel_rfl) (fun _ _ _ h => h) (by rfl) ?_
          (try simp only [Act.put, List.setIfInBounds_toArray, List.set_cons_zero, List.set_cons_succ])
          refine' RL.takeU (i := 12) rfl (by kernel_rfl) (by kernel_rfl) (by kernel_rfl) (fun _ _ _ h => h) (by rfl) ?_
          (try simp only [Act.put, List.setIfInBounds_toArray, List.set_cons_zero, List.set_cons_succ])
          refine' RL.takeU (i := 13) rfl (by kernel_rfl) (by kernel_rfl) (by kernel_rfl) (fun _ _ _ h => h) (by rfl) ?_
          (try simp only [Act.put, List.setIfInBounds_toArray, List.set_cons_zero, List.set_cons_succ])
          refine' RL.takeV (i := 14) (v := _) rfl (by kernel_rfl) (by kernel_rfl) (by kernel_rfl) (fun _ _ _ h => h) (by rfl) ?hhs6x14 ?rrs6x14
          case hhs6x14 => (intro w hSw; go_simp; try with_reducible rfl)
          (try simp only [Act.put, List.setIfInBounds_toArray, List.set_cons_zero, List.set_cons_succ])
          refine' RL.takeV (i := 15) (v := _) rfl (by kernel_rfl) (by kernel_rfl) (by kernel_rfl) (fun _ _ _ h => h) (by rfl) ?hhs6x15 ?rrs6x15
          case hhs6x15 => (intro w hSw; go_simp; try with_reducible rfl)
          (try simp only [Act.put, List.setIfInBounds_toArray, List.set_cons_zero, List.set_cons_succ])
          refine' RL.takeV (i := 16) (v := _) rfl (by kernel_rfl) (by kernel_rfl) (by kernel_rfl) (fun _ _ _ h => h) (by rfl) ?hhs6x16 ?rrs6x16
          case hhs6x16 => (intro w hSw; go_simp; try with_reducible rfl)
          (try simp only [Act.put, List.setIfInBounds_toArray, List.set_cons_zero, List.set_cons_succ])
          refine' RL.takeV (i := 17) (v := _) rfl (by kernel_rfl) (by kernel_rfl) (by kernel_rfl) (fun _ _ _ h => h) (by rfl) ?hhs6x17 ?rrs6x17
          case hhs6x17 => (intro w hSw; go_simp; try with_reducible rfl)
          (try simp only [Act.put, List.setIfInBounds_toArray, List.set_cons_zero, List.set_cons_succ])
          refine' RL.takeV (i := 18) (v := _) rfl (by kernel_rfl) (by kernel_rfl) (by kernel_rfl) (fun _ _ _ h => h) (by rfl) ?hhs6x18 ?rrs6x18
          case hhs6x18 => (intro w hSw; go_simp; try with_reducible rfl)
          (try simp only [Act.put, List.setIfInBounds_toArray, List.set_cons_zero, List.set_cons_succ])
          refine' RL.takeV (i := 19) (v := _) rfl (by kernel_rfl) (by kernel_rfl) (by kernel_rfl) (fun _ _ _ h => h) (by rfl) ?hhs6x19 ?rrs6x19
          case hhs6x19 => (intro w hSw; go_simp; try with_reducible rfl)
          (try simp only [Act.put, List.setIfInBounds_toArray, List.set_cons_zero, List.set_cons_succ])
          refine' RL.takeV (i := 20) (v := _) rfl (by kernel_rfl) (by kernel_rfl) (by kernel_rfl) (fun _ _ _ h => h) (by rfl) ?hhs6x20 ?rrs6x20
          case hhs6x20 => (intro w hSw; go_simp; try with_reducible rfl)
          (try simp only [Act.put, List.setIfInBounds_toArray, List.set_cons_zero, List.set_cons_succ])
          refine' RL.takeV (i := 21) (v := _) rfl (by kernel_rfl) (by kernel_rfl) (by kernel_rfl) (fun _ _ _ h => h) (by rfl) ?hhs6x21 ?rrs6x21
          case hhs6x21 => (intro w hSw; go_simp; try with_reducible rfl)
          (try simp only [Act.put, List.setIfInBounds_toArray, List.set_cons_zero, List.set_cons_succ])
          refine' RL.takeV (i := 22) (v := _) rfl (by kernel_rfl) (by kernel_rfl) (by kernel_rfl) (fun _ _ _ h => h) (by rfl) ?hhs6x22 ?rrs6x22
          case hhs6x22 => (intro w hSw; go_simp; try with_reducible rfl)
          (try simp only [Act.put, List.setIfInBounds_toArray, List.set_cons_zero, List.set_cons_succ])
          refine' RL.takeV (i := 23) (v := _) rfl (by kernel_rfl) (by kernel_rfl) (by kernel_rfl) (fun _ _ _ h => h) (by rfl) ?hhs6x23 ?rrs6x23
          case hhs6x23 => (intro w hSw; go_simp; try with_reducible rfl)
          (try simp only [Act.put, List.setIfInBounds_toArray, List.set_cons_zero, List.set_cons_succ])
          refine' RL.takeV (i := 24) (v := _) rfl (by kernel_rfl) (by kernel_rfl) (by kernel_rfl) (fun _ _ _ h => h) (by rfl) ?hhs6x24 ?rrs6x24
          case hhs6x24 => (intro w hSw; go_simp; try with_reducible rfl)
          (try simp only [Act.put, List.setIfInBounds_toArray, List.set_cons_zero, List.set_cons_succ])
          refine' RL.takeV (i := 25) (v := _) rfl (by kernel_rfl) (by kernel_rfl) (by kernel_rfl) (fun _ _ _ h => h) (by rfl) ?hhs6x25 ?rrs6x25
          case hhs6x25 => (intro w hSw; go_simp; try with_reducible rfl)
          (try simp only [Act.put, List.setIfInBounds_toArray, List.set_cons_zero, List.set_cons_succ])
          refine' RL.takeC (i := 26) (v := .string (bigF r)) 21 #[.string r] rfl (by kernel_rfl) (by kernel_rfl) (by kernel_rfl) (fun _ _ _ h => h) (by rfl) ?hhs6x26 ?ccs6x26 ?rrs6x26
          case hhs6x26 => (intro w; go_simp; try with_reducible rfl)
          case ccs6x26 => exact fun w hw => (HBG.out w).mono fun e w' h => ⟨h.1, h.2, RL.Aft.lat hw h.2⟩
          (try simp only [Act.put, List.setIfInBounds_toArray, List.set_cons_zero, List.set_cons_succ])
          refine' RL.takeV (i := 27) (v := _) rfl (by kernel_rfl) (by kernel_rfl) (by kernel_rfl) (fun _ _ _ h => h) (by rfl) ?hhs6x27 ?rrs6x27
          case hhs6x27 => (intro w hSw; go_simp; try with_reducible rfl)
          (try simp only [Act.put, List.setIfInBounds_toArray, List.set_cons_zero, List.set_cons_succ])
          refine' RL.takeC (i := 28) (v := .string (txtF r)) 23 #[.string r] rfl (by kernel_rfl) (by kernel_rfl) (by kernel_rfl) (fun _ _ _ h => h) (by rfl) ?hhs6x28 ?ccs6x28 ?rrs6x28
          case hhs6x28 => (intro w; go_simp; try with_reducible rfl)
          case ccs6x28 => exact fun w hw => (HTX.out r w HS0.out).mono fun e w' h => ⟨h.1, h.2, RL.Aft.lat hw h.2⟩
          (try simp only [Act.put, List.setIfInBounds_toArray, List.set_cons_zero, List.set_cons_succ])
          refine' RL.takeV (i := 29) (v := _) rfl (by kernel_rfl) (by kernel_rfl) (by kernel_rfl) (fun _ _ _ h => h) (by rfl) ?hhs6x29 ?rrs6x29
          case hhs6x29 => (intro w hSw; go_simp; try with_reducible rfl)
          (try simp only [Act.put, List.setIfInBounds_toArray, List.set_cons_zero, List.set_cons_succ])
          refine' RL.takeV (i := 30) (v := _) rfl (by kernel_rfl) (by kernel_rfl) (by kernel_rfl) (fun _ _ _ h => h) (by rfl) ?hhs6x30 ?rrs6x30
          case hhs6x30 => (intro w hSw; go_simp; try with_reducible rfl)
          (try simp only [Act.put, List.setIfInBounds_toArray, List.set_cons_zero, List.set_cons_succ])
          refine' RL.takeV (i := 31) (v := _) rfl (by kernel_rfl) (by kernel_rfl) (by kernel_rfl) (fun _ _ _ h => h) (by rfl) ?hhs6x31 ?rrs6x31
          case hhs6x31 => (intro w hSw; go_simp; try with_reducible rfl)
          (try simp only [Act.put, List.setIfInBounds_toArray, List.set_cons_zero, List.set_cons_succ])
          refine RL.done (by kernel_rfl) (fun wd hlwd hswd => ?_)
          have hB1 := HXB.out.below hswd (by have := HXZ.out; omega)
          have hB2 := HXB2.out.below hswd (by have := HXZ.out; have := HZ.out; omega)
          have p0 := hB2.cell 0 (v := .string ⟨#[]⟩) rfl
          have p1 := hB2.cell 1 (v := .int .i64 0) rfl
          have g0 := hB2.frozen 0
          have g1 := hB2.frozen 1
          have r0 := hB1.cell 0 (v := .string s1) rfl
          have r1 := hB1.cell 1 (v := .int .i64 0) rfl
          have hz2 : w.heap.size + 1 < wd.heap.size := by have := HXZ.out; have := HZ.out; have h5 := Below.size hswd; omega
          have HWD := Lib.hid (show Below w.heap.size w wd from HX1.out.trans (Below.mono hswd HX1.out.size))
          clear hB1 hB2
          go_wp2_with fail
          refine bodyPost_ret (v := .tuple #[.agg #[.string s1, .int .i64 0], .string t]) (by simp [results, Tryd.results54, go_sem, p0, p1, hz2]) rfl ?_
          unfold bigS bigC bigR
          rw [HK.out]
          refine ⟨by rw [HQ.out, HS1.out, HC1.out, HR.out, HTP.out]; rfl, ?_⟩
          refine Below.trans HWD.out ?_
          repeat (first | exact Below.refl _ _ | apply Below.drew | (refine Below.setCell ?_ ?_ _; rotate_left; focus (first | (simp; done) | (simp; omega) | omega)) | (refine Below.alloc ?_ ?_ _; rotate_left; focus (first | (simp; done) | (simp; omega) | omega)))
      · have htr : r = t := by rw [← HTP.out]; exact (tp_same hrp hx).symm
        subst htr
        have hd2 : ((r[0].toNat : Int) == 0) = false := by
          rw [beq_eq_false_iff_ne]; intro e; apply hx; apply UInt8.toNat_inj.1; simpa using e
        clear hx
        by_cases hqt : q < (r.size : Int)
        · have HK := Lib.hid (show bigK s c most = 4 by rw [hkk, if_pos hqt])
          clear hkk
          go_enter Tryd.func54, Tryd.ntmps54
          go_wp2_with (go_at_call 55; refine (HTXT.out _).mono ?_; rintro e w1 ⟨rfl, hb1⟩; unfold inV; have hB : Rg.Blk w1 (w.heap.size + 1) 62 #[.string ⟨#[]⟩, .int .i64 0] := (Rg.Blk.newAt (w := w.alloc (.cells #[.string s, .int .i64 c] 62)) (by simp) _ _).below hb1 (by simp); have q0 := hB.cell 0 (v := .string ⟨#[]⟩) rfl; have q1 := hB.cell 1 (v := .int .i64 0) rfl; have f0 := hB.frozen 0; have f1 := hB.frozen 1; have hz : w.heap.size + 1 < w1.heap.size := (by have := hb1.size; simp at this; omega); have HB1 := Lib.hid hb1; have HQB := Lib.hid hB; clear hb1 hB)
          have h1 : Below w.heap.size w w1 := Below.trans (show Below w.heap.size w ((w.alloc (.cells #[.string s, .int .i64 c] 62)).alloc (.cells #[.string ⟨#[]⟩, .int .i64 0] 62)) by repeat (first | exact Below.refl _ _ | apply Below.drew | (refine Below.setCell ?_ ?_ _; rotate_left; focus (first | (simp; done) | (simp; omega) | omega)) | (refine Below.alloc ?_ ?_ _; rotate_left; focus (first | (simp; done) | (simp; omega) | omega)))) (HB1.out.mono (by simp; omega))
          have hX1 : Below w.heap.size w (w1.alloc (.cells #[.string s1, .int .i64 0] 62)) := h1.alloc h1.size _
          have hXB : Rg.Blk (w1.alloc (.cells #[.string s1, .int .i64 0] 62)) w1.heap.size 62 #[.string s1, .int .i64 0] := Rg.Blk.new w1 _ _
          have hXB2 : Rg.Blk (w1.alloc (.cells #[.string s1, .int .i64 0] 62)) (w.heap.size + 1) 62 #[.string ⟨#[]⟩, .int .i64 0] := HQB.out.alloc _
          have hXZ : (w1.alloc (.cells #[.string s1, .int .i64 0] 62)).heap.size = w1.heap.size + 1 := by simp
          generalize w1.alloc (.cells #[.string s1, .int .i64 0] 62) = X at *
          have HX1 := Lib.hid hX1
          have HXB := Lib.hid hXB
          have HXB2 := Lib.hid hXB2
          have HXZ := Lib.hid hXZ
          have HZ := Lib.hid hz
          clear hX1 hXB hXB2 q0 q1 f0 f1 h1 hXZ
          refine RL.start (RL.Aft X) (by kernel_rfl) (RL.Aft.drew (RL.Aft.refl X)) ?_
          refine' RL.takeV (i := 0) (v := _) rfl (by kernel_rfl) (by kernel_rfl) (by kernel_rfl) (fun _ _ _ h => h) (by rfl) ?hhs3x0 ?rrs3x0
          case hhs3x0 => (intro w hSw; go_simp; try with_reducible rfl)
          (try simp only [Act.put, List.setIfInBounds_toArray, List.set_cons_zero, List.set_cons_succ])
          refine' RL.takeC (i := 1) (v := .string (bigF r)) 21 #[.string r] rfl (by kernel_rfl) (by kernel_rfl) (by kernel_rfl) (fun _ _ _ h => h) (by rfl) ?hhs3x1 ?ccs3x1 ?rrs3x1
          case hhs3x1 => (intro w; go_simp; try with_reducible rfl)
          case ccs3x1 => exact fun w hw => (HBG.out w).mono fun e w' h => ⟨h.1, h.2, RL.Aft.lat hw h.2⟩
          (try simp only [Act.put, List.setIfInBounds_toArray, List.set_cons_zero, List.set_cons_succ])
          refine' RL.takeV (i := 2) (v := _) rfl (by kernel_rfl) (by kernel_rfl) (by kernel_rfl) (fun _ _ _ h => h) (by rfl) ?hhs3x2 ?rrs3x2
          case hhs3x2 => (intro w hSw; go_simp; try with_reducible rfl)
          (try simp only [Act.put, List.setIfInBounds_toArray, List.set_cons_zero, List.set_cons_succ])
          refine' RL.takeC (i := 3) (v := .string (txtF r)) 23 #[.string r] rfl (by kernel_rfl) (by kernel_rfl) (by kernel_rfl) (fun _ _ _ h => h) (by rfl) ?hhs3x3 ?ccs3x3 ?rrs3x3
          case hhs3x3 => (intro w; go_simp; try with_reducible rfl)
          case ccs3x3 => exact fun w hw => (HTX.out r w HS0.out).mono fun e w' h => ⟨h.1, h.2, RL.Aft.lat hw h.2⟩
          (try simp only [Act.put, List.setIfInBounds_toArray, List.set_cons_zero, List.set_cons_succ])
          refine' RL.takeV (i := 4) (v := _) rfl (by kernel_rfl) (by kernel_rfl) (by kernel_rfl) (fun _ _ _ h => h) (by rfl) ?hhs3x4 ?rrs3x4
          case hhs3x4 => (intro w hSw; go_simp; try with_reducible rfl)
          (try simp only [Act.put, List.setIfInBounds_toArray, List.set_cons_zero, List.set_cons_succ])
          refine' RL.takeV (i := 5) (v := _) rfl (by kernel_rfl) (by kernel_rfl) (by kernel_rfl) (fun _ _ _ h => h) (by rfl) ?hhs3x5 ?rrs3x5
          case hhs3x5 => (intro w hSw; go_simp; try with_reducible rfl)
          (try simp only [Act.put, List.setIfInBounds_toArray, List.set_cons_zero, List.set_cons_succ])
          refine' RL.takeU (i := 6) rfl (by kernel_rfl) (by kernel_rfl) (by kernel_rfl) (fun _ _ _ h => h) (by rfl) ?_
          (try simp only [Act.put, List.setIfInBounds_toArray, List.set_cons_zero, List.set_cons_succ])
          refine' RL.takeU (i := 7) rfl (by kernel_rfl) (by kernel_rfl) (by kernel_rfl) (fun _ _ _ h => h) (by rfl) ?_
          (try simp only [Act.put, List.setIfInBounds_toArray, List.set_cons_zero, List.set_cons_succ])
          refine' RL.takeU (i := 8) rfl (by kernel_rfl) (by kernel_rfl) (by kernel_rfl) (fun _ _ _ h => h) (by rfl) ?_
          (try simp only [Act.put, List.setIfInBounds_toArray, List.set_cons_zero, List.set_cons_succ])
          refine' RL.takeU (i := 9) rfl (by kernel_rfl) (by kernel_rfl) (by kernel_rfl) (fun _ _ _ h => h) (by rfl) ?_
          (try simp only [Act.put, List.setIfInBounds_toArray, List.set_cons_zero, List.set_cons_succ])
          refine' RL.takeU (i := 10) rfl (by kernel_rfl) (by kernel_rfl) (by kernel_rfl) (fun _ _ _ h => h) (by rfl) ?_
          (try simp only [Act.put, List.setIfInBounds_toArray, List.set_cons_zero, List.set_cons_succ])
          refine' RL.takeU (i := 11) rfl (by kernel_rfl) (by kernel_rfl) (by kernel_rfl) (fun _ _ _ h => h) (by rfl) ?_
          (try simp only [Act.put, List.setIfInBounds_toArray, List.set_cons_zero, List.set_cons_succ])
          refine' RL.takeU (i := 12) rfl (by kernel_rfl) (by kernel_rfl) (by kernel_rfl) (fun _ _ _ h => h) (by rfl) ?_
          (try simp only [Act.put, List.setIfInBounds_toArray, List.set_cons_zero, List.set_cons_succ])
          refine' RL.takeU (i := 13) rfl (by kernel_rfl) (by kernel_rfl) (by kernel_rfl) (fun _ _ _ h => h) (by rfl) ?_
          (try simp only [Act.put, List.setIfInBounds_toArray, List.set_cons_zero, List.set_cons_succ])
          refine' RL.takeV (i := 14) (v := _) rfl (by kernel_rfl) (by kernel_rfl) (by kernel_rfl) (fun _ _ _ h => h) (by rfl) ?hhs3x14 ?rrs3x14
          case hhs3x14 => (intro w hSw; go_simp; try with_reducible rfl)
          (try simp only [Act.put, List.setIfInBounds_toArray, List.set_cons_zero, List.set_cons_succ])
          refine' RL.takeV (i := 15) (v := _) rfl (by kernel_rfl) (by kernel_rfl) (by kernel_rfl) (fun _ _ _ h => h) (by rfl) ?hhs3x15 ?rrs3x15
          case hhs3x15 => (intro w hSw; go_simp; try with_reducible rfl)
          (try simp only [Act.put, List.setIfInBounds_toArray, List.set_cons_zero, List.set_cons_succ])
          refine' RL.takeV (i := 16) (v := _) rfl (by kernel_rfl) (by kernel_rfl) (by kernel_rfl) (fun _ _ _ h => h) (by rfl) ?hhs3x16 ?rrs3x16
          case hhs3x16 => (intro w hSw; go_simp; try with_reducible rfl)
          (try simp only [Act.put, List.setIfInBounds_toArray, List.set_cons_zero, List.set_cons_succ])
          refine' RL.takeV (i := 17) (v := _) rfl (by kernel_rfl) (by kernel_rfl) (by kernel_rfl) (fun _ _ _ h => h) (by rfl) ?hhs3x17 ?rrs3x17
          case hhs3x17 => (intro w hSw; go_simp; try with_reducible rfl)
          (try simp only [Act.put, List.setIfInBounds_toArray, List.set_cons_zero, List.set_cons_succ])
          refine' RL.takeV (i := 18) (v := _) rfl (by kernel_rfl) (by kernel_rfl) (by kernel_rfl) (fun _ _ _ h => h) (by rfl) ?hhs3x18 ?rrs3x18
          case hhs3x18 => (intro w hSw; go_simp; try with_reducible rfl)
          (try simp only [Act.put, List.setIfInBounds_toArray, List.set_cons_zero, List.set_cons_succ])
          refine' RL.takeV (i := 19) (v := _) rfl (by kernel_rfl) (by kernel_rfl) (by kernel_rfl) (fun _ _ _ h => h) (by rfl) ?hhs3x19 ?rrs3x19
          case hhs3x19 => (intro w hSw; go_simp; try with_reducible rfl)
          (try simp only [Act.put, List.setIfInBounds_toArray, List.set_cons_zero, List.set_cons_succ])
          refine' RL.takeV (i := 20) (v := _) rfl (by kernel_rfl) (by kernel_rfl) (by kernel_rfl) (fun _ _ _ h => h) (by rfl) ?hhs3x20 ?rrs3x20
          case hhs3x20 => (intro w hSw; go_simp; try with_reducible rfl)
          (try simp only [Act.put, List.setIfInBounds_toArray, List.set_cons_zero, List.set_cons_succ])
          refine' RL.takeV (i := 21) (v := _) rfl (by kernel_rfl) (by kernel_rfl) (by kernel_rfl) (fun _ _ _ h => h) (by rfl) ?hhs3x21 ?rrs3x21
          case hhs3x21 => (intro w hSw; go_simp; try with_reducible rfl)
          (try simp only [Act.put, List.setIfInBounds_toArray, List.set_cons_zero, List.set_cons_succ])
          refine' RL.takeV (i := 22) (v := _) rfl (by kernel_rfl) (by kernel_rfl) (by kernel_rfl) (fun _ _ _ h => h) (by rfl) ?hhs3x22 ?rrs3x22
          case hhs3x22 => (intro w hSw; go_simp; try with_reducible rfl)
          (try simp only [Act.put, List.setIfInBounds_toArray, List.set_cons_zero, List.set_cons_succ])
          refine' RL.takeV (i := 23) (v := _) rfl (by kernel_rfl) (by kernel_rfl) (by kernel_rfl) (fun _ _ _ h => h) (by rfl) ?hhs3x23 ?rrs3x23
          case hhs3x23 => (intro w hSw; go_simp; try with_reducible rfl)
          (try simp only [Act.put, List.setIfInBounds_toArray, List.set_cons_zero, List.set_cons_succ])
          refine' RL.takeV (i := 24) (v := _) rfl (by kernel_rfl) (by kernel_rfl) (by kernel_rfl) (fun _ _ _ h => h) (by rfl) ?hhs3x24 ?rrs3x24
          case hhs3x24 => (intro w hSw; go_simp; try with_reducible rfl)
          (try simp only [Act.put, List.setIfInBounds_toArray, List.set_cons_zero, List.set_cons_succ])
          refine' RL.takeU (i := 25) rfl (by kernel_rfl) (by kernel_rfl) (by kernel_rfl) (fun _ _ _ h => h) (by rfl) ?_
          (try simp only [Act.put, List.setIfInBounds_toArray, List.set_cons_zero, List.set_cons_succ])
          refine' RL.takeU (i := 26) rfl (by kernel_rfl) (by kernel_rfl) (by kernel_rfl) (fun _ _ _ h => h) (by rfl) ?_
          (try simp only [Act.put, List.setIfInBounds_toArray, List.set_cons_zero, List.set_cons_succ])
          refine' RL.takeU (i := 27) rfl (by kernel_rfl) (by kernel_rfl) (by kernel_rfl) (fun _ _ _ h => h) (by rfl) ?_
          (try simp only [Act.put, List.setIfInBounds_toArray, List.set_cons_zero, List.set_cons_succ])
          refine' RL.takeU (i := 28) rfl (by kernel_rfl) (by kernel_rfl) (by kernel_rfl) (fun _ _ _ h => h) (by rfl) ?_
          (try simp only [Act.put, List.setIfInBounds_toArray, List.set_cons_zero, List.set_cons_succ])
          refine' RL.takeU (i := 29) rfl (by kernel_rfl) (by kernel_rfl) (by kernel_rfl) (fun _ _ _ h => h) (by rfl) ?_
          (try simp only [Act.put, List.setIfInBounds_toArray, List.set_cons_zero, List.set_cons_succ])
          refine' RL.takeV (i := 30) (v := _) rfl (by kernel_rfl) (by kernel_rfl) (by kernel_rfl) (fun _ _ _ h => h) (by rfl) ?hhs3x30 ?rrs3x30
          case hhs3x30 => (intro w hSw; go_simp; try with_reducible rfl)
          (try simp only [Act.put, List.setIfInBounds_toArray, List.set_cons_zero, List.set_cons_succ])
          refine' RL.takeV (i := 31) (v := _) rfl (by kernel_rfl) (by kernel_rfl) (by kernel_rfl) (fun _ _ _ h => h) (by rfl) ?hhs3x31 ?rrs3x31
          case hhs3x31 => (intro w hSw; go_simp; try with_reducible rfl)
          (try simp only [Act.put, List.setIfInBounds_toArray, List.set_cons_zero, List.set_cons_succ])
          refine RL.done (by kernel_rfl) (fun wd hlwd hswd => ?_)
          have hB1 := HXB.out.below hswd (by have := HXZ.out; omega)
          have hB2 := HXB2.out.below hswd (by have := HXZ.out; have := HZ.out; omega)
          have p0 := hB2.cell 0 (v := .string ⟨#[]⟩) rfl
          have p1 := hB2.cell 1 (v := .int .i64 0) rfl
          have g0 := hB2.frozen 0
          have g1 := hB2.frozen 1
          have r0 := hB1.cell 0 (v := .string s1) rfl
          have r1 := hB1.cell 1 (v := .int .i64 0) rfl
          have hz2 : w.heap.size + 1 < wd.heap.size := by have := HXZ.out; have := HZ.out; have h5 := Below.size hswd; omega
          have HWD := Lib.hid (show Below w.heap.size w wd from HX1.out.trans (Below.mono hswd HX1.out.size))
          clear hB1 hB2
          go_wp2_with fail
          refine bodyPost_ret (v := .tuple #[.agg #[.string ⟨#[]⟩, .int .i64 4], .string ⟨#[]⟩]) (by simp [results, Tryd.results54, go_sem, p0, p1, hz2]) rfl ?_
          unfold bigS bigC bigR
          rw [HK.out]
          refine ⟨rfl, ?_⟩
          refine Below.trans HWD.out ?_
          repeat (first | exact Below.refl _ _ | apply Below.drew | (refine Below.setCell ?_ ?_ _; rotate_left; focus (first | (simp; done) | (simp; omega) | omega)) | (refine Below.alloc ?_ ?_ _; rotate_left; focus (first | (simp; done) | (simp; omega) | omega)))
        · have HK := Lib.hid (show bigK s c most = 1 by rw [hkk, if_neg hqt])
          clear hkk
          go_enter Tryd.func54, Tryd.ntmps54
          go_wp2_with (go_at_call 55; refine (HTXT.out _).mono ?_; rintro e w1 ⟨rfl, hb1⟩; unfold inV; have hB : Rg.Blk w1 (w.heap.size + 1) 62 #[.string ⟨#[]⟩, .int .i64 0] := (Rg.Blk.newAt (w := w.alloc (.cells #[.string s, .int .i64 c] 62)) (by simp) _ _).below hb1 (by simp); have q0 := hB.cell 0 (v := .string ⟨#[]⟩) rfl; have q1 := hB.cell 1 (v := .int .i64 0) rfl; have f0 := hB.frozen 0; have f1 := hB.frozen 1; have hz : w.heap.size + 1 < w1.heap.size := (by have := hb1.size; simp at this; omega); have HB1 := Lib.hid hb1; have HQB := Lib.hid hB; clear hb1 hB)
          have h1 : Below w.heap.size w w1 := Below.trans (show Below w.heap.size w ((w.alloc (.cells #[.string s, .int .i64 c] 62)).alloc (.cells #[.string ⟨#[]⟩, .int .i64 0] 62)) by repeat (first | exact Below.refl _ _ | apply Below.drew | (refine Below.setCell ?_ ?_ _; rotate_left; focus (first | (simp; done) | (simp; omega) | omega)) | (refine Below.alloc ?_ ?_ _; rotate_left; focus (first | (simp; done) | (simp; omega) | omega)))) (HB1.out.mono (by simp; omega))
          have hX1 : Below w.heap.size w (w1.alloc (.cells #[.string s1, .int .i64 0] 62)) := h1.alloc h1.size _
          have hXB : Rg.Blk (w1.alloc (.cells #[.string s1, .int .i64 0] 62)) w1.heap.size 62 #[.string s1, .int .i64 0] := Rg.Blk.new w1 _ _
          have hXB2 : Rg.Blk (w1.alloc (.cells #[.string s1, .int .i64 0] 62)) (w.heap.size + 1) 62 #[.string ⟨#[]⟩, .int .i64 0] := HQB.out.alloc _
          have hXZ : (w1.alloc (.cells #[.string s1, .int .i64 0] 62)).heap.size = w1.heap.size + 1 := by simp
          generalize w1.alloc (.cells #[.string s1, .int .i64 0] 62) = X at *
          have HX1 := Lib.hid hX1
          have HXB := Lib.hid hXB
          have HXB2 := Lib.hid hXB2
          have HXZ := Lib.hid hXZ
          have HZ := Lib.hid hz
          clear hX1 hXB hXB2 q0 q1 f0 f1 h1 hXZ
          refine RL.start (RL.Aft X) (by kernel_rfl) (RL.Aft.drew (RL.Aft.refl X)) ?_
          refine' RL.takeV (i := 0) (v := _) rfl (by kernel_rfl) (by kernel_rfl) (by kernel_rfl) (fun _ _ _ h => h) (by rfl) ?hhs4x0 ?rrs4x0
          case hhs4x0 => (intro w hSw; go_simp; try with_reducible rfl)
          (try simp only [Act.put, List.setIfInBounds_toArray, List.set_cons_zero, List.set_cons_succ])
          refine' RL.takeC (i := 1) (v := .string (bigF r)) 21 #[.string r] rfl (by kernel_rfl) (by kernel_rfl) (by kernel_rfl) (fun _ _ _ h => h) (by rfl) ?hhs4x1 ?ccs4x1 ?rrs4x1
          case hhs4x1 => (intro w; go_simp; try with_reducible rfl)
          case ccs4x1 => exact fun w hw => (HBG.out w).mono fun e w' h => ⟨h.1, h.2, RL.Aft.lat hw h.2⟩
          (try simp only [Act.put, List.setIfInBounds_toArray, List.set_cons_zero, List.set_cons_succ])
          refine' RL.takeV (i := 2) (v := _) rfl (by kernel_rfl) (by kernel_rfl) (by kernel_rfl) (fun _ _ _ h => h) (by rfl) ?hhs4x2 ?rrs4x2
          case hhs4x2 => (intro w hSw; go_simp; try with_reducible rfl)
          (try simp only [Act.put, List.setIfInBounds_toArray, List.set_cons_zero, List.set_cons_succ])
          refine' RL.takeC (i := 3) (v := .string (txtF r)) 23 #[.string r] rfl (by kernel_rfl) (by kernel_rfl) (by kernel_rfl) (fun _ _ _ h => h) (by rfl) ?hhs4x3 ?ccs4x3 ?rrs4x3
          case hhs4x3 => (intro w; go_simp; try with_reducible rfl)
          case ccs4x3 => exact fun w hw => (HTX.out r w HS0.out).mono fun e w' h => ⟨h.1, h.2, RL.Aft.lat hw h.2⟩
          (try simp only [Act.put, List.setIfInBounds_toArray, List.set_cons_zero, List.set_cons_succ])
          refine' RL.takeV (i := 4) (v := _) rfl (by kernel_rfl) (by kernel_rfl) (by kernel_rfl) (fun _ _ _ h => h) (by rfl) ?hhs4x4 ?rrs4x4
          case hhs4x4 => (intro w hSw; go_simp; try with_reducible rfl)
          (try simp only [Act.put, List.setIfInBounds_toArray, List.set_cons_zero, List.set_cons_succ])
          refine' RL.takeV (i := 5) (v := _) rfl (by kernel_rfl) (by kernel_rfl) (by kernel_rfl) (fun _ _ _ h => h) (by rfl) ?hhs4x5 ?rrs4x5
          case hhs4x5 => (intro w hSw; go_simp; try with_reducible rfl)
          (try simp only [Act.put, List.setIfInBounds_toArray, List.set_cons_zero, List.set_cons_succ])
          refine' RL.takeU (i := 6) rfl (by kernel_rfl) (by kernel_rfl) (by kernel_rfl) (fun _ _ _ h => h) (by rfl) ?_
          (try simp only [Act.put, List.setIfInBounds_toArray, List.set_cons_zero, List.set_cons_succ])
          refine' RL.takeU (i := 7) rfl (by kernel_rfl) (by kernel_rfl) (by kernel_rfl) (fun _ _ _ h => h) (by rfl) ?_
          (try simp only [Act.put, List.setIfInBounds_toArray, List.set_cons_zero, List.set_cons_succ])
          refine' RL.takeU (i := 8) rfl (by kernel_rfl) (by kernel_rfl) (by kernel_rfl) (fun _ _ _ h => h) (by rfl) ?_
          (try simp only [Act.put, List.setIfInBounds_toArray, List.set_cons_zero, List.set_cons_succ])
          refine' RL.takeU (i := 9) rfl (by kernel_rfl) (by kernel_rfl) (by kernel_rfl) (fun _ _ _ h => h) (by rfl) ?_
          (try simp only [Act.put, List.setIfInBounds_toArray, List.set_cons_zero, List.set_cons_succ])
          refine' RL.takeU (i := 10) rfl (by kernel_rfl) (by kernel_rfl) (by kernel_rfl) (fun _ _ _ h => h) (by rfl) ?_
          (try simp only [Act.put, List.setIfInBounds_toArray, List.set_cons_zero, List.set_cons_succ])
          refine' RL.takeU (i := 11) rfl (by kernel_rfl) (by kernel_rfl) (by kernel_rfl) (fun _ _ _ h => h) (by rfl) ?_
          (try simp only [Act.put, List.setIfInBounds_toArray, List.set_cons_zero, List.set_cons_succ])
          refine' RL.takeU (i := 12) rfl (by kernel_rfl) (by kernel_rfl) (by kernel_rfl) (fun _ _ _ h => h) (by rfl) ?_
          (try simp only [Act.put, List.setIfInBounds_toArray, List.set_cons_zero, List.set_cons_succ])
          refine' RL.takeU (i := 13) rfl (by kernel_rfl) (by kernel_rfl) (by kernel_rfl) (fun _ _ _ h => h) (by rfl) ?_
          (try simp only [Act.put, List.setIfInBounds_toArray, List.set_cons_zero, List.set_cons_succ])
          refine' RL.takeV (i := 14) (v := _) rfl (by kernel_rfl) (by kernel_rfl) (by kernel_rfl) (fun _ _ _ h => h) (by rfl) ?hhs4x14 ?rrs4x14
          case hhs4x14 => (intro w hSw; go_simp; try with_reducible rfl)
          (try simp only [Act.put, List.setIfInBounds_toArray, List.set_cons_zero, List.set_cons_succ])
          refine' RL.takeV (i := 15) (v := _) rfl (by kernel_rfl) (by kernel_rfl) (by kernel_rfl) (fun _ _ _ h => h) (by rfl) ?hhs4x15 ?rrs4x15
          case hhs4x15 => (intro w hSw; go_simp; try with_reducible rfl)
          (try simp only [Act.put, List.setIfInBounds_toArray, List.set_cons_zero, List.set_cons_succ])
          refine' RL.takeV (i := 16) (v := _) rfl (by kernel_rfl) (by kernel_rfl) (by kernel_rfl) (fun _ _ _ h => h) (by rfl) ?hhs4x16 ?rrs4x16
          case hhs4x16 => (intro w hSw; go_simp; try with_reducible rfl)
          (try simp only [Act.put, List.setIfInBounds_toArray, List.set_cons_zero, List.set_cons_succ])
          refine' RL.takeV (i := 17) (v := _) rfl (by kernel_rfl) (by kernel_rfl) (by kernel_rfl) (fun _ _ _ h => h) (by rfl) ?hhs4x17 ?rrs4x17
          case hhs4x17 => (intro w hSw; go_simp; try with_reducible rfl)
          (try simp only [Act.put, List.setIfInBounds_toArray, List.set_cons_zero, List.set_cons_succ])
          refine' RL.takeV (i := 18) (v := _) rfl (by kernel_rfl) (by kernel_rfl) (by kernel_rfl) (fun _ _ _ h => h) (by rfl) ?hhs4x18 ?rrs4x18
          case hhs4x18 => (intro w hSw; go_simp; try with_reducible rfl)
          (try simp only [Act.put, List.setIfInBounds_toArray, List.set_cons_zero, List.set_cons_succ])
          refine' RL.takeV (i := 19) (v := _) rfl (by kernel_rfl) (by kernel_rfl) (by kernel_rfl) (fun _ _ _ h => h) (by rfl) ?hhs4x19 ?rrs4x19
          case hhs4x19 => (intro w hSw; go_simp; try with_reducible rfl)
          (try simp only [Act.put, List.setIfInBounds_toArray, List.set_cons_zero, List.set_cons_succ])
          refine' RL.takeV (i := 20) (v := _) rfl (by kernel_rfl) (by kernel_rfl) (by kernel_rfl) (fun _ _ _ h => h) (by rfl) ?hhs4x20 ?rrs4x20
          case hhs4x20 => (intro w hSw; go_simp; try with_reducible rfl)
          (try simp only [Act.put, List.setIfInBounds_toArray, List.set_cons_zero, List.set_cons_succ])
          refine' RL.takeV (i := 21) (v := _) rfl (by kernel_rfl) (by kernel_rfl) (by kernel_rfl) (fun _ _ _ h => h) (by rfl) ?hhs4x21 ?rrs4x21
          case hhs4x21 => (intro w hSw; go_simp; try with_reducible rfl)
          (try simp only [Act.put, List.setIfInBounds_toArray, List.set_cons_zero, List.set_cons_succ])
          refine' RL.takeV (i := 22) (v := _) rfl (by kernel_rfl) (by kernel_rfl) (by kernel_rfl) (fun _ _ _ h => h) (by rfl) ?hhs4x22 ?rrs4x22
          case hhs4x22 => (intro w hSw; go_simp; try with_reducible rfl)
          (try simp only [Act.put, List.setIfInBounds_toArray, List.set_cons_zero, List.set_cons_succ])
          refine' RL.takeV (i := 23) (v := _) rfl (by kernel_rfl) (by kernel_rfl) (by kernel_rfl) (fun _ _ _ h => h) (by rfl) ?hhs4x23 ?rrs4x23
          case hhs4x23 => (intro w hSw; go_simp; try with_reducible rfl)
          (try simp only [Act.put, List.setIfInBounds_toArray, List.set_cons_zero, List.set_cons_succ])
          refine' RL.takeV (i := 24) (v := _) rfl (by kernel_rfl) (by kernel_rfl) (by kernel_rfl) (fun _ _ _ h => h) (by rfl) ?hhs4x24 ?rrs4x24
          case hhs4x24 => (intro w hSw; go_simp; try with_reducible rfl)
          (try simp only [Act.put, List.setIfInBounds_toArray, List.set_cons_zero, List.set_cons_succ])
          refine' RL.takeU (i := 25) rfl (by kernel_rfl) (by kernel_rfl) (by kernel_rfl) (fun _ _ _ h => h) (by rfl) ?_
          (try simp only [Act.put, List.setIfInBounds_toArray, List.set_cons_zero, List.set_cons_succ])
          refine' RL.takeU (i := 26) rfl (by kernel_rfl) (by kernel_rfl) (by kernel_rfl) (fun _ _ _ h => h) (by rfl) ?_
          (try simp only [Act.put, List.setIfInBounds_toArray, List.set_cons_zero, List.set_cons_succ])
          refine' RL.takeU (i := 27) rfl (by kernel_rfl) (by kernel_rfl) (by kernel_rfl) (fun _ _ _ h => h) (by rfl) ?_
          (try simp only [Act.put, List.setIfInBounds_toArray, List.set_cons_zero, List.set_cons_succ])
          refine' RL.takeU (i := 28) rfl (by kernel_rfl) (by kernel_rfl) (by kernel_rfl) (fun _ _ _ h => h) (by rfl) ?_
          (try simp only [Act.put, List.setIfInBounds_toArray, List.set_cons_zero, List.set_cons_succ])
          refine' RL.takeU (i := 29) rfl (by kernel_rfl) (by kernel_rfl) (by kernel_rfl) (fun _ _ _ h => h) (by rfl) ?_
          (try simp only [Act.put, List.setIfInBounds_toArray, List.set_cons_zero, List.set_cons_succ])
          refine' RL.takeV (i := 30) (v := _) rfl (by kernel_rfl) (by kernel_rfl) (by kernel_rfl) (fun _ _ _ h => h) (by rfl) ?hhs4x30 ?rrs4x30
          case hhs4x30 => (intro w hSw; go_simp; try with_reducible rfl)
          (try simp only [Act.put, List.setIfInBounds_toArray, List.set_cons_zero, List.set_cons_succ])
          refine' RL.takeV (i := 31) (v := _) rfl (by kernel_rfl) (by kernel_rfl) (by kernel_rfl) (fun _ _ _ h => h) (by rfl) ?hhs4x31 ?rrs4x31
          case hhs4x31 => (intro w hSw; go_simp; try with_reducible rfl)
          (try simp only [Act.put, List.setIfInBounds_toArray, List.set_cons_zero, List.set_cons_succ])
          refine RL.done (by kernel_rfl) (fun wd hlwd hswd => ?_)
          have hB1 := HXB.out.below hswd (by have := HXZ.out; omega)
          have hB2 := HXB2.out.below hswd (by have := HXZ.out; have := HZ.out; omega)
          have p0 := hB2.cell 0 (v := .string ⟨#[]⟩) rfl
          have p1 := hB2.cell 1 (v := .int .i64 0) rfl
          have g0 := hB2.frozen 0
          have g1 := hB2.frozen 1
          have r0 := hB1.cell 0 (v := .string s1) rfl
          have r1 := hB1.cell 1 (v := .int .i64 0) rfl
          have hz2 : w.heap.size + 1 < wd.heap.size := by have := HXZ.out; have := HZ.out; have h5 := Below.size hswd; omega
          have HWD := Lib.hid (show Below w.heap.size w wd from HX1.out.trans (Below.mono hswd HX1.out.size))
          clear hB1 hB2
          go_wp2_with fail
          refine bodyPost_ret (v := .tuple #[.agg #[.string s1, .int .i64 0], .string r]) (by simp [results, Tryd.results54, go_sem, p0, p1, hz2]) rfl ?_
          unfold bigS bigC bigR
          rw [HK.out]
          refine ⟨by rw [HQ.out, HS1.out, HC1.out, HR.out, HTP.out]; rfl, ?_⟩
          refine Below.trans HWD.out ?_
          repeat (first | exact Below.refl _ _ | apply Below.drew | (refine Below.setCell ?_ ?_ _; rotate_left; focus (first | (simp; done) | (simp; omega) | omega)) | (refine Below.alloc ?_ ?_ _; rotate_left; focus (first | (simp; done) | (simp; omega) | omega)))
end Go.Proofs.YtkpecnkflibmjaaDoor.Wi
