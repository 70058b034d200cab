/- The field's power, as Invert asks it. -/
import Derived.Test.YtfaeigbfnjkojaaGreatDoorKxJ
set_option linter.unusedVariables false
set_option linter.unusedSimpArgs false
namespace Go.Proofs.YtfaeigbfnjkojaaGreatDoor.Kx
open Go.RowKit Go.Proofs.YtfaeigbfnjkojaaGreatDoor.Cl
theorem small_ok (n : Nat) (h : n < M) : (small n).ok := E.ok5 (Nat.lt_trans (mod_lt_W n) W_lt_M) (Nat.lt_of_le_of_lt (Nat.div_le_self _ _) h) (by decide) (by decide) (by decide)
theorem pw_ok (low : Nat) (x : E) : ∀ k, (pw low x k).ok
  | 0 => small_ok 1 (by decide)
  | k + 1 => by
    unfold pw
    simp only
    split
    · exact mul_ok _ _
    · exact mul_ok _ _
theorem pw_yes (x : E) (k : Nat) (h : (decide (8 ≤ 254 - k) || 235 / 2 ^ (254 - k) % 2 == 1) = true) : pw 235 x (k + 1) = mul (sq (pw 235 x k)) x := by
  show (if (decide (8 ≤ 254 - k) || 235 / 2 ^ (254 - k) % 2 == 1) = true then mul (sq (pw 235 x k)) x else sq (pw 235 x k)) = _
  rw [if_pos h]
theorem pw_no (x : E) (k : Nat) (h : (decide (8 ≤ 254 - k) || 235 / 2 ^ (254 - k) % 2 == 1) = false) : pw 235 x (k + 1) = sq (pw 235 x k) := by
  show (if (decide (8 ≤ 254 - k) || 235 / 2 ^ (254 - k) % 2 == 1) = true then mul (sq (pw 235 x k)) x else sq (pw 235 x k)) = _
  rw [if_neg (by rw [h]; decide)]
set_option maxRecDepth 20000 in
set_option maxHeartbeats 2000000 in
theorem power_any (w : World) (x : E) (hx : x.ok) : Calls Tryz.prog 47 #[.agg (u64s x.l), .int .u64 21, .int .i64 0] w fun e w' => e = .returned (.agg (u64s (pw 235 x 255).l)) ∧ Below w.heap.size w w' := by
  have HOX := Lib.hid hx
  clear hx
  go_enter Tryz.func47, Tryz.ntmps47
  go_upto_region 1 with ((with_reducible refine gate_ ?_); refine Rg.box_fresh rfl 53 _ rfl (u64s x.l) rfl ?_; intro X hX hbX hnX; have HX := Lib.hid hX; have HBX := Lib.hid hbX; have HNX := Lib.hid hnX; clear hX hbX hnX)
  obtain ⟨xb, hxb⟩ : ∃ xb, w.heap.size = xb := ⟨_, rfl⟩
  obtain ⟨rb, hrb⟩ : ∃ rb, X.heap.size = rb := ⟨_, rfl⟩
  have HR := Lib.hid (show Row (X.alloc (.cells Z5 53)) xb 53 x.l from (hxb ▸ HX.out).alloc _)
  have HZ := Lib.hid (show Rg.Blk (X.alloc (.cells Z5 53)) rb 53 Z5 from Rg.Blk.newAt hrb.symm _ _)
  have HB := Lib.hid (show Below xb w (X.alloc (.cells Z5 53)) from hxb ▸ HBX.out.alloc HBX.out.size _)
  have HNE := Lib.hid (show xb ≠ rb ∧ xb ≤ rb from by have h1 := HX.out.lt; constructor <;> omega)
  have HXB := Lib.hid hxb
  rw [hxb, hrb, show (#[.int .u64 0, .int .u64 0, .int .u64 0, .int .u64 0, .int .u64 0] : Array Value) = Z5 from rfl]
  generalize X.alloc (.cells Z5 53) = Y at *
  clear HX HBX HNX hxb hrb
  have HR0 := HR
  go_upto_region 2 with (first
    | (go_at_call 21; refine (Small_any _ 1 (by decide)).mono ?_; rintro e w9 ⟨rfl, hb9⟩; skip; have HR9 := Lib.hid (HR.out.below hb9 HR.out.lt); have HZ9 := Lib.hid (HZ.out.below hb9 HZ.out.lt); have HB9 := Lib.hid (HB.out.trans (hb9.mono (HB.out.size_le HXB.out))); clear hb9)
    | (refine Rg.store_fresh rfl 53 _ _ rfl (u64s (small 1).l) _ 53 rfl rfl (by rw [u64s_size]; kernel_rfl) rfl (u64s_one _) ?_; intro X1 hX hbX; have HO0 := Lib.hid hX; have HB0 := Lib.hid hbX; clear hX hbX))
  obtain ⟨ob, hob⟩ : ∃ ob, w9.heap.size = ob := ⟨_, rfl⟩
  have HNO := Lib.hid (show ob ≠ xb ∧ ob ≠ rb ∧ xb ≤ ob from by have h1 := HR9.out.lt; have h2 := HZ9.out.lt; refine ⟨?_, ?_, ?_⟩ <;> omega)
  have HO := Lib.hid (show Row X1 ob 53 (small 1).l from hob ▸ HO0.out)
  clear HR HZ HB
  have HR := Lib.hid (HR9.out.below HB0.out HR9.out.lt)
  have HZ := Lib.hid (HZ9.out.below HB0.out HZ9.out.lt)
  have HB := Lib.hid (HB9.out.trans (HB0.out.mono (HB9.out.size_le HXB.out)))
  rw [hob]
  clear HR0 HR9 HZ9 HB9 HO0 HB0 hob
  go_upto_region 4 with fail
  go_loopw [9] (fun i wr => ∃ k : Nat, k ≤ 255 ∧ i = .int .i64 (254 - (k : Int)) ∧ Row wr ob 53 (pw 235 x k).l ∧ Row wr xb 53 x.l ∧ Rg.Blk wr rb 53 Z5 ∧ Below xb w wr) (fun i _ => (intOf i + 1).toNat)
  case atStart => exact ⟨0, Nat.zero_le _, rfl, HO.out, HR.out, HZ.out, HB.out⟩
  case round =>
    obtain ⟨k, hk, rfl, ho, hr, hz, hb⟩ := hrel
    clear HO HR HZ HB
    have HO := Lib.hid ho
    have HR := Lib.hid hr
    have HZ := Lib.hid hz
    have HB := Lib.hid hb
    clear ho hr hz hb
    have HOK := Lib.hid (pw_ok 235 x k)
    by_cases hk5 : k < 255
    · have hd : decide ((0 : Int) ≤ 254 - (k : Int)) = true := by simp; omega
      have hd0 : (0 : Int) ≤ 254 - (k : Int) := by omega
      have HYS := Lib.hid (pw_yes x k)
      have HNS := Lib.hid (pw_no x k)
      obtain ⟨y, hy⟩ : ∃ y, pw 235 x k = y := ⟨_, rfl⟩
      rw [hy] at HO HOK HYS HNS
      clear hy
      go_upto_region 7 with (first
        | ((with_reducible refine gate_ ?_); refine Cv.load_cells rfl 53 _ rfl ob 0 rfl (u64s y.l) _ (fun j v hv => by rw [Nat.zero_add]; exact Rg.Blk.cell (row_blk HO.out) j hv) Tryz.underlying53 rfl (by rw [u64s_size]; kernel_rfl) ?_; skip)
        | (go_at_call 42; refine (Square_any _ y HOK.out).mono ?_; rintro e w9 ⟨rfl, hb9⟩; skip; have HO9 := Lib.hid (HO.out.below hb9 HO.out.lt); have HR9 := Lib.hid (HR.out.below hb9 HR.out.lt); have HZ9 := Lib.hid (HZ.out.below hb9 HZ.out.lt); have HB9 := Lib.hid (HB.out.trans (hb9.mono (HB.out.size_le HXB.out))); clear hb9 HO HR HZ HB)
        | ((with_reducible refine gate_ ?_); refine Cv.store_blk rfl 53 _ _ rfl ob (u64s (sq y).l) (u64s y.l) 53 rfl rfl (row_blk HO9.out) (by rw [u64s_size]; kernel_rfl) (by rw [u64s_size]; first | rfl | rw [u64s_size]) (u64s_one _) ?_; intro V3 hV hgV; have HO := Lib.hid (show Row V3 ob 53 (sq y).l from hV); have HR := Lib.hid (row_other HR9.out hgV HNO.out.1); have HZ := Lib.hid (blk_other HZ9.out hgV HNO.out.2.1); have HB := Lib.hid (HB9.out.grown hgV (HB9.out.size_le HXB.out) (fun j e => by cases e; exact HNO.out.2.2)); clear hV hgV))
      clear HO9 HR9 HZ9 HB9
      by_cases h8 : k ≤ 246
      · have hd8 : decide ((8 : Int) ≤ 254 - (k : Int)) = true := by simp; omega
        have hd9 : (8 : Int) ≤ 254 - (k : Int) := by omega
        have HST := Lib.hid (HYS.out (by rw [Bool.or_eq_true]; left; simp; omega))
        go_wp2_with (first
          | ((with_reducible refine gate_ ?_); refine Cv.load_cells rfl 53 _ rfl ob 0 rfl (u64s (sq y).l) _ (fun j v hv => by rw [Nat.zero_add]; exact Rg.Blk.cell (row_blk HO.out) j hv) Tryz.underlying53 rfl (by rw [u64s_size]; kernel_rfl) ?_; skip)
          | ((with_reducible refine gate_ ?_); refine Cv.load_cells rfl 53 _ rfl xb 0 rfl (u64s x.l) _ (fun j v hv => by rw [Nat.zero_add]; exact Rg.Blk.cell (row_blk HR.out) j hv) Tryz.underlying53 rfl (by rw [u64s_size]; kernel_rfl) ?_; skip)
          | (go_at_call 24; refine (Mul_any _ (sq y) x (mul_ok y y) HOX.out).mono ?_; rintro e w9 ⟨rfl, hb9⟩; skip; have HO9 := Lib.hid (HO.out.below hb9 HO.out.lt); have HR9 := Lib.hid (HR.out.below hb9 HR.out.lt); have HZ9 := Lib.hid (HZ.out.below hb9 HZ.out.lt); have HB9 := Lib.hid (HB.out.trans (hb9.mono (HB.out.size_le HXB.out))); clear hb9 HO HR HZ HB)
          | ((with_reducible refine gate_ ?_); refine Cv.store_blk rfl 53 _ _ rfl ob (u64s (mul (sq y) x).l) (u64s (sq y).l) 53 rfl rfl (row_blk HO9.out) (by rw [u64s_size]; kernel_rfl) (by rw [u64s_size]; first | rfl | rw [u64s_size]) (u64s_one _) ?_; intro V4 hV hgV; have HO := Lib.hid (show Row V4 ob 53 (mul (sq y) x).l from hV); have HR := Lib.hid (row_other HR9.out hgV HNO.out.1); have HZ := Lib.hid (blk_other HZ9.out hgV HNO.out.2.1); have HB := Lib.hid (HB9.out.grown hgV (HB9.out.size_le HXB.out) (fun j e => by cases e; exact HNO.out.2.2)); clear hV hgV))
        go_roundw
        case rel =>
          have REL := Lib.hid (show ∃ k' : Nat, k' ≤ 255 ∧ Value.int .i64 (254 - (k : Int) - 1) = .int .i64 (254 - (k' : Int)) ∧ Row V4 ob 53 (pw 235 x k').l ∧ Row V4 xb 53 x.l ∧ Rg.Blk V4 rb 53 Z5 ∧ Below xb w V4 from ⟨k + 1, hk5, congrArg _ (by omega), by rw [HST.out]; exact HO.out, HR.out, HZ.out, HB.out⟩)
          first
            | exact REL.out
            | ((repeat apply Exists.intro); refine ⟨?_, rfl⟩; exact REL.out)
        case measure => (first | (simp [intOf]; done) | (simp [intOf]; omega))
      · have h9 : k = 247 ∨ k = 248 ∨ k = 249 ∨ k = 250 ∨ k = 251 ∨ k = 252 ∨ k = 253 ∨ k = 254 := by omega
        clear hd hd0 h8
        rcases h9 with h9 | h9 | h9 | h9 | h9 | h9 | h9 | h9
        · have HST := Lib.hid (HYS.out (by rw [h9]; decide))
          have hat : (254 : Int) - (k : Int) = 7 := by omega
          rw [hat]
          clear hat HYS HNS
          go_wp2_with (first
            | ((with_reducible refine gate_ ?_); refine Cv.load_cells rfl 53 _ rfl ob 0 rfl (u64s (sq y).l) _ (fun j v hv => by rw [Nat.zero_add]; exact Rg.Blk.cell (row_blk HO.out) j hv) Tryz.underlying53 rfl (by rw [u64s_size]; kernel_rfl) ?_; skip)
            | ((with_reducible refine gate_ ?_); refine Cv.load_cells rfl 53 _ rfl xb 0 rfl (u64s x.l) _ (fun j v hv => by rw [Nat.zero_add]; exact Rg.Blk.cell (row_blk HR.out) j hv) Tryz.underlying53 rfl (by rw [u64s_size]; kernel_rfl) ?_; skip)
            | (go_at_call 24; refine (Mul_any _ (sq y) x (mul_ok y y) HOX.out).mono ?_; rintro e w9 ⟨rfl, hb9⟩; skip; have HO9 := Lib.hid (HO.out.below hb9 HO.out.lt); have HR9 := Lib.hid (HR.out.below hb9 HR.out.lt); have HZ9 := Lib.hid (HZ.out.below hb9 HZ.out.lt); have HB9 := Lib.hid (HB.out.trans (hb9.mono (HB.out.size_le HXB.out))); clear hb9 HO HR HZ HB)
            | ((with_reducible refine gate_ ?_); refine Cv.store_blk rfl 53 _ _ rfl ob (u64s (mul (sq y) x).l) (u64s (sq y).l) 53 rfl rfl (row_blk HO9.out) (by rw [u64s_size]; kernel_rfl) (by rw [u64s_size]; first | rfl | rw [u64s_size]) (u64s_one _) ?_; intro V4 hV hgV; have HO := Lib.hid (show Row V4 ob 53 (mul (sq y) x).l from hV); have HR := Lib.hid (row_other HR9.out hgV HNO.out.1); have HZ := Lib.hid (blk_other HZ9.out hgV HNO.out.2.1); have HB := Lib.hid (HB9.out.grown hgV (HB9.out.size_le HXB.out) (fun j e => by cases e; exact HNO.out.2.2)); clear hV hgV))
          go_roundw
          case rel =>
            have REL := Lib.hid (show ∃ k' : Nat, k' ≤ 255 ∧ Value.int .i64 ((6 : Int)) = .int .i64 (254 - (k' : Int)) ∧ Row V4 ob 53 (pw 235 x k').l ∧ Row V4 xb 53 x.l ∧ Rg.Blk V4 rb 53 Z5 ∧ Below xb w V4 from ⟨k + 1, hk5, congrArg _ (by omega), by rw [HST.out]; exact HO.out, HR.out, HZ.out, HB.out⟩)
            first
              | exact REL.out
              | ((repeat apply Exists.intro); refine ⟨?_, rfl⟩; exact REL.out)
          case measure => (first | (simp [intOf]; done) | (simp [intOf]; omega))
        · have HST := Lib.hid (HYS.out (by rw [h9]; decide))
          have hat : (254 : Int) - (k : Int) = 6 := by omega
          rw [hat]
          clear hat HYS HNS
          go_wp2_with (first
            | ((with_reducible refine gate_ ?_); refine Cv.load_cells rfl 53 _ rfl ob 0 rfl (u64s (sq y).l) _ (fun j v hv => by rw [Nat.zero_add]; exact Rg.Blk.cell (row_blk HO.out) j hv) Tryz.underlying53 rfl (by rw [u64s_size]; kernel_rfl) ?_; skip)
            | ((with_reducible refine gate_ ?_); refine Cv.load_cells rfl 53 _ rfl xb 0 rfl (u64s x.l) _ (fun j v hv => by rw [Nat.zero_add]; exact Rg.Blk.cell (row_blk HR.out) j hv) Tryz.underlying53 rfl (by rw [u64s_size]; kernel_rfl) ?_; skip)
            | (go_at_call 24; refine (Mul_any _ (sq y) x (mul_ok y y) HOX.out).mono ?_; rintro e w9 ⟨rfl, hb9⟩; skip; have HO9 := Lib.hid (HO.out.below hb9 HO.out.lt); have HR9 := Lib.hid (HR.out.below hb9 HR.out.lt); have HZ9 := Lib.hid (HZ.out.below hb9 HZ.out.lt); have HB9 := Lib.hid (HB.out.trans (hb9.mono (HB.out.size_le HXB.out))); clear hb9 HO HR HZ HB)
            | ((with_reducible refine gate_ ?_); refine Cv.store_blk rfl 53 _ _ rfl ob (u64s (mul (sq y) x).l) (u64s (sq y).l) 53 rfl rfl (row_blk HO9.out) (by rw [u64s_size]; kernel_rfl) (by rw [u64s_size]; first | rfl | rw [u64s_size]) (u64s_one _) ?_; intro V4 hV hgV; have HO := Lib.hid (show Row V4 ob 53 (mul (sq y) x).l from hV); have HR := Lib.hid (row_other HR9.out hgV HNO.out.1); have HZ := Lib.hid (blk_other HZ9.out hgV HNO.out.2.1); have HB := Lib.hid (HB9.out.grown hgV (HB9.out.size_le HXB.out) (fun j e => by cases e; exact HNO.out.2.2)); clear hV hgV))
          go_roundw
          case rel =>
            have REL := Lib.hid (show ∃ k' : Nat, k' ≤ 255 ∧ Value.int .i64 ((5 : Int)) = .int .i64 (254 - (k' : Int)) ∧ Row V4 ob 53 (pw 235 x k').l ∧ Row V4 xb 53 x.l ∧ Rg.Blk V4 rb 53 Z5 ∧ Below xb w V4 from ⟨k + 1, hk5, congrArg _ (by omega), by rw [HST.out]; exact HO.out, HR.out, HZ.out, HB.out⟩)
            first
              | exact REL.out
              | ((repeat apply Exists.intro); refine ⟨?_, rfl⟩; exact REL.out)
          case measure => (first | (simp [intOf]; done) | (simp [intOf]; omega))
        · have HST := Lib.hid (HYS.out (by rw [h9]; decide))
          have hat : (254 : Int) - (k : Int) = 5 := by omega
          rw [hat]
          clear hat HYS HNS
          go_wp2_with (first
            | ((with_reducible refine gate_ ?_); refine Cv.load_cells rfl 53 _ rfl ob 0 rfl (u64s (sq y).l) _ (fun j v hv => by rw [Nat.zero_add]; exact Rg.Blk.cell (row_blk HO.out) j hv) Tryz.underlying53 rfl (by rw [u64s_size]; kernel_rfl) ?_; skip)
            | ((with_reducible refine gate_ ?_); refine Cv.load_cells rfl 53 _ rfl xb 0 rfl (u64s x.l) _ (fun j v hv => by rw [Nat.zero_add]; exact Rg.Blk.cell (row_blk HR.out) j hv) Tryz.underlying53 rfl (by rw [u64s_size]; kernel_rfl) ?_; skip)
            | (go_at_call 24; refine (Mul_any _ (sq y) x (mul_ok y y) HOX.out).mono ?_; rintro e w9 ⟨rfl, hb9⟩; skip; have HO9 := Lib.hid (HO.out.below hb9 HO.out.lt); have HR9 := Lib.hid (HR.out.below hb9 HR.out.lt); have HZ9 := Lib.hid (HZ.out.below hb9 HZ.out.lt); have HB9 := Lib.hid (HB.out.trans (hb9.mono (HB.out.size_le HXB.out))); clear hb9 HO HR HZ HB)
            | ((with_reducible refine gate_ ?_); refine Cv.store_blk rfl 53 _ _ rfl ob (u64s (mul (sq y) x).l) (u64s (sq y).l) 53 rfl rfl (row_blk HO9.out) (by rw [u64s_size]; kernel_rfl) (by rw [u64s_size]; first | rfl | rw [u64s_size]) (u64s_one _) ?_; intro V4 hV hgV; have HO := Lib.hid (show Row V4 ob 53 (mul (sq y) x).l from hV); have HR := Lib.hid (row_other HR9.out hgV HNO.out.1); have HZ := Lib.hid (blk_other HZ9.out hgV HNO.out.2.1); have HB := Lib.hid (HB9.out.grown hgV (HB9.out.size_le HXB.out) (fun j e => by cases e; exact HNO.out.2.2)); clear hV hgV))
          go_roundw
          case rel =>
            have REL := Lib.hid (show ∃ k' : Nat, k' ≤ 255 ∧ Value.int .i64 ((4 : Int)) = .int .i64 (254 - (k' : Int)) ∧ Row V4 ob 53 (pw 235 x k').l ∧ Row V4 xb 53 x.l ∧ Rg.Blk V4 rb 53 Z5 ∧ Below xb w V4 from ⟨k + 1, hk5, congrArg _ (by omega), by rw [HST.out]; exact HO.out, HR.out, HZ.out, HB.out⟩)
            first
              | exact REL.out
              | ((repeat apply Exists.intro); refine ⟨?_, rfl⟩; exact REL.out)
          case measure => (first | (simp [intOf]; done) | (simp [intOf]; omega))
        · have HST := Lib.hid (HNS.out (by rw [h9]; decide))
          have hat : (254 : Int) - (k : Int) = 4 := by omega
          rw [hat]
          clear hat HYS HNS
          go_wp2
          go_roundw
          case rel =>
            have REL := Lib.hid (show ∃ k' : Nat, k' ≤ 255 ∧ Value.int .i64 ((3 : Int)) = .int .i64 (254 - (k' : Int)) ∧ Row V3 ob 53 (pw 235 x k').l ∧ Row V3 xb 53 x.l ∧ Rg.Blk V3 rb 53 Z5 ∧ Below xb w V3 from ⟨k + 1, hk5, congrArg _ (by omega), by rw [HST.out]; exact HO.out, HR.out, HZ.out, HB.out⟩)
            first
              | exact REL.out
              | ((repeat apply Exists.intro); refine ⟨?_, rfl⟩; exact REL.out)
          case measure => (first | (simp [intOf]; done) | (simp [intOf]; omega))
        · have HST := Lib.hid (HYS.out (by rw [h9]; decide))
          have hat : (254 : Int) - (k : Int) = 3 := by omega
          rw [hat]
          clear hat HYS HNS
          go_wp2_with (first
            | ((with_reducible refine gate_ ?_); refine Cv.load_cells rfl 53 _ rfl ob 0 rfl (u64s (sq y).l) _ (fun j v hv => by rw [Nat.zero_add]; exact Rg.Blk.cell (row_blk HO.out) j hv) Tryz.underlying53 rfl (by rw [u64s_size]; kernel_rfl) ?_; skip)
            | ((with_reducible refine gate_ ?_); refine Cv.load_cells rfl 53 _ rfl xb 0 rfl (u64s x.l) _ (fun j v hv => by rw [Nat.zero_add]; exact Rg.Blk.cell (row_blk HR.out) j hv) Tryz.underlying53 rfl (by rw [u64s_size]; kernel_rfl) ?_; skip)
            | (go_at_call 24; refine (Mul_any _ (sq y) x (mul_ok y y) HOX.out).mono ?_; rintro e w9 ⟨rfl, hb9⟩; skip; have HO9 := Lib.hid (HO.out.below hb9 HO.out.lt); have HR9 := Lib.hid (HR.out.below hb9 HR.out.lt); have HZ9 := Lib.hid (HZ.out.below hb9 HZ.out.lt); have HB9 := Lib.hid (HB.out.trans (hb9.mono (HB.out.size_le HXB.out))); clear hb9 HO HR HZ HB)
            | ((with_reducible refine gate_ ?_); refine Cv.store_blk rfl 53 _ _ rfl ob (u64s (mul (sq y) x).l) (u64s (sq y).l) 53 rfl rfl (row_blk HO9.out) (by rw [u64s_size]; kernel_rfl) (by rw [u64s_size]; first | rfl | rw [u64s_size]) (u64s_one _) ?_; intro V4 hV hgV; have HO := Lib.hid (show Row V4 ob 53 (mul (sq y) x).l from hV); have HR := Lib.hid (row_other HR9.out hgV HNO.out.1); have HZ := Lib.hid (blk_other HZ9.out hgV HNO.out.2.1); have HB := Lib.hid (HB9.out.grown hgV (HB9.out.size_le HXB.out) (fun j e => by cases e; exact HNO.out.2.2)); clear hV hgV))
          go_roundw
          case rel =>
            have REL := Lib.hid (show ∃ k' : Nat, k' ≤ 255 ∧ Value.int .i64 ((2 : Int)) = .int .i64 (254 - (k' : Int)) ∧ Row V4 ob 53 (pw 235 x k').l ∧ Row V4 xb 53 x.l ∧ Rg.Blk V4 rb 53 Z5 ∧ Below xb w V4 from ⟨k + 1, hk5, congrArg _ (by omega), by rw [HST.out]; exact HO.out, HR.out, HZ.out, HB.out⟩)
            first
              | exact REL.out
              | ((repeat apply Exists.intro); refine ⟨?_, rfl⟩; exact REL.out)
          case measure => (first | (simp [intOf]; done) | (simp [intOf]; omega))
        · have HST := Lib.hid (HNS.out (by rw [h9]; decide))
          have hat : (254 : Int) - (k : Int) = 2 := by omega
          rw [hat]
          clear hat HYS HNS
          go_wp2
          go_roundw
          case rel =>
            have REL := Lib.hid (show ∃ k' : Nat, k' ≤ 255 ∧ Value.int .i64 ((1 : Int)) = .int .i64 (254 - (k' : Int)) ∧ Row V3 ob 53 (pw 235 x k').l ∧ Row V3 xb 53 x.l ∧ Rg.Blk V3 rb 53 Z5 ∧ Below xb w V3 from ⟨k + 1, hk5, congrArg _ (by omega), by rw [HST.out]; exact HO.out, HR.out, HZ.out, HB.out⟩)
            first
              | exact REL.out
              | ((repeat apply Exists.intro); refine ⟨?_, rfl⟩; exact REL.out)
          case measure => (first | (simp [intOf]; done) | (simp [intOf]; omega))
        · have HST := Lib.hid (HYS.out (by rw [h9]; decide))
          have hat : (254 : Int) - (k : Int) = 1 := by omega
          rw [hat]
          clear hat HYS HNS
          go_wp2_with (first
            | ((with_reducible refine gate_ ?_); refine Cv.load_cells rfl 53 _ rfl ob 0 rfl (u64s (sq y).l) _ (fun j v hv => by rw [Nat.zero_add]; exact Rg.Blk.cell (row_blk HO.out) j hv) Tryz.underlying53 rfl (by rw [u64s_size]; kernel_rfl) ?_; skip)
            | ((with_reducible refine gate_ ?_); refine Cv.load_cells rfl 53 _ rfl xb 0 rfl (u64s x.l) _ (fun j v hv => by rw [Nat.zero_add]; exact Rg.Blk.cell (row_blk HR.out) j hv) Tryz.underlying53 rfl (by rw [u64s_size]; kernel_rfl) ?_; skip)
            | (go_at_call 24; refine (Mul_any _ (sq y) x (mul_ok y y) HOX.out).mono ?_; rintro e w9 ⟨rfl, hb9⟩; skip; have HO9 := Lib.hid (HO.out.below hb9 HO.out.lt); have HR9 := Lib.hid (HR.out.below hb9 HR.out.lt); have HZ9 := Lib.hid (HZ.out.below hb9 HZ.out.lt); have HB9 := Lib.hid (HB.out.trans (hb9.mono (HB.out.size_le HXB.out))); clear hb9 HO HR HZ HB)
            | ((with_reducible refine gate_ ?_); refine Cv.store_blk rfl 53 _ _ rfl ob (u64s (mul (sq y) x).l) (u64s (sq y).l) 53 rfl rfl (row_blk HO9.out) (by rw [u64s_size]; kernel_rfl) (by rw [u64s_size]; first | rfl | rw [u64s_size]) (u64s_one _) ?_; intro V4 hV hgV; have HO := Lib.hid (show Row V4 ob 53 (mul (sq y) x).l from hV); have HR := Lib.hid (row_other HR9.out hgV HNO.out.1); have HZ := Lib.hid (blk_other HZ9.out hgV HNO.out.2.1); have HB := Lib.hid (HB9.out.grown hgV (HB9.out.size_le HXB.out) (fun j e => by cases e; exact HNO.out.2.2)); clear hV hgV))
          go_roundw
          case rel =>
            have REL := Lib.hid (show ∃ k' : Nat, k' ≤ 255 ∧ Value.int .i64 ((0 : Int)) = .int .i64 (254 - (k' : Int)) ∧ Row V4 ob 53 (pw 235 x k').l ∧ Row V4 xb 53 x.l ∧ Rg.Blk V4 rb 53 Z5 ∧ Below xb w V4 from ⟨k + 1, hk5, congrArg _ (by omega), by rw [HST.out]; exact HO.out, HR.out, HZ.out, HB.out⟩)
            first
              | exact REL.out
              | ((repeat apply Exists.intro); refine ⟨?_, rfl⟩; exact REL.out)
          case measure => (first | (simp [intOf]; done) | (simp [intOf]; omega))
        · have HST := Lib.hid (HYS.out (by rw [h9]; decide))
          have hat : (254 : Int) - (k : Int) = 0 := by omega
          rw [hat]
          clear hat HYS HNS
          go_wp2_with (first
            | ((with_reducible refine gate_ ?_); refine Cv.load_cells rfl 53 _ rfl ob 0 rfl (u64s (sq y).l) _ (fun j v hv => by rw [Nat.zero_add]; exact Rg.Blk.cell (row_blk HO.out) j hv) Tryz.underlying53 rfl (by rw [u64s_size]; kernel_rfl) ?_; skip)
            | ((with_reducible refine gate_ ?_); refine Cv.load_cells rfl 53 _ rfl xb 0 rfl (u64s x.l) _ (fun j v hv => by rw [Nat.zero_add]; exact Rg.Blk.cell (row_blk HR.out) j hv) Tryz.underlying53 rfl (by rw [u64s_size]; kernel_rfl) ?_; skip)
            | (go_at_call 24; refine (Mul_any _ (sq y) x (mul_ok y y) HOX.out).mono ?_; rintro e w9 ⟨rfl, hb9⟩; skip; have HO9 := Lib.hid (HO.out.below hb9 HO.out.lt); have HR9 := Lib.hid (HR.out.below hb9 HR.out.lt); have HZ9 := Lib.hid (HZ.out.below hb9 HZ.out.lt); have HB9 := Lib.hid (HB.out.trans (hb9.mono (HB.out.size_le HXB.out))); clear hb9 HO HR HZ HB)
            | ((with_reducible refine gate_ ?_); refine Cv.store_blk rfl 53 _ _ rfl ob (u64s (mul (sq y) x).l) (u64s (sq y).l) 53 rfl rfl (row_blk HO9.out) (by rw [u64s_size]; kernel_rfl) (by rw [u64s_size]; first | rfl | rw [u64s_size]) (u64s_one _) ?_; intro V4 hV hgV; have HO := Lib.hid (show Row V4 ob 53 (mul (sq y) x).l from hV); have HR := Lib.hid (row_other HR9.out hgV HNO.out.1); have HZ := Lib.hid (blk_other HZ9.out hgV HNO.out.2.1); have HB := Lib.hid (HB9.out.grown hgV (HB9.out.size_le HXB.out) (fun j e => by cases e; exact HNO.out.2.2)); clear hV hgV))
          go_roundw
          case rel =>
            have REL := Lib.hid (show ∃ k' : Nat, k' ≤ 255 ∧ Value.int .i64 ((-1 : Int)) = .int .i64 (254 - (k' : Int)) ∧ Row V4 ob 53 (pw 235 x k').l ∧ Row V4 xb 53 x.l ∧ Rg.Blk V4 rb 53 Z5 ∧ Below xb w V4 from ⟨k + 1, hk5, congrArg _ (by omega), by rw [HST.out]; exact HO.out, HR.out, HZ.out, HB.out⟩)
            first
              | exact REL.out
              | ((repeat apply Exists.intro); refine ⟨?_, rfl⟩; exact REL.out)
          case measure => (first | (simp [intOf]; done) | (simp [intOf]; omega))
    · obtain rfl : k = 255 := by omega
      have hd : decide ((0 : Int) ≤ 254 - ((255 : Nat) : Int)) = false := by simp
      go_wp2_with (first
        | ((with_reducible refine gate_ ?_); refine Cv.load_cells rfl 53 _ rfl ob 0 rfl (u64s (pw 235 x 255).l) _ (fun j v hv => by rw [Nat.zero_add]; exact Rg.Blk.cell (row_blk HO.out) j hv) Tryz.underlying53 rfl (by rw [u64s_size]; kernel_rfl) ?_; skip)
        | ((with_reducible refine gate_ ?_); refine Cv.store_blk rfl 53 _ _ rfl rb (u64s (pw 235 x 255).l) Z5 53 rfl rfl HZ.out (by rw [u64s_size]; kernel_rfl) (by rw [u64s_size]; first | rfl | rw [u64s_size]) (u64s_one _) ?_; intro V3 hV hgV; have HZZ := Lib.hid hV; have HBZ := Lib.hid (HB.out.grown hgV (HB.out.size_le HXB.out) (fun j e => by cases e; exact HNE.out.2)); clear hV hgV))
      refine bodyPost_ret (v := .agg (u64s (pw 235 x 255).l))
        (results_cell_row Tryz.results47 _ _ rb 53 _ (0, 0) _ rfl HZZ.out Tryz.underlying53 rfl (by rw [u64s_size]; kernel_rfl)) rfl ?_
      exact ⟨rfl, HXB.out ▸ HBZ.out⟩
end Go.Proofs.YtfaeigbfnjkojaaGreatDoor.Kx
