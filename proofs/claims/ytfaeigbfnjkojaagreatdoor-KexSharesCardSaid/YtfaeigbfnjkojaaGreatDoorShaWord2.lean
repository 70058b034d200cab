/- The functions of sha2 on words, those that call. -/
import Derived.Test.YtfaeigbfnjkojaaGreatDoorShaWord
set_option linter.unusedVariables false
set_option linter.unusedSimpArgs false
namespace Go.Proofs.YtfaeigbfnjkojaaGreatDoor.Sha
open Go.RowKit
theorem xor_rot (W x a b : Nat) (hW : W = 32 ∨ W = 64) : bits .xor .u64 (rot W x a : Int) (rot W x b : Int) = ((rot W x a ^^^ rot W x b : Nat) : Int) := by
  have h : 2 ^ W ≤ 18446744073709551616 := by rcases hW with rfl | rfl <;> decide
  exact u64_xor_nat _ _ (Nat.lt_of_lt_of_le (rot_lt _ _ _) h) (Nat.lt_of_lt_of_le (rot_lt _ _ _) h)
theorem xor_rot2_lt (W x a b : Nat) : rot W x a ^^^ rot W x b < 2 ^ W := Nat.xor_lt_two_pow (rot_lt _ _ _) (rot_lt _ _ _)
theorem xor_three (W x a b c : Nat) (hW : W = 32 ∨ W = 64) : bits .xor .u64 ((rot W x a ^^^ rot W x b : Nat) : Int) (rot W x c : Int) = ((three W x a b c : Nat) : Int) := by
  have h : 2 ^ W ≤ 18446744073709551616 := by rcases hW with rfl | rfl <;> decide
  exact u64_xor_nat _ _ (Nat.lt_of_lt_of_le (xor_rot2_lt _ _ _ _) h) (Nat.lt_of_lt_of_le (rot_lt _ _ _) h)
theorem xor_threeS (W x a b c : Nat) (hW : W = 32 ∨ W = 64) (hx : x < 2 ^ W) : bits .xor .u64 ((rot W x a ^^^ rot W x b : Nat) : Int) ((x / 2 ^ c : Nat) : Int) = ((threeS W x a b c : Nat) : Int) := by
  have h : 2 ^ W ≤ 18446744073709551616 := by rcases hW with rfl | rfl <;> decide
  exact u64_xor_nat _ _ (Nat.lt_of_lt_of_le (xor_rot2_lt _ _ _ _) h) (Nat.lt_of_lt_of_le (Nat.lt_of_le_of_lt (Nat.div_le_self x _) hx) h)

theorem small256_any (w : World) (x : Nat) (a b c : Int) (hx : x < 4294967296) (ha : 0 < a) (ha2 : a < 32) (hb : 0 < b) (hb2 : b < 32) (hc : 0 ≤ c) (hc2 : c < 64) : Calls Tryz.prog 97 #[K256, .int .u64 x, .agg #[.int .i64 a, .int .i64 b, .int .i64 c]] w fun e w' => e = .returned (.int .u64 (threeS 32 x a.toNat b.toNat c.toNat : Nat)) ∧ Below w.heap.size w w' := by
  unfold K256
  have hm : min c.toNat 64 = c.toNat := by omega
  go_enter Tryz.func97, Tryz.ntmps97
  go_wp2_with fail
  generalize hW : World.alloc (World.alloc w _) _ = W
  have L := Rg.Later.cellOf (B := w.heap.size + 2) hW
  have hB : w.heap.size + 2 ≤ W.heap.size := by subst hW; simp
  have hBW : Below w.heap.size w W := by subst hW; exact ((Below.refl _ _).alloc (Nat.le_refl _) _).alloc (by simp) _
  have HK := Lib.hid (show Rg.Blk W w.heap.size 102 k256c by subst hW; exact (Rg.Blk.new _ _ _).alloc _)
  clear hW
  refine Rg.wp_region_later_all (w.heap.size + 2) (by kernel_rfl) (by kernel_rfl) ?_
  repeat (first | (go_big_quiet_want; refine Rg.quiet_load_row 102 _ rfl _ rfl _ _ _ (HK.out.later (by omega)) Tryz.underlying102 rfl (by kernel_rfl) ?_; simp only [Act.put, List.setIfInBounds_toArray, List.set_cons_succ, List.set_cons_zero]; go_big_quiet_on) | go_big_quiet_step (exact Rg.later_of hB (turn256_int _ _ _ hx (by assumption) (by assumption))))
  refine wpQuiet_nil ?_
  rintro _ ⟨s, rfl⟩
  go_wp2
  go_ret
  have hb : Below w.heap.size w s.val := hBW.trans (s.is.mono (by omega))
  refine ⟨?_, hb⟩
  show Ending.returned (.int .u64 (bits .xor .u64 (bits .xor .u64 (rot 32 x a.toNat : Int) (rot 32 x b.toNat : Int)) ((x : Int) / 2 ^ c.toNat))) = _
  rw [xor_rot 32 x _ _ (by decide), show (x : Int) / 2 ^ c.toNat = ((x / 2 ^ c.toNat : Nat) : Int) by rw [Int.natCast_ediv, Int.natCast_pow]; rfl, xor_threeS 32 x _ _ _ (by decide) hx]

theorem large256_any (w : World) (x : Nat) (a b c : Int) (hx : x < 4294967296) (ha : 0 < a) (ha2 : a < 32) (hb : 0 < b) (hb2 : b < 32) (hc : 0 < c) (hc2 : c < 32) : Calls Tryz.prog 87 #[K256, .int .u64 x, .agg #[.int .i64 a, .int .i64 b, .int .i64 c]] w fun e w' => e = .returned (.int .u64 (three 32 x a.toNat b.toNat c.toNat : Nat)) ∧ Below w.heap.size w w' := by
  unfold K256
  have hm : min c.toNat 64 = c.toNat := by omega
  go_enter Tryz.func87, Tryz.ntmps87
  go_wp2_with fail
  generalize hW : World.alloc (World.alloc w _) _ = W
  have L := Rg.Later.cellOf (B := w.heap.size + 2) hW
  have hB : w.heap.size + 2 ≤ W.heap.size := by subst hW; simp
  have hBW : Below w.heap.size w W := by subst hW; exact ((Below.refl _ _).alloc (Nat.le_refl _) _).alloc (by simp) _
  have HK := Lib.hid (show Rg.Blk W w.heap.size 102 k256c by subst hW; exact (Rg.Blk.new _ _ _).alloc _)
  clear hW
  refine Rg.wp_region_later_all (w.heap.size + 2) (by kernel_rfl) (by kernel_rfl) ?_
  repeat (first | (go_big_quiet_want; refine Rg.quiet_load_row 102 _ rfl _ rfl _ _ _ (HK.out.later (by omega)) Tryz.underlying102 rfl (by kernel_rfl) ?_; simp only [Act.put, List.setIfInBounds_toArray, List.set_cons_succ, List.set_cons_zero]; go_big_quiet_on) | go_big_quiet_step (exact Rg.later_of hB (turn256_int _ _ _ hx (by assumption) (by assumption))))
  refine wpQuiet_nil ?_
  rintro _ ⟨s, rfl⟩
  go_wp2
  go_ret
  have hb : Below w.heap.size w s.val := hBW.trans (s.is.mono (by omega))
  refine ⟨?_, hb⟩
  show Ending.returned (.int .u64 (bits .xor .u64 (bits .xor .u64 (rot 32 x a.toNat : Int) (rot 32 x b.toNat : Int)) (rot 32 x c.toNat : Int))) = _
  rw [xor_rot 32 x _ _ (by decide), xor_three 32 x _ _ _ (by decide)]

theorem small512_any (w : World) (x : Nat) (a b c : Int) (hx : x < 18446744073709551616) (ha : 0 < a) (ha2 : a < 64) (hb : 0 < b) (hb2 : b < 64) (hc : 0 ≤ c) (hc2 : c < 64) : Calls Tryz.prog 97 #[K512, .int .u64 x, .agg #[.int .i64 a, .int .i64 b, .int .i64 c]] w fun e w' => e = .returned (.int .u64 (threeS 64 x a.toNat b.toNat c.toNat : Nat)) ∧ Below w.heap.size w w' := by
  unfold K512
  have hm : min c.toNat 64 = c.toNat := by omega
  go_enter Tryz.func97, Tryz.ntmps97
  go_wp2_with fail
  generalize hW : World.alloc (World.alloc w _) _ = W
  have L := Rg.Later.cellOf (B := w.heap.size + 2) hW
  have hB : w.heap.size + 2 ≤ W.heap.size := by subst hW; simp
  have hBW : Below w.heap.size w W := by subst hW; exact ((Below.refl _ _).alloc (Nat.le_refl _) _).alloc (by simp) _
  have HK := Lib.hid (show Rg.Blk W w.heap.size 102 k512c by subst hW; exact (Rg.Blk.new _ _ _).alloc _)
  clear hW
  refine Rg.wp_region_later_all (w.heap.size + 2) (by kernel_rfl) (by kernel_rfl) ?_
  repeat (first | (go_big_quiet_want; refine Rg.quiet_load_row 102 _ rfl _ rfl _ _ _ (HK.out.later (by omega)) Tryz.underlying102 rfl (by kernel_rfl) ?_; simp only [Act.put, List.setIfInBounds_toArray, List.set_cons_succ, List.set_cons_zero]; go_big_quiet_on) | go_big_quiet_step (exact Rg.later_of hB (turn512_int _ _ _ hx (by assumption) (by assumption))))
  refine wpQuiet_nil ?_
  rintro _ ⟨s, rfl⟩
  go_wp2
  go_ret
  have hb : Below w.heap.size w s.val := hBW.trans (s.is.mono (by omega))
  refine ⟨?_, hb⟩
  show Ending.returned (.int .u64 (bits .xor .u64 (bits .xor .u64 (rot 64 x a.toNat : Int) (rot 64 x b.toNat : Int)) ((x : Int) / 2 ^ c.toNat))) = _
  rw [xor_rot 64 x _ _ (by decide), show (x : Int) / 2 ^ c.toNat = ((x / 2 ^ c.toNat : Nat) : Int) by rw [Int.natCast_ediv, Int.natCast_pow]; rfl, xor_threeS 64 x _ _ _ (by decide) hx]

theorem large512_any (w : World) (x : Nat) (a b c : Int) (hx : x < 18446744073709551616) (ha : 0 < a) (ha2 : a < 64) (hb : 0 < b) (hb2 : b < 64) (hc : 0 < c) (hc2 : c < 64) : Calls Tryz.prog 87 #[K512, .int .u64 x, .agg #[.int .i64 a, .int .i64 b, .int .i64 c]] w fun e w' => e = .returned (.int .u64 (three 64 x a.toNat b.toNat c.toNat : Nat)) ∧ Below w.heap.size w w' := by
  unfold K512
  have hm : min c.toNat 64 = c.toNat := by omega
  go_enter Tryz.func87, Tryz.ntmps87
  go_wp2_with fail
  generalize hW : World.alloc (World.alloc w _) _ = W
  have L := Rg.Later.cellOf (B := w.heap.size + 2) hW
  have hB : w.heap.size + 2 ≤ W.heap.size := by subst hW; simp
  have hBW : Below w.heap.size w W := by subst hW; exact ((Below.refl _ _).alloc (Nat.le_refl _) _).alloc (by simp) _
  have HK := Lib.hid (show Rg.Blk W w.heap.size 102 k512c by subst hW; exact (Rg.Blk.new _ _ _).alloc _)
  clear hW
  refine Rg.wp_region_later_all (w.heap.size + 2) (by kernel_rfl) (by kernel_rfl) ?_
  repeat (first | (go_big_quiet_want; refine Rg.quiet_load_row 102 _ rfl _ rfl _ _ _ (HK.out.later (by omega)) Tryz.underlying102 rfl (by kernel_rfl) ?_; simp only [Act.put, List.setIfInBounds_toArray, List.set_cons_succ, List.set_cons_zero]; go_big_quiet_on) | go_big_quiet_step (exact Rg.later_of hB (turn512_int _ _ _ hx (by assumption) (by assumption))))
  refine wpQuiet_nil ?_
  rintro _ ⟨s, rfl⟩
  go_wp2
  go_ret
  have hb : Below w.heap.size w s.val := hBW.trans (s.is.mono (by omega))
  refine ⟨?_, hb⟩
  show Ending.returned (.int .u64 (bits .xor .u64 (bits .xor .u64 (rot 64 x a.toNat : Int) (rot 64 x b.toNat : Int)) (rot 64 x c.toNat : Int))) = _
  rw [xor_rot 64 x _ _ (by decide), xor_three 64 x _ _ _ (by decide)]

end Go.Proofs.YtfaeigbfnjkojaaGreatDoor.Sha
