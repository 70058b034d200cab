/- The reference's functions on words, those that call; its tables. -/
import Derived.Test.YtoehmjkgjleaaaaDoorRefWord
import Derived.Great.BuildSlice
set_option linter.unusedVariables false
set_option linter.unusedSimpArgs false
namespace Go.Proofs.YtoehmjkgjleaaaaDoor.Sha
open Go.RowKit Go.Proofs.YtoehmjkgjleaaaaDoor.Cl

theorem refthreeS32 (w : World) (x : Nat) (a b c : Int) (hx : x < 4294967296) (ha : 0 < a) (ha2 : a < 32) (hb : 0 < b) (hb2 : b < 32) (hc0 : 0 < c) (hc1 : c < 32) : Calls Tryd.prog 47 #[.int .u64 x, .int .i64 a, .int .i64 b, .int .i64 c, .int .i64 32, .bool true] w fun e w' => e = .returned (.int .u64 (threeS 32 x a.toNat b.toNat c.toNat : Nat)) ∧ ∃ k, w' = w.drewN k := by
  have hm : min c.toNat 64 = c.toNat := by omega
  have hc : 0 ≤ c := by omega
  go_enter Tryd.func47, Tryd.ntmps47
  go_wp2_with (go_at_call 57; refine (refright32 _ _ _ hx (by assumption) (by assumption)).mono ?_; rintro e w1 ⟨rfl, n1, rfl⟩)
  go_ret
  refine ⟨?_, ?_⟩
  · show Ending.returned (.int .u64 (bits .xor .u64 (bits .xor .u64 (rot 32 x a.toNat : Int) (rot 32 x b.toNat : Int)) ((x : Int) / 2 ^ c.toNat))) = _
    rw [xor_rot 32 x _ _ (by decide), show (x : Int) / 2 ^ c.toNat = ((x / 2 ^ c.toNat : Nat) : Int) by rw [Int.natCast_ediv, Int.natCast_pow]; rfl, xor_threeS 32 x _ _ _ (by decide) hx]
  · first | exact ⟨_, rfl⟩ | exact ⟨_, World.drewN_drewN _ _ _⟩ | exact ⟨_, by rw [World.drewN_drewN, World.drewN_drewN]⟩

theorem refthree32 (w : World) (x : Nat) (a b c : Int) (hx : x < 4294967296) (ha : 0 < a) (ha2 : a < 32) (hb : 0 < b) (hb2 : b < 32) (hc0 : 0 < c) (hc1 : c < 32) : Calls Tryd.prog 47 #[.int .u64 x, .int .i64 a, .int .i64 b, .int .i64 c, .int .i64 32, .bool false] w fun e w' => e = .returned (.int .u64 (three 32 x a.toNat b.toNat c.toNat : Nat)) ∧ ∃ k, w' = w.drewN k := by
  have hm : min c.toNat 64 = c.toNat := by omega
  have hc : 0 ≤ c := by omega
  go_enter Tryd.func47, Tryd.ntmps47
  go_wp2_with (go_at_call 57; refine (refright32 _ _ _ hx (by assumption) (by assumption)).mono ?_; rintro e w1 ⟨rfl, n1, rfl⟩)
  go_ret
  refine ⟨?_, ?_⟩
  · show Ending.returned (.int .u64 (bits .xor .u64 (bits .xor .u64 (rot 32 x a.toNat : Int) (rot 32 x b.toNat : Int)) (rot 32 x c.toNat : Int))) = _
    rw [xor_rot 32 x _ _ (by decide), xor_three 32 x _ _ _ (by decide)]
  · first | exact ⟨_, rfl⟩ | exact ⟨_, World.drewN_drewN _ _ _⟩ | exact ⟨_, by rw [World.drewN_drewN, World.drewN_drewN]⟩

theorem refthreeS64 (w : World) (x : Nat) (a b c : Int) (hx : x < 18446744073709551616) (ha : 0 < a) (ha2 : a < 64) (hb : 0 < b) (hb2 : b < 64) (hc0 : 0 < c) (hc1 : c < 64) : Calls Tryd.prog 47 #[.int .u64 x, .int .i64 a, .int .i64 b, .int .i64 c, .int .i64 64, .bool true] w fun e w' => e = .returned (.int .u64 (threeS 64 x a.toNat b.toNat c.toNat : Nat)) ∧ ∃ k, w' = w.drewN k := by
  have hm : min c.toNat 64 = c.toNat := by omega
  have hc : 0 ≤ c := by omega
  go_enter Tryd.func47, Tryd.ntmps47
  go_wp2_with (go_at_call 57; refine (refright64 _ _ _ hx (by assumption) (by assumption)).mono ?_; rintro e w1 ⟨rfl, n1, rfl⟩)
  go_ret
  refine ⟨?_, ?_⟩
  · show Ending.returned (.int .u64 (bits .xor .u64 (bits .xor .u64 (rot 64 x a.toNat : Int) (rot 64 x b.toNat : Int)) ((x : Int) / 2 ^ c.toNat))) = _
    rw [xor_rot 64 x _ _ (by decide), show (x : Int) / 2 ^ c.toNat = ((x / 2 ^ c.toNat : Nat) : Int) by rw [Int.natCast_ediv, Int.natCast_pow]; rfl, xor_threeS 64 x _ _ _ (by decide) hx]
  · first | exact ⟨_, rfl⟩ | exact ⟨_, World.drewN_drewN _ _ _⟩ | exact ⟨_, by rw [World.drewN_drewN, World.drewN_drewN]⟩

theorem refthree64 (w : World) (x : Nat) (a b c : Int) (hx : x < 18446744073709551616) (ha : 0 < a) (ha2 : a < 64) (hb : 0 < b) (hb2 : b < 64) (hc0 : 0 < c) (hc1 : c < 64) : Calls Tryd.prog 47 #[.int .u64 x, .int .i64 a, .int .i64 b, .int .i64 c, .int .i64 64, .bool false] w fun e w' => e = .returned (.int .u64 (three 64 x a.toNat b.toNat c.toNat : Nat)) ∧ ∃ k, w' = w.drewN k := by
  have hm : min c.toNat 64 = c.toNat := by omega
  have hc : 0 ≤ c := by omega
  go_enter Tryd.func47, Tryd.ntmps47
  go_wp2_with (go_at_call 57; refine (refright64 _ _ _ hx (by assumption) (by assumption)).mono ?_; rintro e w1 ⟨rfl, n1, rfl⟩)
  go_ret
  refine ⟨?_, ?_⟩
  · show Ending.returned (.int .u64 (bits .xor .u64 (bits .xor .u64 (rot 64 x a.toNat : Int) (rot 64 x b.toNat : Int)) (rot 64 x c.toNat : Int))) = _
    rw [xor_rot 64 x _ _ (by decide), xor_three 64 x _ _ _ (by decide)]
  · first | exact ⟨_, rfl⟩ | exact ⟨_, World.drewN_drewN _ _ _⟩ | exact ⟨_, by rw [World.drewN_drewN, World.drewN_drewN]⟩

set_option maxRecDepth 20000 in
theorem refk (w : World) (t : Nat) (ht : t < 80) : Calls Tryd.prog 49 #[.int .i64 t] w fun e w' => e = .returned (.int .u64 (nth wordsL t : Nat)) ∧ Below w.heap.size w w' := by
  have hi : (t : Int) < 80 := by omega
  have hl : t < wordsL.length := ht
  go_enter Tryd.func49, Tryd.ntmps49
  go_wp2_with (refine wpList_buildFlat rfl 63 57 80 _ rfl .u64 (wordsL.map fun (x : Nat) => (x : Int)) Tryd.underlying63 (by kernel_rfl) (by kernel_rfl) (by rfl) (by decide) (by decide) (by kernel_rfl) ?_
               generalize hX : World.alloc w _ = X
               have hR : Row X w.heap.size 57 wordsL := by subst hX; have := Rg.Blk.new w (((wordsL.map fun (x : Nat) => (x : Int)).map (Value.int .u64)).toArray) 57; rw [List.map_map] at this; exact this
               have HB := Lib.hid (show Below w.heap.size w X by subst hX; exact (Below.refl _ _).alloc (Nat.le_refl _) _)
               have hc := hR.cell t hl
               clear hX hR)
  go_ret
  exact ⟨rfl, HB.out⟩
set_option maxRecDepth 20000 in
theorem refstart (w : World) : Calls Tryd.prog 38 #[] w fun e w' => e = .returned (.slice (some ⟨w.heap.size, 0, none⟩) 8 8) ∧ w' = w.alloc (.cells (u64s firstL) 57) := by
  go_enter Tryd.func38, Tryd.ntmps38
  go_wp2
  go_ret
  exact ⟨rfl, rfl⟩
end Go.Proofs.YtoehmjkgjleaaaaDoor.Sha
