/- The reference's functions on words. -/
import Derived.Test.YtoehmjkgjleaaaaDoorShaTab
import Derived.Test.YtoehmjkgjleaaaaDoorShaWord2
import Derived.Deep.QuietTactic
import Derived.BigQuiet
set_option linter.unusedVariables false
set_option linter.unusedSimpArgs false
namespace Go.Proofs.YtoehmjkgjleaaaaDoor.Sha
open Go.RowKit Go.Proofs.YtoehmjkgjleaaaaDoor.Cl

theorem refcut32 (w : World) (x : Nat) : Calls Tryd.prog 48 #[.int .u64 x, .int .i64 32] w fun e w' => e = .returned (.int .u64 (x % 4294967296 : Nat)) ∧ w = w' := by
  go_enter Tryd.func48, Tryd.ntmps48
  go_wp2
  go_ret
  exact ⟨by simp, rfl⟩
theorem refcut64 (w : World) (x : Nat) : Calls Tryd.prog 48 #[.int .u64 x, .int .i64 64] w fun e w' => e = .returned (.int .u64 x) ∧ w = w' := by
  go_enter Tryd.func48, Tryd.ntmps48
  go_wp2
  go_ret
  exact ⟨by simp, rfl⟩
theorem refcut32y (w : World) (x y : Nat) (hy : y = x % 4294967296) : Calls Tryd.prog 48 #[.int .u64 x, .int .i64 32] w fun e w' => e = .returned (.int .u64 y) ∧ w = w' := by subst hy; exact refcut32 w x
theorem refcut64y (w : World) (x y : Nat) (hy : y = x) : Calls Tryd.prog 48 #[.int .u64 x, .int .i64 64] w fun e w' => e = .returned (.int .u64 y) ∧ w = w' := by subst hy; exact refcut64 w y
theorem right_val32 (x n : Nat) (hx : x < 4294967296) (hn : n < 32) : bits .or .u64 ((x : Int) / 2 ^ n) (IntKind.u64.wrap ((x : Int) * 2 ^ (32 - n))) = ((x / 2 ^ n ||| x * 2 ^ (32 - n) : Nat) : Int) := by
  have h1 : (x : Int) / 2 ^ n = ((x / 2 ^ n : Nat) : Int) := by rw [Int.natCast_ediv, Int.natCast_pow]; rfl
  have hp : 2 ^ (32 - n) ≤ 2 ^ 32 := Nat.pow_le_pow_right (by decide) (by omega)
  have hm : x * 2 ^ (32 - n) < 18446744073709551616 := by
    calc x * 2 ^ (32 - n) ≤ x * 2 ^ 32 := Nat.mul_le_mul_left x hp
      _ < 18446744073709551616 := by omega
  have h2 : IntKind.u64.wrap ((x : Int) * 2 ^ (32 - n)) = ((x * 2 ^ (32 - n) : Nat) : Int) := by
    rw [show (x : Int) * 2 ^ (32 - n) = ((x * 2 ^ (32 - n) : Nat) : Int) by rw [Int.natCast_mul, Int.natCast_pow]; rfl]
    rw [IntKind.wrap_u64]; omega
  rw [h1, h2, u64_or_nat _ _ (Nat.lt_of_le_of_lt (Nat.div_le_self _ _) (by omega)) hm]
theorem right_val64 (x n : Nat) (hx : x < 18446744073709551616) (hn : n < 64) : bits .or .u64 ((x : Int) / 2 ^ n) (IntKind.u64.wrap ((x : Int) * 2 ^ (64 - n))) = ((rot 64 x n : Nat) : Int) := by
  have h1 : (x : Int) / 2 ^ n = ((x / 2 ^ n : Nat) : Int) := by rw [Int.natCast_ediv, Int.natCast_pow]; rfl
  have h2 : IntKind.u64.wrap ((x : Int) * 2 ^ (64 - n)) = ((x * 2 ^ (64 - n) % 2 ^ 64 : Nat) : Int) := by
    rw [IntKind.wrap_u64, Int.natCast_emod, Int.natCast_mul, Int.natCast_pow]; rfl
  rw [h1, h2, u64_or_nat _ _ (Nat.lt_of_le_of_lt (Nat.div_le_self _ _) hx) (Nat.mod_lt _ (by decide)), Nat.or_comm, rot_left 64 x n hx]

theorem refright32 (w : World) (x : Nat) (n : Int) (hx : x < 4294967296) (hn : 0 < n) (hn2 : n < 32) : Calls Tryd.prog 57 #[.int .u64 x, .int .i64 n, .int .i64 32] w fun e w' => e = .returned (.int .u64 (rot 32 x n.toNat : Nat)) ∧ ∃ k, w' = w.drewN k := by
  have hm : min n.toNat 64 = n.toNat := by omega
  have hm2 : min (32 - n.toNat) 64 = 32 - n.toNat := by omega
  have e := right_val32 x n.toNat hx (by omega)
  have ht : (32 - n).toNat = 32 - n.toNat := by omega
  have hp : 0 ≤ 32 - n := by omega
  go_enter Tryd.func57, Tryd.ntmps57
  go_wp2_with fail
  go_quiet ((go_at_call 48; exact Calls.quiet_of_same ((refcut32 _ _).mono fun _ _ ⟨h1, h2⟩ => ⟨h1, h2.symm⟩)))
  go_wp2
  go_ret
  exact ⟨by rfl, _, rfl⟩

theorem refright64 (w : World) (x : Nat) (n : Int) (hx : x < 18446744073709551616) (hn : 0 < n) (hn2 : n < 64) : Calls Tryd.prog 57 #[.int .u64 x, .int .i64 n, .int .i64 64] w fun e w' => e = .returned (.int .u64 (rot 64 x n.toNat : Nat)) ∧ ∃ k, w' = w.drewN k := by
  have hm : min n.toNat 64 = n.toNat := by omega
  have hm2 : min (64 - n.toNat) 64 = 64 - n.toNat := by omega
  have e := right_val64 x n.toNat hx (by omega)
  have ht : (64 - n).toNat = 64 - n.toNat := by omega
  have hp : 0 ≤ 64 - n := by omega
  go_enter Tryd.func57, Tryd.ntmps57
  go_wp2_with fail
  go_quiet ((go_at_call 48; exact Calls.quiet_of_same ((refcut64 _ _).mono fun _ _ ⟨h1, h2⟩ => ⟨h1, h2.symm⟩)))
  go_wp2
  go_ret
  exact ⟨by rfl, _, rfl⟩
end Go.Proofs.YtoehmjkgjleaaaaDoor.Sha
