/- The functions of sha2 on words. -/
import Derived.Test.YtfaeigbfnjkojaaGreatDoorShaMath2
import Derived.Test.YtfaeigbfnjkojaaGreatDoorRows
import Derived.Test.YtfaeigbfnjkojaaGreatDoorGenA
import Derived.Lib.Hide
import Derived.Deep.QuietTactic
import Derived.BigQuiet
set_option linter.unusedVariables false
set_option linter.unusedSimpArgs false
namespace Go.Proofs.YtfaeigbfnjkojaaGreatDoor.Sha
open Go.RowKit

def k256c : Array Value := #[.int .i64 32, .int .i64 64, .int .i64 7, .int .i64 18, .int .i64 3, .int .i64 17, .int .i64 19, .int .i64 10, .int .i64 2, .int .i64 13, .int .i64 22, .int .i64 6, .int .i64 11, .int .i64 25]
def k512c : Array Value := #[.int .i64 64, .int .i64 80, .int .i64 1, .int .i64 8, .int .i64 7, .int .i64 19, .int .i64 61, .int .i64 6, .int .i64 28, .int .i64 34, .int .i64 39, .int .i64 14, .int .i64 18, .int .i64 41]

abbrev K256 : Value := .agg k256c
abbrev K512 : Value := .agg k512c

theorem _root_.Go.RowKit.Below.drewN' {B : Nat} {a w : World} (h : Below B a w) (n : Nat) : Below B a (w.drewN n) := by
  induction n with
  | zero => exact h
  | succ n ih => exact ⟨h.os, h.tape, h.output, h.size, h.block⟩

theorem wrap_u64_lt {x : Nat} (h : x < 2 ^ 64) : IntKind.u64.wrap (x : Int) = x := by rw [IntKind.wrap_u64]; omega
theorem wrap_u64_rot32 (x n : Nat) : IntKind.u64.wrap (rot 32 x n : Int) = (rot 32 x n : Int) := wrap_u64_lt (Nat.lt_trans (rot_lt _ _ _) (by decide))
theorem wrap_u64_rot64 (x n : Nat) : IntKind.u64.wrap (rot 64 x n : Int) = (rot 64 x n : Int) := wrap_u64_lt (rot_lt _ _ _)
attribute [local go_sem] wrap_u64_rot32 wrap_u64_rot64

theorem kind256_any (w : World) : Calls Tryz.prog 54 #[] w fun e w' => e = .returned K256 ∧ Below w.heap.size w w' := by
  unfold K256 k256c
  go_enter Tryz.func54, Tryz.ntmps54
  go_wp2
  exact bodyPost_ret (v := K256) (by simp [results, Tryz.results54, go_sem, K256, k256c]) rfl ⟨rfl, (Below.refl _ _).alloc (Nat.le_refl _) _⟩

theorem word256_any (w : World) (x : Nat) : Calls Tryz.prog 68 #[K256, .int .u64 x] w fun e w' => e = .returned (.int .u64 (hi32 x : Nat)) ∧ Below w.heap.size w w' := by
  unfold K256 k256c
  go_enter Tryz.func68, Tryz.ntmps68
  go_wp2
  go_ret
  exact ⟨by simp [hi32], (Below.refl _ _).alloc (Nat.le_refl _) _⟩

theorem word512_any (w : World) (x : Nat) : Calls Tryz.prog 68 #[K512, .int .u64 x] w fun e w' => e = .returned (.int .u64 x) ∧ Below w.heap.size w w' := by
  unfold K512 k512c
  go_enter Tryz.func68, Tryz.ntmps68
  go_wp2
  go_ret
  exact ⟨by simp, (Below.refl _ _).alloc (Nat.le_refl _) _⟩

theorem cut256_any (w : World) (x : Nat) : Calls Tryz.prog 88 #[K256, .int .u64 x] w fun e w' => e = .returned (.int .u64 (x % 4294967296 : Nat)) ∧ Below w.heap.size w w' := by
  have e : (IntKind.u64.wrap ((x : Int) * 4294967296) / 4294967296) = ((x % 4294967296 : Nat) : Int) := by rw [IntKind.wrap_u64]; omega
  unfold K256 k256c
  go_enter Tryz.func88, Tryz.ntmps88
  go_wp2
  go_quiet (fail)
  go_wp2
  go_ret
  exact ⟨by simp, (((Below.refl _ _).alloc (Nat.le_refl _) _).drewN' _)⟩

theorem cut512_any (w : World) (x : Nat) (hx : x < 18446744073709551616) : Calls Tryz.prog 88 #[K512, .int .u64 x] w fun e w' => e = .returned (.int .u64 x) ∧ Below w.heap.size w w' := by
  have e : IntKind.u64.wrap (x : Int) = x := by rw [IntKind.wrap_u64]; omega
  unfold K512 k512c
  go_enter Tryz.func88, Tryz.ntmps88
  go_wp2
  go_quiet (fail)
  go_wp2
  go_ret
  exact ⟨by simp, (((Below.refl _ _).alloc (Nat.le_refl _) _).drewN' _)⟩

theorem neg_and (n m k : Nat) (hn : 0 < n) (hn' : n < 2 ^ k) (hm : m = 2 ^ k - 1) (hk : k ≤ 32) : bits .and .u64 (IntKind.u64.wrap (-(n:Int))) (m : Int) = ((2 ^ k - n : Nat) : Int) := by
  have hp : 2 ^ k ≤ 2 ^ 32 := Nat.pow_le_pow_right (by decide) hk
  have e2 : 2 ^ 64 = 2 ^ k * 2 ^ (64 - k) := by rw [← Nat.pow_add]; congr 1; omega
  have h1 : IntKind.u64.wrap (-(n:Int)) = ((18446744073709551616 - n : Nat) : Int) := by
    rw [IntKind.wrap_u64]; omega
  have h0 : 0 < 2 ^ (64 - k) := Nat.two_pow_pos _
  rw [h1, u64_and_nat _ _ (by omega) (by omega), hm, Nat.and_two_pow_sub_one_eq_mod]
  congr 1
  obtain ⟨c, hc⟩ : ∃ c, 2 ^ (64 - k) = c + 1 := ⟨2 ^ (64 - k) - 1, by omega⟩
  have e3 : 18446744073709551616 = 2 ^ k * c + 2 ^ k := by
    have : (18446744073709551616 : Nat) = 2 ^ 64 := by decide
    rw [this, e2, hc, Nat.mul_succ]
  have e4 : 18446744073709551616 - n = (2 ^ k - n) + 2 ^ k * c := by omega
  rw [e4, Nat.add_mul_mod_self_left, Nat.mod_eq_of_lt (by omega)]

theorem rotl32_any (w : World) (x n : Nat) (hx : x < 4294967296) (hn : 0 < n) (hn' : n < 32) : Calls Tryz.prog 105 #[.int .u32 x, .int .i64 (-(n:Int))] w fun e w' => e = .returned (.int .u32 (rot 32 x n : Nat)) ∧ w = w' := by
  have e : bits .and .u64 (IntKind.u64.wrap (-(n:Int))) 31 = ((32 - n : Nat) : Int) := neg_and n 31 5 hn (by omega) (by decide) (by decide)
  go_enter Tryz.func105, Tryz.ntmps105
  go_wp2
  go_ret
  refine ⟨?_, rfl⟩
  have h := rot_left 32 x n hx
  have h3 : 32 - (32 - n) = n := by omega
  simp only [Array.getD_eq_getD_getElem?, List.getElem?_toArray, List.getElem?_cons_succ, List.getElem?_cons_zero, Option.getD_some]
  rw [h3]
  have h4 : (x : Int) * 2 ^ (32 - n) % 4294967296 = ((x * 2 ^ (32 - n) % 2 ^ 32 : Nat) : Int) := by rw [Int.natCast_emod, Int.natCast_mul, Int.natCast_pow]; rfl
  have h5 : (x : Int) / 2 ^ n = ((x / 2 ^ n : Nat) : Int) := by rw [Int.natCast_ediv, Int.natCast_pow]; rfl
  rw [h4, h5, u32_or_nat _ _ (Nat.mod_lt _ (by decide)) (Nat.lt_of_le_of_lt (Nat.div_le_self x _) hx), h]

theorem rotl64_any (w : World) (x n : Nat) (hx : x < 18446744073709551616) (hn : 0 < n) (hn' : n < 64) : Calls Tryz.prog 106 #[.int .u64 x, .int .i64 (-(n:Int))] w fun e w' => e = .returned (.int .u64 (rot 64 x n : Nat)) ∧ w = w' := by
  have e : bits .and .u64 (IntKind.u64.wrap (-(n:Int))) 63 = ((64 - n : Nat) : Int) := neg_and n 63 6 hn (by omega) (by decide) (by decide)
  go_enter Tryz.func106, Tryz.ntmps106
  go_wp2
  go_ret
  refine ⟨?_, rfl⟩
  have h := rot_left 64 x n hx
  have h3 : 64 - (64 - n) = n := by omega
  simp only [Array.getD_eq_getD_getElem?, List.getElem?_toArray, List.getElem?_cons_succ, List.getElem?_cons_zero, Option.getD_some]
  rw [h3]
  have h4 : IntKind.u64.wrap ((x : Int) * 2 ^ (64 - n)) = ((x * 2 ^ (64 - n) % 2 ^ 64 : Nat) : Int) := by rw [IntKind.wrap_u64, Int.natCast_emod, Int.natCast_mul, Int.natCast_pow]; rfl
  have h5 : (x : Int) / 2 ^ n = ((x / 2 ^ n : Nat) : Int) := by rw [Int.natCast_ediv, Int.natCast_pow]; rfl
  rw [h4, h5, u64_or_nat _ _ (Nat.mod_lt _ (by decide)) (Nat.lt_of_le_of_lt (Nat.div_le_self x _) hx), h]

theorem turn256_any (w : World) (x n : Nat) (hx : x < 4294967296) (hn : 0 < n) (hn' : n < 32) : Calls Tryz.prog 98 #[K256, .int .u64 x, .int .i64 n] w fun e w' => e = .returned (.int .u64 (rot 32 x n : Nat)) ∧ Below w.heap.size w w' := by
  unfold K256 k256c
  have e : (x : Int) % 4294967296 = x := by omega
  go_enter Tryz.func98, Tryz.ntmps98
  go_wp2_with (go_at_call 105; refine (rotl32_any _ _ _ hx hn hn').mono ?_; rintro e w' ⟨rfl, rfl⟩)
  go_ret
  exact ⟨by simp, (((Below.refl _ _).alloc (Nat.le_refl _) _))⟩
theorem turn512_any (w : World) (x n : Nat) (hx : x < 18446744073709551616) (hn : 0 < n) (hn' : n < 64) : Calls Tryz.prog 98 #[K512, .int .u64 x, .int .i64 n] w fun e w' => e = .returned (.int .u64 (rot 64 x n : Nat)) ∧ Below w.heap.size w w' := by
  unfold K512 k512c
  go_enter Tryz.func98, Tryz.ntmps98
  go_wp2_with (go_at_call 106; refine (rotl64_any _ _ _ hx hn hn').mono ?_; rintro e w' ⟨rfl, rfl⟩)
  go_ret
  exact ⟨by simp, (((Below.refl _ _).alloc (Nat.le_refl _) _))⟩



theorem turn256_int (w : World) (x : Nat) (n : Int) (hx : x < 4294967296) (hn : 0 < n) (hn' : n < 32) : Calls Tryz.prog 98 #[K256, .int .u64 x, .int .i64 n] w fun e w' => e = .returned (.int .u64 (rot 32 x n.toNat : Nat)) ∧ Below w.heap.size w w' := by
  obtain ⟨m, rfl⟩ := Int.eq_ofNat_of_zero_le (Int.le_of_lt hn)
  exact turn256_any w x m hx (by omega) (by omega)
theorem turn512_int (w : World) (x : Nat) (n : Int) (hx : x < 18446744073709551616) (hn : 0 < n) (hn' : n < 64) : Calls Tryz.prog 98 #[K512, .int .u64 x, .int .i64 n] w fun e w' => e = .returned (.int .u64 (rot 64 x n.toNat : Nat)) ∧ Below w.heap.size w w' := by
  obtain ⟨m, rfl⟩ := Int.eq_ofNat_of_zero_le (Int.le_of_lt hn)
  exact turn512_any w x m hx (by omega) (by omega)
end Go.Proofs.YtfaeigbfnjkojaaGreatDoor.Sha
