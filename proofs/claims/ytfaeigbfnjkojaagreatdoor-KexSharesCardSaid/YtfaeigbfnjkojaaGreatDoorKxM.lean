/- Two words and what is carried, plainly. -/
import Derived.Test.YtfaeigbfnjkojaaGreatDoorKxE
set_option linter.unusedVariables false
set_option linter.unusedSimpArgs false
namespace Go.Proofs.YtfaeigbfnjkojaaGreatDoor.Kx
open Go.RowKit Go.Proofs.YtfaeigbfnjkojaaGreatDoor.Cl
theorem two_lo (t q : Nat) : (t % M + q) % M = (t + q) % M2 % M := by unfold M M2; omega
theorem two_hi (t q : Nat) (hq : q < M) : (t / M % M + (t % M + q) / M) % M = (t + q) % M2 / M := by unfold M M2 at *; omega
theorem two_or (h l : Nat) (hl : l < M) (hh : h < M) : (h * 8192 % M ||| l / W) = (h * M + l) / W % M := by
  have h1 : l / W < 2 ^ 13 := by unfold W M at *; omega
  have h2 : h * 8192 % M = (h % W) * 2 ^ 13 := by unfold W M; omega
  rw [h2, ← Nat.shiftLeft_eq, ← Nat.shiftLeft_add_eq_or_of_lt h1, Nat.shiftLeft_eq]
  unfold W M at *
  omega
/-- what goes on, of a sum in two words -/
theorem two_c (t q : Nat) (hq : q < M) : ((t / M % M + (t % M + q) / M) % M * 8192 % M ||| (t % M + q) % M / W) = (t + q) % M2 / W % M := by
  rw [two_or _ _ (mod_lt_M _) (mod_lt_M _), two_hi t q hq, two_lo]
  congr 2
  have := Nat.div_add_mod ((t + q) % M2) M
  rw [Nat.mul_comm]; exact this
theorem two_m (t q : Nat) : (t % M + q) % M % W = (t + q) % M2 % W := by rw [two_lo]; unfold M M2 W; omega
theorem wrap_shl (x : Nat) : IntKind.u64.wrap ((x : Int) * 8192) = ((x * 8192 % M : Nat) : Int) := by rw [IntKind.wrap_u64]; unfold M; omega
theorem wrap_or (x y : Nat) (hx : x < M) (hy : y < M) : bits .or .u64 (x : Int) (y : Int) = ((x ||| y : Nat) : Int) := u64_or_nat x y hx hy
end Go.Proofs.YtfaeigbfnjkojaaGreatDoor.Kx
