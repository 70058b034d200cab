/- The base point, plainly. -/
import Derived.Test.YtfaeigbfnjkojaaGreatDoorEdI
set_option linter.unusedVariables false
set_option linter.unusedSimpArgs false
namespace Go.Proofs.YtfaeigbfnjkojaaGreatDoor.Ed
open Go.Proofs.YtfaeigbfnjkojaaGreatDoor.Nt
def bx : F := ⟨15112221349535400772501151409588531511454012693041857206046113283949847762202, by decide +kernel⟩
def byy : F := ⟨46316835694926478169428394003475163141307993866256225615783033603165251855960, by decide +kernel⟩
theorem on_base : on bx byy := by unfold on; decide +kernel
def base : Pt := ⟨bx, byy, on_base⟩
/-- 2 ^ n times a point, and what its number of multiples is: by doubling -/
theorem Pt.mul_two (n : Nat) (q : Pt) : Pt.mul (2 * n) q = (Pt.mul n q).add (Pt.mul n q) := by rw [Nat.two_mul, Pt.mul_add]
theorem Pt.mul_odd (n : Nat) (q : Pt) : Pt.mul (2 * n + 1) q = ((Pt.mul n q).add (Pt.mul n q)).add q := by
  show (Pt.mul (2 * n) q).add q = _
  rw [Pt.mul_two]
/-- by the places of the number, from the top: f places are left -/
def Pt.dbl (q : Pt) (n : Nat) : Nat → Pt
  | 0 => Pt.zero
  | f + 1 => let r := Pt.dbl q (n / 2) f
    if n % 2 = 1 then (r.add r).add q else r.add r
theorem Pt.dbl_eq (q : Pt) : ∀ (f n : Nat), n < 2 ^ f → Pt.dbl q n f = Pt.mul n q
  | 0, n, h => by
    have : n = 0 := by simpa using h
    subst this; rfl
  | f + 1, n, h => by
    have ih := Pt.dbl_eq q f (n / 2) (by rw [Nat.pow_succ] at h; omega)
    rw [Pt.dbl]
    simp only [ih]
    by_cases hb : n % 2 = 1
    · rw [if_pos hb, ← Pt.mul_odd, show 2 * (n / 2) + 1 = n by omega]
    · rw [if_neg hb, ← Pt.mul_two, show 2 * (n / 2) = n by omega]
end Go.Proofs.YtfaeigbfnjkojaaGreatDoor.Ed
