/- The field of 2^255 - 19 elements, plainly. -/
import Derived.Test.YtfaeigbfnjkojaaGreatDoorNtC
set_option linter.unusedVariables false
set_option linter.unusedSimpArgs false
namespace Go.Proofs.YtfaeigbfnjkojaaGreatDoor.Ed
open Go.Proofs.YtfaeigbfnjkojaaGreatDoor.Nt
theorem inv_mod {p a : Nat} (hp : Pr p) (h3 : p < 2 ^ 300) (ha : ¬ p ∣ a) : a * (pm p 300 a (p - 2) 1 % p) % p = 1 := by
  have h1 := hp.1
  rw [pm_eq 300 _ _ _ (by omega) h1, Nat.one_mul, Nat.mod_mod, Nat.mul_mod, Nat.mod_mod, ← Nat.mul_mod, Nat.mul_comm, ← Nat.pow_succ, show (p - 2).succ = p - 1 by omega]
  exact fermat hp ha
theorem nonsq {p d : Nat} (hp : Pr p) (h3 : p < 2 ^ 300) (hodd : 2 * ((p - 1) / 2) = p - 1) (h2 : 2 < p) (h : pm p 300 d ((p - 1) / 2) 1 = p - 1) (z : Nat) : z * z % p ≠ d % p := fun hv => by
  rw [pm_eq 300 _ _ _ (by omega) hp.1, Nat.one_mul, Nat.pow_mod, ← hv, ← Nat.pow_mod, ← Nat.pow_two, ← Nat.pow_mul, hodd] at h
  by_cases h0 : p ∣ z
  · have h1 : z ^ (p - 1) % p = 0 := by
      rw [Nat.pow_mod, Nat.mod_eq_zero_of_dvd h0, show p - 1 = (p - 2) + 1 by omega, Nat.pow_succ, Nat.mul_zero, Nat.zero_mod]
    omega
  · rw [fermat hp h0] at h; omega
abbrev P : Nat := 57896044618658097711785492504343953926634992332820282019728792003956564819949
abbrev F : Type := Fin 57896044618658097711785492504343953926634992332820282019728792003956564819949
theorem hP : Pr P := pr_p
theorem P_pos : 0 < P := by decide +kernel
def inv (a : F) : F := ⟨pm P 300 a.val (P - 2) 1 % P, Nat.mod_lt _ P_pos⟩
theorem val_mul (a b : F) : (a * b).val = a.val * b.val % P := rfl
theorem val_ne {a : F} (h : a ≠ 0) : ¬ P ∣ a.val := fun hd => by
  apply h
  apply Fin.ext
  show a.val = 0
  by_cases h0 : a.val = 0
  · exact h0
  · have h1 := Nat.le_of_dvd (by omega) hd
    have h2 : a.val < P := a.isLt
    omega
theorem mul_inv {a : F} (h : a ≠ 0) : a * inv a = 1 := by
  apply Fin.ext
  rw [val_mul]
  exact inv_mod hP (by decide +kernel) (val_ne h)
theorem mul_zero_or {a b : F} (h : a * b = 0) : a = 0 ∨ b = 0 := by
  by_cases ha : a = 0
  · exact .inl ha
  · right
    have h1 := mul_inv ha
    have : b = b * (a * inv a) := by rw [h1]; exact (Fin.mul_one b).symm
    have h2 : b * (a * inv a) = (a * b) * inv a := by grind
    rw [this, h2, h]
    grind
theorem mul_ne {a b : F} (ha : a ≠ 0) (hb : b ≠ 0) : a * b ≠ 0 := fun h => (mul_zero_or h).elim ha hb
theorem cancel {a b c : F} (ha : a ≠ 0) (h : a * b = a * c) : b = c := by
  have h1 : a * (b - c) = 0 := by grind
  rcases mul_zero_or h1 with h2 | h2
  · exact absurd h2 ha
  · grind
def dE : F := ⟨37095705934669439343138083508754565189542113879843219016388785533085940283555, by decide +kernel⟩
def iE : F := ⟨19681161376707505956807079304988542015446066515923890162744021073123829784752, by decide +kernel⟩
theorem iE_sq : iE * iE = -1 := by decide +kernel
theorem two_ne : (2 : F) ≠ 0 := by decide +kernel
theorem dE_sq (z : F) : z * z ≠ dE := fun h => by
  have hv : z.val * z.val % P = dE.val := by rw [← val_mul, h]
  exact nonsq (d := dE.val) hP (by decide +kernel) (by decide +kernel) (by decide +kernel) (by decide +kernel) z.val (by rw [hv, Nat.mod_eq_of_lt dE.isLt])
end Go.Proofs.YtfaeigbfnjkojaaGreatDoor.Ed
