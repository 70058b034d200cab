/- Powers by the program's squarings; the ladder's end, plainly. -/
import Derived.Test.YtfaeigbfnjkojaaGreatDoorFeA
import Derived.Test.YtfaeigbfnjkojaaGreatDoorEdL
set_option linter.unusedVariables false
set_option linter.unusedSimpArgs false
namespace Go.Proofs.YtfaeigbfnjkojaaGreatDoor.Ed
open Go.Proofs.YtfaeigbfnjkojaaGreatDoor.Nt
def fpow (a : F) : Nat → F
  | 0 => 1
  | n + 1 => fpow a n * a
theorem fpow_add (a : F) (m : Nat) : ∀ n, fpow a (m + n) = fpow a m * fpow a n
  | 0 => (m_one _).symm
  | n + 1 => by
    show fpow a (m + n) * a = fpow a m * (fpow a n * a)
    rw [fpow_add a m n]
    grobner
theorem fpow_two (a : F) (n : Nat) : fpow a (2 * n) = fpow a n * fpow a n := by rw [Nat.two_mul, fpow_add]
theorem fpow_odd (a : F) (n : Nat) : fpow a (2 * n + 1) = fpow a n * fpow a n * a := by show fpow a (2 * n) * a = _; rw [fpow_two]
theorem fpow_val (a : F) : ∀ n, (fpow a n).val = a.val ^ n % P
  | 0 => rfl
  | n + 1 => by
    show (fpow a n * a).val = _
    rw [val_mul, fpow_val a n, Nat.pow_succ, Nat.mul_mod, Nat.mod_mod, ← Nat.mul_mod]
theorem fpow_pm (a : F) (n : Nat) (h : n < 2 ^ 300) : (fpow a n).val = pm P 300 a.val n 1 := by
  rw [fpow_val, pm_eq 300 _ _ _ h (by decide +kernel), Nat.one_mul]
theorem inv_fpow (a : F) : inv a = fpow a (P - 2) := by
  apply Fin.ext
  rw [fpow_pm a _ (by decide +kernel)]
  show pm P 300 a.val (P - 2) 1 % P = _
  rw [← fpow_pm a _ (by decide +kernel)]
  exact Nat.mod_eq_of_lt (fpow a (P - 2)).isLt
theorem inv_zero : inv 0 = 0 := by decide +kernel
theorem inv_mul (a b : F) : inv (a * b) = inv a * inv b := by
  by_cases ha : a = 0
  · rw [ha, n_0, inv_zero, n_0]
  · by_cases hb : b = 0
    · rw [hb, show a * 0 = 0 by grobner, inv_zero]; grobner
    · have h1 := mul_inv ha
      have h2 := mul_inv hb
      have h3 := mul_inv (mul_ne ha hb)
      refine cancel (mul_ne ha hb) ?_
      rw [h3]
      have : a * b * (inv a * inv b) = (a * inv a) * (b * inv b) := by grobner
      rw [this, h1, h2, m_one]
end Go.Proofs.YtfaeigbfnjkojaaGreatDoor.Ed
namespace Go.Proofs.YtfaeigbfnjkojaaGreatDoor.Kx
open Go.Proofs.YtfaeigbfnjkojaaGreatDoor.Ed
/-- the bits of the number that a power is to -/
def BitsOf (low N : Nat) : Prop := N < 2 ^ 255 ∧ ∀ i, i < 255 → (decide (8 ≤ i) || low / 2 ^ i % 2 == 1) = (N / 2 ^ i % 2 == 1)
theorem bitsOf (low N : Nat) (h : (decide (N < 2 ^ 255) && (List.range 255).all fun i => (decide (8 ≤ i) || low / 2 ^ i % 2 == 1) == (N / 2 ^ i % 2 == 1)) = true) : BitsOf low N := by
  rw [Bool.and_eq_true, decide_eq_true_eq] at h
  refine ⟨h.1, fun i hi => ?_⟩
  exact beq_iff_eq.1 (List.all_eq_true.1 h.2 i (List.mem_range.2 hi))
theorem pw_f {low N : Nat} (hN : BitsOf low N) {x : E} (hx : tid x) : ∀ k, k ≤ 255 → tid (pw low x k) ∧ (pw low x k).f = fpow x.f (N / 2 ^ (255 - k))
  | 0, _ => ⟨small_tid (by decide), by rw [Nat.div_eq_of_lt hN.1]; exact one_f⟩
  | k + 1, hk => by
    obtain ⟨h1, h2⟩ := pw_f hN hx k (by omega)
    obtain ⟨h3, h4⟩ := sq_f h1
    have hb := hN.2 (254 - k) (by omega)
    have hd : N / 2 ^ (255 - k) = N / 2 ^ (254 - k) / 2 := by rw [show 255 - k = (254 - k) + 1 by omega, Nat.pow_succ, Nat.div_div_eq_div_mul]
    rw [show 255 - (k + 1) = 254 - k by omega]
    rw [hd] at h2
    generalize N / 2 ^ (254 - k) = m at *
    unfold pw
    simp only
    by_cases hm : m % 2 = 1
    · rw [hm] at hb
      rw [hb]
      obtain ⟨h5, h6⟩ := mul_f h3 hx
      refine ⟨h5, ?_⟩
      show (mul (sq (pw low x k)) x).f = _
      rw [h6, h4, h2, ← fpow_odd, show 2 * (m / 2) + 1 = m by omega]
    · have hm0 : m % 2 = 0 := by omega
      rw [hm0] at hb
      rw [hb]
      refine ⟨h3, ?_⟩
      show (sq (pw low x k)).f = _
      rw [h4, h2, ← fpow_two, show 2 * (m / 2) = m by omega]
theorem bits235 : BitsOf 235 (Ed.P - 2) := bitsOf _ _ (by decide +kernel)
theorem inv_f {x : E} (hx : tid x) : tid (inv x) ∧ (inv x).f = Ed.inv x.f := by
  obtain ⟨h1, h2⟩ := pw_f bits235 hx 255 (by omega)
  refine ⟨h1, ?_⟩
  rw [inv_fpow]
  have h3 : (Ed.P - 2) / 2 ^ (255 - 255) = Ed.P - 2 := by decide +kernel
  rw [h3] at h2
  exact h2
end Go.Proofs.YtfaeigbfnjkojaaGreatDoor.Kx
