/- The Edwards curve's group, plainly: 0, commutative, negatives, multiples. -/
import Derived.Test.YtfaeigbfnjkojaaGreatDoorEdH
set_option linter.unusedVariables false
set_option linter.unusedSimpArgs false
namespace Go.Proofs.YtfaeigbfnjkojaaGreatDoor.Ed
theorem on_zero (d : F) : 0 - (0 : F) * 0 + 1 * 1 - 1 - d * 0 * 0 * 1 * 1 = 0 := by grobner
def Pt.zero : Pt := ⟨0, 1, on_zero dE⟩
theorem one_ne : (1 : F) ≠ 0 := fun h => zero_ne h.symm
theorem inv_one : inv 1 = 1 := by
  have h := mul_inv one_ne
  obtain ⟨v, hv⟩ : ∃ v, v = inv 1 := ⟨_, rfl⟩
  rw [← hv] at h ⊢
  have e : (1 : F) * v = v := by grobner
  rw [← e]; exact h
theorem z_p (d x y : F) : 1 + d * 0 * x * 1 * y = 1 := by grobner
theorem z_m (d x y : F) : 1 - d * 0 * x * 1 * y = 1 := by grobner
theorem z_x (x y : F) : (0 * y + 1 * x) * 1 = x := by grobner
theorem z_y (x y : F) : (1 * y + 0 * x) * 1 = y := by grobner
theorem Pt.zero_add (p : Pt) : Pt.zero.add p = p := by
  apply Pt.eq
  · show (0 * p.y + 1 * p.x) * inv (1 + dE * 0 * p.x * 1 * p.y) = p.x
    rw [z_p, inv_one, z_x]
  · show (1 * p.y + 0 * p.x) * inv (1 - dE * 0 * p.x * 1 * p.y) = p.y
    rw [z_m, inv_one, z_y]
theorem c_n (a b x y : F) : a * y + b * x = x * b + y * a := by grobner
theorem c_m (a b x y : F) : b * y + a * x = y * b + x * a := by grobner
theorem c_t (d a b x y : F) : d * a * x * b * y = d * x * a * y * b := by grobner
theorem Pt.comm (p q : Pt) : p.add q = q.add p := by
  apply Pt.eq
  · show (p.x * q.y + p.y * q.x) * inv (1 + dE * p.x * q.x * p.y * q.y) = (q.x * p.y + q.y * p.x) * inv (1 + dE * q.x * p.x * q.y * p.y)
    rw [c_n, c_t]
  · show (p.y * q.y + p.x * q.x) * inv (1 - dE * p.x * q.x * p.y * q.y) = (q.y * p.y + q.x * p.x) * inv (1 - dE * q.x * p.x * q.y * p.y)
    rw [c_m, c_t]
theorem Pt.add_zero (p : Pt) : p.add Pt.zero = p := by rw [Pt.comm, Pt.zero_add]
def Pt.mul : Nat → Pt → Pt
  | 0, _ => Pt.zero
  | n + 1, p => (Pt.mul n p).add p
theorem Pt.mul_add (p : Pt) (m : Nat) : ∀ n, Pt.mul (m + n) p = (Pt.mul m p).add (Pt.mul n p)
  | 0 => (Pt.add_zero _).symm
  | n + 1 => by
    show (Pt.mul (m + n) p).add p = (Pt.mul m p).add ((Pt.mul n p).add p)
    rw [Pt.mul_add p m n, Pt.assoc]
theorem Pt.mul_mul (p : Pt) (n : Nat) : ∀ m, Pt.mul (m * n) p = Pt.mul m (Pt.mul n p)
  | 0 => by rw [Nat.zero_mul]; rfl
  | m + 1 => by rw [Nat.succ_mul, Pt.mul_add, Pt.mul_mul p n m]; rfl
theorem Pt.mul_swap (p : Pt) (m n : Nat) : Pt.mul m (Pt.mul n p) = Pt.mul n (Pt.mul m p) := by rw [← Pt.mul_mul, ← Pt.mul_mul, Nat.mul_comm]
theorem on_neg (d x y : F) (h : 0 - x * x + y * y - 1 - d * x * x * y * y = 0) : 0 - (0 - x) * (0 - x) + y * y - 1 - d * (0 - x) * (0 - x) * y * y = 0 := by grobner
def Pt.neg (p : Pt) : Pt := ⟨0 - p.x, p.y, on_neg dE p.x p.y p.h⟩
theorem n_x (x y : F) : x * y + y * (0 - x) = 0 := by grobner
theorem n_0 (v : F) : 0 * v = 0 := by grobner
theorem n_y (d x y : F) (h : 0 - x * x + y * y - 1 - d * x * x * y * y = 0) : y * y + x * (0 - x) = 1 - d * x * (0 - x) * y * y := by grobner
theorem Pt.add_neg (p : Pt) : p.add p.neg = Pt.zero := by
  apply Pt.eq
  · show (p.x * p.y + p.y * (0 - p.x)) * inv (1 + dE * p.x * (0 - p.x) * p.y * p.y) = 0
    rw [n_x, n_0]
  · show (p.y * p.y + p.x * (0 - p.x)) * inv (1 - dE * p.x * (0 - p.x) * p.y * p.y) = 1
    rw [n_y dE p.x p.y p.h]
    exact mul_inv (den_m p.h p.neg.h)
theorem Pt.cancel (p q r : Pt) (h : p.add r = q.add r) : p = q := by
  have h2 := congrArg (fun x => Pt.add x r.neg) h
  simp only [Pt.assoc, Pt.add_neg, Pt.add_zero] at h2
  exact h2
end Go.Proofs.YtfaeigbfnjkojaaGreatDoor.Ed
