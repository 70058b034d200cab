/- A number's bytes, the highest first. -/
import Derived.Test.YtjfikbnfabdkoaaDoorOwn
set_option linter.unusedVariables false
set_option linter.unusedSimpArgs false
namespace Go.Proofs.YtjfikbnfabdkoaaDoor.Be
open Go.Proofs.YtjfikbnfabdkoaaDoor.Ow
def be : Nat → Nat → List UInt8
  | 0, _ => []
  | n + 1, x => UInt8.ofNat (x / 256 ^ n) :: be n x
theorem be_length (n x : Nat) : (be n x).length = n := by
  induction n with
  | zero => rfl
  | succ n ih => simp [be, ih]
theorem be_get : ∀ (m x k : Nat) (_ : k < m), (be m x)[k]? = some (UInt8.ofNat (x / 256 ^ (m - 1 - k)))
  | m + 1, x, 0, _ => by simp [be]
  | m + 1, x, k + 1, h => by
    have := be_get m x k (by omega)
    rw [show m + 1 - 1 - (k + 1) = m - 1 - k by omega, ← this]; rfl
theorem be_take (m x k : Nat) (h : k < m) : (be m x).take (k + 1) = (be m x).take k ++ [UInt8.ofNat (x / 256 ^ (m - 1 - k))] := by
  rw [List.take_add_one, be_get m x k h]; rfl
/-- the byte that a shift gives -/
theorem byte_val (m x k e : Nat) (he : e = 8 * (m - 1 - k)) : ((UInt8.ofNat (x / 256 ^ (m - 1 - k))).toNat : Int) = (x : Int) / 2 ^ e % 256 := by
  have e2 : (2 : Nat) ^ e = 256 ^ (m - 1 - k) := by rw [he, Nat.pow_mul]
  rw [UInt8.toNat_ofNat', ← e2, Int.natCast_emod, Int.natCast_ediv, Int.natCast_pow]; rfl
theorem be_mod (m x : Nat) : be m (x % 256 ^ m) = be m x := by
  suffices h : ∀ m M x, m ≤ M → be m (x % 256 ^ M) = be m x from h m m x (Nat.le_refl _)
  intro m
  induction m with
  | zero => intros; rfl
  | succ m ih =>
    intro M x h
    simp only [be]
    congr 1
    · apply UInt8.toNat_inj.1
      rw [UInt8.toNat_ofNat', UInt8.toNat_ofNat']
      have h1 : (256 : Nat) ^ M = 256 ^ m * (256 * 256 ^ (M - m - 1)) := by rw [← Nat.pow_succ', ← Nat.pow_add]; congr 1; omega
      rw [h1, Nat.mod_mul_right_div_self, Nat.mod_mul_right_mod]
    · exact ih M x (by omega)
end Go.Proofs.YtjfikbnfabdkoaaDoor.Be
