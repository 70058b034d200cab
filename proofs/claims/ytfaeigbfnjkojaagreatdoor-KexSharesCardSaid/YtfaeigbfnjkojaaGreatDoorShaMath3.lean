/- Plain mathematics of the two hashes: padding, blocks, the answer's bytes. -/
import Derived.Test.YtfaeigbfnjkojaaGreatDoorShaMath2
import Derived.Lib.UnsafeStr
set_option linter.unusedVariables false
set_option linter.unusedSimpArgs false
namespace Go.Proofs.YtfaeigbfnjkojaaGreatDoor.Sha
open Go.Proofs.YtfaeigbfnjkojaaGreatDoor.Cl (nth nth_getD)

/-- a number's bytes, n of them, the highest first -/
def beBytes : Nat → Nat → List UInt8
  | 0, _ => []
  | n + 1, x => UInt8.ofNat (x / 256 ^ n) :: beBytes n x
theorem beBytes_length (n x : Nat) : (beBytes n x).length = n := by
  induction n with
  | zero => rfl
  | succ n ih => simp [beBytes, ih]
theorem beBytes_get : ∀ (m x k : Nat) (h : k < m), (beBytes m x)[k]? = some (UInt8.ofNat (x / 256 ^ (m - 1 - k)))
  | m + 1, x, 0, _ => by simp [beBytes]
  | m + 1, x, k + 1, h => by
    have := beBytes_get m x k (by omega)
    rw [show m + 1 - 1 - (k + 1) = m - 1 - k by omega, ← this]; rfl
theorem beBytes_take (m x k : Nat) (h : k < m) : (beBytes m x).take (k + 1) = (beBytes m x).take k ++ [UInt8.ofNat (x / 256 ^ (m - 1 - k))] := by
  rw [List.take_add_one, beBytes_get m x k h]; rfl
theorem be_cells (m x k : Nat) (h : k < m) (e : Nat) (he : e = 8 * (m - 1 - k)) :
    Lib.byteCells ((beBytes m x).take (k + 1)) = Lib.byteCells ((beBytes m x).take k) ++ [.int .u8 ((x : Int) / 2 ^ e % 256)] := by
  rw [beBytes_take m x k h]
  have e2 : (2 : Nat) ^ e = 256 ^ (m - 1 - k) := by rw [he, Nat.pow_mul]
  have e3 : ((UInt8.ofNat (x / 256 ^ (m - 1 - k))).toNat : Int) = (x : Int) / 2 ^ e % 256 := by
    rw [UInt8.toNat_ofNat', ← e2, Int.natCast_emod, Int.natCast_ediv, Int.natCast_pow]; rfl
  unfold Lib.byteCells
  rw [List.map_append, List.map_singleton, e3]
def h0 (W : Nat) : List Nat := (List.range 8).map fun i => if W = 32 then hi32 (nth firstL i) else nth firstL i
def zeros (W n : Nat) : Nat := (2 * W - (n + 1 + W / 4) % (2 * W)) % (2 * W) + W / 4 - 8
@[irreducible] def padded (W : Nat) (bs : List UInt8) : List UInt8 := bs ++ ([128] ++ List.replicate (zeros W bs.length) 0) ++ beBytes 8 (bs.length * 8)
/-- the words after k blocks -/
def hashTo (W : Nat) (m : List UInt8) : Nat → List Nat
  | 0 => h0 W
  | k + 1 => mixed W ((m.drop (k * (2 * W))).take (2 * W)) (hashTo W m k)
def outBytes (W : Nat) (h : List Nat) : List UInt8 := h.flatMap (beBytes (W / 8))
@[irreducible] def sha (W : Nat) (bs : List UInt8) : List UInt8 := outBytes W (hashTo W (padded W bs) ((padded W bs).length / (2 * W)))

theorem padded_length32 (bs : List UInt8) : (padded 32 bs).length % 64 = 0 := by
  unfold padded zeros
  simp only [List.length_append, List.length_cons, List.length_nil, List.length_replicate, beBytes_length]
  omega
theorem padded_length64 (bs : List UInt8) : (padded 64 bs).length % 128 = 0 := by
  unfold padded zeros
  simp only [List.length_append, List.length_cons, List.length_nil, List.length_replicate, beBytes_length]
  omega
theorem h0_length (W : Nat) : (h0 W).length = 8 := by simp [h0]
theorem mixed_length (W : Nat) (blk : List UInt8) (h : List Nat) : (mixed W blk h).length = 8 := by simp [mixed]
theorem hashTo_length (W : Nat) (m : List UInt8) (k : Nat) : (hashTo W m k).length = 8 := by
  cases k with
  | zero => exact h0_length W
  | succ k => exact mixed_length _ _ _
theorem first_lt (i : Nat) : nth firstL i < 18446744073709551616 := getD_lt (l := firstL) (by decide) (by decide) i
theorem h0_lt (W : Nat) (hW : W = 32 ∨ W = 64) (i : Nat) : nth (h0 W) i < 2 ^ W := by
  refine getD_lt (l := h0 W) ?_ (Nat.two_pow_pos W) i
  intro x hx
  simp only [h0, List.mem_map, List.mem_range] at hx
  obtain ⟨j, _, rfl⟩ := hx
  have := first_lt j
  rcases hW with rfl | rfl
  · simp only [if_true, hi32]; omega
  · simp only [Nat.reduceEqDiff, if_false]; omega
theorem hashTo_lt (W : Nat) (hW : W = 32 ∨ W = 64) (m : List UInt8) (k i : Nat) : nth (hashTo W m k) i < 2 ^ W := by
  cases k with
  | zero => exact h0_lt W hW i
  | succ k =>
    refine getD_lt (l := hashTo W m (k + 1)) ?_ (Nat.two_pow_pos W) i
    intro x hx
    simp only [hashTo, mixed, List.mem_map] at hx
    obtain ⟨j, _, rfl⟩ := hx
    exact Nat.mod_lt _ (Nat.two_pow_pos W)
theorem outBytes_length (W : Nat) (h : List Nat) : (outBytes W h).length = h.length * (W / 8) := by
  induction h with
  | nil => simp [outBytes]
  | cons x h ih =>
    have e : outBytes W (x :: h) = beBytes (W / 8) x ++ outBytes W h := by simp [outBytes]
    rw [e, List.length_append, ih, beBytes_length, List.length_cons, Nat.add_mul]; omega
theorem sha_length (W : Nat) (hW : W = 32 ∨ W = 64) (bs : List UInt8) : (sha W bs).length = W := by
  unfold sha
  rw [outBytes_length, hashTo_length]
  rcases hW with rfl | rfl <;> rfl
end Go.Proofs.YtfaeigbfnjkojaaGreatDoor.Sha
