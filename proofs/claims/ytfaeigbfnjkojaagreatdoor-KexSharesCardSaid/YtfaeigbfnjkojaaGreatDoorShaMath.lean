/- Plain mathematics of the two hashes: no program in sight. -/
import Derived.WalkKit
import Derived.Test.YtfaeigbfnjkojaaGreatDoorGenA
set_option linter.unusedVariables false
set_option linter.unusedSimpArgs false
namespace Go.Proofs.YtfaeigbfnjkojaaGreatDoor.Sha
open Go.Proofs.YtfaeigbfnjkojaaGreatDoor.Cl (nth nth_getD)

/-- turned to the right, in words of W bits -/
def rot (W x n : Nat) : Nat := (x / 2 ^ n ||| x * 2 ^ (W - n)) % 2 ^ W

theorem rot_lt (W x n : Nat) : rot W x n < 2 ^ W := Nat.mod_lt _ (Nat.two_pow_pos W)

theorem rot_left (W x n : Nat) (hx : x < 2 ^ W) : (x * 2 ^ (W - n) % 2 ^ W) ||| (x / 2 ^ n) = rot W x n := by
  unfold rot
  rw [Nat.or_mod_two_pow, Nat.mod_eq_of_lt (Nat.lt_of_le_of_lt (Nat.div_le_self x _) hx), Nat.or_comm]

/-- two turns and a third thing -/
def three (W x a b c : Nat) : Nat := rot W x a ^^^ rot W x b ^^^ rot W x c
def threeS (W x a b c : Nat) : Nat := rot W x a ^^^ rot W x b ^^^ (x / 2 ^ c)

theorem three_lt (W x a b c : Nat) : three W x a b c < 2 ^ W :=
  Nat.xor_lt_two_pow (Nat.xor_lt_two_pow (rot_lt _ _ _) (rot_lt _ _ _)) (rot_lt _ _ _)
theorem threeS_lt (W x a b c : Nat) (hx : x < 2 ^ W) : threeS W x a b c < 2 ^ W :=
  Nat.xor_lt_two_pow (Nat.xor_lt_two_pow (rot_lt _ _ _) (rot_lt _ _ _)) (Nat.lt_of_le_of_lt (Nat.div_le_self x _) hx)

/-- bytes as a number, the first the highest -/
def beN (l : List UInt8) : Nat := l.foldl (fun a b => a * 256 + b.toNat) 0
theorem beN_snoc (l : List UInt8) (b : UInt8) : beN (l ++ [b]) = beN l * 256 + b.toNat := by simp [beN]
theorem beN_lt : ∀ (l : List UInt8), beN l < 256 ^ l.length := by
  suffices ∀ (l : List UInt8) (m : Nat), l.reverse.length = m → beN l.reverse < 256 ^ m by
    intro l; have := this l.reverse l.length (by simp); rwa [List.reverse_reverse] at this
  intro l
  induction l with
  | nil => intro m h; simp at h; subst h; decide
  | cons b l ih =>
    intro m h
    simp at h
    subst h
    rw [List.reverse_cons, beN_snoc]
    have := ih l.length (by simp)
    have hb : b.toNat < 256 := b.toNat_lt
    rw [Nat.pow_succ]
    omega

/-- the functions on words, at either width -/
def sg0 (W x : Nat) : Nat := if W = 32 then threeS 32 x 7 18 3 else threeS 64 x 1 8 7
def sg1 (W x : Nat) : Nat := if W = 32 then threeS 32 x 17 19 10 else threeS 64 x 19 61 6
def ep0 (W x : Nat) : Nat := if W = 32 then three 32 x 2 13 22 else three 64 x 28 34 39
def ep1 (W x : Nat) : Nat := if W = 32 then three 32 x 6 11 25 else three 64 x 14 18 41

/-- the first t words of a block -/
def sched (W : Nat) (blk : List UInt8) : Nat → List Nat
  | 0 => []
  | t + 1 =>
    let l := sched W blk t
    l ++ [if t < 16 then beN ((blk.drop (t * (W / 8))).take (W / 8))
      else (sg1 W (nth l (t - 2)) + nth l (t - 7) + sg0 W (nth l (t - 15)) + nth l (t - 16)) % 2 ^ W]
theorem sched_length (W : Nat) (blk : List UInt8) (t : Nat) : (sched W blk t).length = t := by
  induction t with
  | zero => rfl
  | succ t ih => simp [sched, ih]
theorem sched_lt (W : Nat) (hW : W = 32 ∨ W = 64) (blk : List UInt8) (t : Nat) : ∀ x ∈ sched W blk t, x < 2 ^ W := by
  induction t with
  | zero => simp [sched]
  | succ t ih =>
    intro x hx
    simp only [sched, List.mem_append, List.mem_singleton] at hx
    rcases hx with hx | rfl
    · exact ih x hx
    · split
      · have h1 := beN_lt ((blk.drop (t * (W / 8))).take (W / 8))
        have h2 : ((blk.drop (t * (W / 8))).take (W / 8)).length ≤ W / 8 := List.length_take_le _ _
        refine Nat.lt_of_lt_of_le h1 (Nat.le_trans (Nat.pow_le_pow_right (by decide) h2) ?_)
        rcases hW with rfl | rfl <;> decide
      · exact Nat.mod_lt _ (Nat.two_pow_pos W)
theorem getD_lt {l : List Nat} {b : Nat} (h : ∀ x ∈ l, x < b) (hb : 0 < b) (i : Nat) : nth l i < b := by
  rw [nth_getD, List.getD_eq_getElem?_getD]
  cases hi : l[i]? with
  | none => simpa using hb
  | some x => simpa using h x (List.mem_of_getElem? hi)

/-- 80 places -/
def pad80 (l : List Nat) : List Nat := l ++ List.replicate (80 - l.length) 0
theorem pad80_length (l : List Nat) (h : l.length ≤ 80) : (pad80 l).length = 80 := by simp [pad80]; omega
theorem pad80_getD (l : List Nat) (i : Nat) (h : i < l.length) : nth (pad80 l) i = nth l i := by
  simp [nth, pad80, List.getElem?_append_left h]
theorem pad80_set (l : List Nat) (x : Nat) (h : l.length < 80) : (pad80 l).set l.length x = pad80 (l ++ [x]) := by
  obtain ⟨m, hm⟩ : ∃ m, 80 - l.length = m + 1 := ⟨80 - l.length - 1, by omega⟩
  have h2 : 80 - (l.length + 1) = m := by omega
  simp [pad80, hm, h2, List.replicate_succ]
theorem pad80_at (l : List Nat) (h : l.length < 80) : nth (pad80 l) l.length = 0 := by
  simp only [nth, pad80, List.getD_eq_getElem?_getD, List.getElem?_append_right (Nat.le_refl _), List.getElem?_replicate]
  split <;> rfl

/-- partial word -/
def part (W : Nat) (blk : List UInt8) (t j : Nat) : Nat := beN ((blk.drop (t * (W / 8))).take j)
theorem part_succ (W : Nat) (blk : List UInt8) (t j : Nat) (h : t * (W / 8) + j < blk.length) : part W blk t (j + 1) = part W blk t j * 256 + (blk[t * (W / 8) + j]).toNat := by
  unfold part
  rw [List.take_add_one, List.getElem?_drop, List.getElem?_eq_getElem h]
  exact beN_snoc _ _
theorem part_lt (W : Nat) (blk : List UInt8) (t j : Nat) : part W blk t j < 256 ^ j :=
  Nat.lt_of_lt_of_le (beN_lt _) (Nat.pow_le_pow_right (by decide) (List.length_take_le _ _))
theorem or_byte (a : Nat) (b : UInt8) : a * 256 ||| b.toNat = a * 256 + b.toNat :=
  nat_join 8 (a * 256) b.toNat (by omega) (by have := b.toNat_lt; omega)
end Go.Proofs.YtfaeigbfnjkojaaGreatDoor.Sha
