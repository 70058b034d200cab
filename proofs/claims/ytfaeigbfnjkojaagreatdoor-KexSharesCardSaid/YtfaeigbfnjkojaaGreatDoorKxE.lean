/- A product's limb in two words: a product is added. -/
import Derived.Test.YtfaeigbfnjkojaaGreatDoorKxD
import Derived.Laws.Externs
import Derived.Shelf.Spec.BitsCarry
set_option linter.unusedVariables false
set_option linter.unusedSimpArgs false
namespace Go.Proofs.YtfaeigbfnjkojaaGreatDoor.Kx
open Go.RowKit Go.Proofs.YtfaeigbfnjkojaaGreatDoor.Cl
/-- each sum in two words -/
def fl : List Nat → List Nat
  | [] => []
  | t :: ts => t % M :: t / M % M :: fl ts
theorem fl_len : ∀ ts : List Nat, (fl ts).length = 2 * ts.length
  | [] => rfl
  | t :: ts => by simp [fl, fl_len ts]; omega
theorem fl_lo : ∀ (ts : List Nat) (j : Nat), nth (fl ts) (2 * j) = nth ts j % M
  | [], j => by simp [fl, nth]
  | t :: ts, 0 => rfl
  | t :: ts, j + 1 => by
    have h := fl_lo ts j
    rw [show 2 * (j + 1) = 2 * j + 2 by omega]
    exact h
theorem fl_hi : ∀ (ts : List Nat) (j : Nat), nth (fl ts) (2 * j + 1) = nth ts j / M % M
  | [], j => by simp [fl, nth]
  | t :: ts, 0 => rfl
  | t :: ts, j + 1 => by
    have h := fl_hi ts j
    rw [show 2 * (j + 1) + 1 = 2 * j + 1 + 2 by omega]
    exact h
theorem fl_set : ∀ (ts : List Nat) (j t : Nat), ((fl ts).set (2 * j) (t % M)).set (2 * j + 1) (t / M % M) = fl (ts.set j t)
  | [], j, t => by simp [fl]
  | u :: ts, 0, t => rfl
  | u :: ts, j + 1, t => by
    have h := fl_set ts j t
    rw [show 2 * (j + 1) = 2 * j + 2 by omega, show 2 * j + 2 + 1 = 2 * j + 1 + 2 by omega]
    simp only [fl, List.set_cons_succ, h]
theorem sum_lo (t p : Nat) : (t % M + p % M) % M = (t + p) % M := (Nat.add_mod t p M).symm
theorem sum_hi (t p : Nat) : (t / M % M + p / M + (t % M + p % M) / M) % M = (t + p) / M % M := by
  unfold M
  omega
theorem add64_run (x y c : Nat) (hc : c ≤ 1) (w : World) :
    (callFunc 44 #[.int .u64 (x : Int), .int .u64 (y : Int), .int .u64 (c : Int)]).run Tryz.prog w =
      .ok (.value (.tuple #[.int .u64 (((x + y + c) % M : Nat) : Int), .int .u64 (((x + y + c) / M : Nat) : Int)])) w := by
  rw [run_callFunc_extern Tryz.func44 (by kernel_rfl) (by kernel_rfl) (by kernel_rfl) (e := add64Entry) (by kernel_rfl), run_add64 x y c (by omega) (by omega) (by omega) (by omega)]
  simp only [Result.andThen]
  unfold M
  congr 5 <;> omega
theorem add64_0 (x y : Nat) (w : World) :
    (callFunc 44 #[.int .u64 (x : Int), .int .u64 (y : Int), .int .u64 0]).run Tryz.prog w =
      .ok (.value (.tuple #[.int .u64 (((x + y) % M : Nat) : Int), .int .u64 (((x + y) / M : Nat) : Int)])) w := add64_run x y 0 (by decide) w
end Go.Proofs.YtfaeigbfnjkojaaGreatDoor.Kx
