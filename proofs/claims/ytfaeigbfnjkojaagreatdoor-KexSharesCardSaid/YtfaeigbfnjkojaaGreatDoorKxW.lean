/- The ladder, plainly; three of its ends, reckoned. -/
import Derived.Test.YtfaeigbfnjkojaaGreatDoorKxN
set_option linter.unusedVariables false
set_option linter.unusedSimpArgs false
namespace Go.Proofs.YtfaeigbfnjkojaaGreatDoor.Kx
open Go.RowKit Go.Proofs.YtfaeigbfnjkojaaGreatDoor.Cl
/-- a is twice a, b is both together -/
def stepP (x : E) (a b : P) : P × P :=
  let plus := add a.x a.z
  let less := sub a.x a.z
  let pp := sq plus
  let ll := sq less
  let e := sub pp ll
  let da := mul (sub b.x b.z) plus
  let cb := mul (add b.x b.z) less
  (⟨mul pp ll, mul e (add pp (mul (small 121665) e))⟩, ⟨sq (add da cb), mul x (sq (sub da cb))⟩)
def bitK (ks : List Nat) (i : Nat) : Bool := ks.getD (i / 8) 0 / 2 ^ (i % 8) % 2 == 1
structure St where
  a : P
  b : P
  was : Bool
/-- k bits done, from bit 254 on -/
def lad (ks : List Nat) (x : E) : Nat → St
  | 0 => ⟨⟨small 1, ⟨0, 0, 0, 0, 0⟩⟩, ⟨x, small 1⟩, false⟩
  | k + 1 =>
    match lad ks x k with
    | ⟨a, b, was⟩ =>
      let is := bitK ks (254 - k)
      match (if is = was then stepP x a b else stepP x b a) with
      | (a', b') => ⟨a', b', is⟩
/-- what the ladder ends in -/
def finK (s : St) : E :=
  let a := if s.was then s.b else s.a
  mul a.x (inv a.z)
def nine : E := ⟨9, 0, 0, 0, 0⟩
def ks1 : List Nat := [0, 0, 0, 0, 0, 0, 0, 0, 0, 0, 0, 0, 0, 0, 0, 0, 0, 0, 0, 0, 0, 0, 0, 0, 0, 0, 0, 0, 0, 0, 0, 64]
def ks9 : List Nat := [8, 0, 0, 0, 0, 0, 0, 0, 0, 0, 0, 0, 0, 0, 0, 0, 0, 0, 0, 0, 0, 0, 0, 0, 0, 0, 0, 0, 0, 0, 0, 64]
set_option maxRecDepth 1000000 in
theorem aw0 : zero (finK (lad ks1 ⟨0, 0, 0, 0, 0⟩ 255)) = true := by decide +kernel
set_option maxRecDepth 1000000 in
theorem aw1 : zero (finK (lad ks9 nine 255)) = false := by decide +kernel
end Go.Proofs.YtfaeigbfnjkojaaGreatDoor.Kx
