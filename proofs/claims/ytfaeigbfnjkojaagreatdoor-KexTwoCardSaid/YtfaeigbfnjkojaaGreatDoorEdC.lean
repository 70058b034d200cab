/- Multiples of a point by the kernel: projective, over numbers. -/
import Derived.Test.YtfaeigbfnjkojaaGreatDoorEdB
set_option linter.unusedVariables false
set_option linter.unusedSimpArgs false
namespace Go.Proofs.YtfaeigbfnjkojaaGreatDoor.Ed
open Go.Proofs.YtfaeigbfnjkojaaGreatDoor.Nt
/-- (X, Y, Z) stands for p -/
structure Rep (p : Pt) (X Y Z : F) : Prop where
  x : X = p.x * Z
  y : Y = p.y * Z
  z : Z ≠ 0
/-- the reference's sum -/
def aB (z1 z2 : F) : F := (z1 * z2) * (z1 * z2)
def aE (d x1 y1 x2 y2 : F) : F := d * ((x1 * x2) * (y1 * y2))
def aX (d x1 y1 z1 x2 y2 z2 : F) : F := ((z1 * z2) * (aB z1 z2 - aE d x1 y1 x2 y2)) * (((x1 + y1) * (x2 + y2) - x1 * x2) - y1 * y2)
def aY (d x1 y1 z1 x2 y2 z2 : F) : F := ((z1 * z2) * (aB z1 z2 + aE d x1 y1 x2 y2)) * (x1 * x2 + y1 * y2)
def aZ (d x1 y1 z1 x2 y2 z2 : F) : F := (aB z1 z2 - aE d x1 y1 x2 y2) * (aB z1 z2 + aE d x1 y1 x2 y2)
theorem r_m (x1 y1 z1 x2 y2 z2 d : F) : aB z1 z2 - aE d (x1 * z1) (y1 * z1) (x2 * z2) (y2 * z2) = (z1 * z2) * (z1 * z2) * (1 - d * x1 * x2 * y1 * y2) := by unfold aB aE; grobner
theorem r_p (x1 y1 z1 x2 y2 z2 d : F) : aB z1 z2 + aE d (x1 * z1) (y1 * z1) (x2 * z2) (y2 * z2) = (z1 * z2) * (z1 * z2) * (1 + d * x1 * x2 * y1 * y2) := by unfold aB aE; grobner
theorem r_x (x1 y1 z1 x2 y2 z2 u t v : F) (hv : t * v = 1) :
    ((z1 * z2) * u) * ((((x1 * z1) + (y1 * z1)) * ((x2 * z2) + (y2 * z2)) - (x1 * z1) * (x2 * z2)) - (y1 * z1) * (y2 * z2)) = ((x1 * y2 + y1 * x2) * v) * (u * ((z1 * z2) * (z1 * z2) * t)) := by
  have h : ((x1 * y2 + y1 * x2) * v) * (u * ((z1 * z2) * (z1 * z2) * t)) = ((x1 * y2 + y1 * x2) * (u * ((z1 * z2) * (z1 * z2)))) * (t * v) := by grobner
  rw [h, hv]
  grobner
theorem r_y (x1 y1 z1 x2 y2 z2 u t v : F) (hv : t * v = 1) :
    ((z1 * z2) * u) * ((x1 * z1) * (x2 * z2) + (y1 * z1) * (y2 * z2)) = ((y1 * y2 + x1 * x2) * v) * (((z1 * z2) * (z1 * z2) * t) * u) := by
  have h : ((y1 * y2 + x1 * x2) * v) * (((z1 * z2) * (z1 * z2) * t) * u) = ((y1 * y2 + x1 * x2) * (u * ((z1 * z2) * (z1 * z2)))) * (t * v) := by grobner
  rw [h, hv]
  grobner
theorem Rep.add {p q : Pt} {x1 y1 z1 x2 y2 z2 : F} (hp : Rep p x1 y1 z1) (hq : Rep q x2 y2 z2) :
    Rep (p.add q) (aX dE x1 y1 z1 x2 y2 z2) (aY dE x1 y1 z1 x2 y2 z2) (aZ dE x1 y1 z1 x2 y2 z2) := by
  obtain ⟨a1, a2, a3⟩ := hp
  obtain ⟨b1, b2, b3⟩ := hq
  subst a1 a2 b1 b2
  have hm := den_m p.h q.h
  have hp := den_p p.h q.h
  have hzz := mul_ne a3 b3
  refine ⟨?_, ?_, ?_⟩
  · unfold aX aZ
    rw [r_m, r_p]
    exact r_x _ _ _ _ _ _ _ _ _ (mul_inv hp)
  · unfold aY aZ
    rw [r_m, r_p]
    exact r_y _ _ _ _ _ _ _ _ _ (mul_inv hm)
  · unfold aZ
    rw [r_m, r_p]
    exact mul_ne (mul_ne (mul_ne hzz hzz) hm) (mul_ne (mul_ne hzz hzz) hp)
theorem e_z (z : F) : (0 : F) = 0 * z := by grobner
theorem e_o (z : F) : z = 1 * z := by grobner
theorem Rep.zero : Rep Pt.zero 0 1 1 := ⟨e_z 1, e_o 1, one_ne⟩
theorem Rep.of (p : Pt) : Rep p p.x p.y 1 := ⟨by rw [m_one], by rw [m_one], one_ne⟩
/-- two that stand for one point -/
theorem Rep.x_eq {p : Pt} {X Y Z : F} (h : Rep p X Y Z) : X * inv Z = p.x := by
  rw [h.x]
  have := mul_inv h.z
  have e : p.x * Z * inv Z = p.x * (Z * inv Z) := by grobner
  rw [e, this, m_one]
theorem Rep.y_eq {p : Pt} {X Y Z : F} (h : Rep p X Y Z) : Y * inv Z = p.y := by
  rw [h.y]
  have := mul_inv h.z
  have e : p.y * Z * inv Z = p.y * (Z * inv Z) := by grobner
  rw [e, this, m_one]
theorem x_0 (z : F) (h : 0 * z = z) : z = 0 := by grobner
/-- over numbers, each reckoned ahead -/
def frc {α : Type} (n : Nat) (k : Nat → α) : α := Nat.rec (k 0) (fun m _ => k (m + 1)) n
theorem frc_eq {α : Type} (n : Nat) (k : Nat → α) : frc n k = k n := by cases n <;> rfl
def kAdd {α : Type} (X1 Y1 Z1 X2 Y2 Z2 : Nat) (k : Nat → Nat → Nat → α) : α :=
  frc (Z1 * Z2 % P) fun a => frc (a * a % P) fun b => frc (X1 * X2 % P) fun x => frc (Y1 * Y2 % P) fun y => frc (dE.val * (x * y % P) % P) fun e =>
  frc ((P - e + b) % P) fun f => frc ((b + e) % P) fun g => frc ((P - y + (P - x + (X1 + Y1) % P * ((X2 + Y2) % P) % P) % P) % P) fun c =>
  frc (a * f % P * c % P) fun X => frc (a * g % P * ((x + y) % P) % P) fun Y => frc (f * g % P) fun Z => k X Y Z
def kDbl {α : Type} (X Y Z : Nat) : Nat → Nat → (Nat → Nat → Nat → α) → α
  | 0, _, k => k 0 1 1
  | f + 1, n, k => frc (n / 2) fun m => kDbl X Y Z f m fun A B C => kAdd A B C A B C fun A B C => frc (n % 2) fun o =>
    Nat.rec (k A B C) (fun _ _ => kAdd A B C X Y Z k) o
theorem v_sub (a b : F) : (a - b).val = (P - b.val + a.val) % P := rfl
theorem v_add (a b : F) : (a + b).val = (a.val + b.val) % P := rfl
theorem kAdd_eq {α : Type} (x1 y1 z1 x2 y2 z2 : F) (k : Nat → Nat → Nat → α) :
    kAdd x1.val y1.val z1.val x2.val y2.val z2.val k = k (aX dE x1 y1 z1 x2 y2 z2).val (aY dE x1 y1 z1 x2 y2 z2).val (aZ dE x1 y1 z1 x2 y2 z2).val := by
  unfold kAdd
  simp only [frc_eq, ← val_mul, ← v_add, ← v_sub]
  rfl
theorem kDbl_eq (q : Pt) {X Y Z : F} (hq : Rep q X Y Z) : ∀ (f n : Nat), ∃ A B C : F, Rep (Pt.dbl q n f) A B C ∧ ∀ (α : Type) (k : Nat → Nat → Nat → α), kDbl X.val Y.val Z.val f n k = k A.val B.val C.val
  | 0, n => ⟨0, 1, 1, Rep.zero, fun α k => rfl⟩
  | f + 1, n => by
    obtain ⟨A, B, C, h1, h2⟩ := kDbl_eq q hq f (n / 2)
    have h3 := h1.add h1
    have h4 := h3.add hq
    by_cases hb : n % 2 = 1
    · have e : Pt.dbl q n (f + 1) = ((Pt.dbl q (n / 2) f).add (Pt.dbl q (n / 2) f)).add q := by rw [Pt.dbl]; simp only [hb, if_true]
      rw [e]
      refine ⟨_, _, _, h4, fun α k => ?_⟩
      unfold kDbl
      rw [frc_eq, h2, kAdd_eq, frc_eq, hb]
      show kAdd _ _ _ _ _ _ k = _
      rw [kAdd_eq]
    · have hb0 : n % 2 = 0 := by omega
      have e : Pt.dbl q n (f + 1) = (Pt.dbl q (n / 2) f).add (Pt.dbl q (n / 2) f) := by rw [Pt.dbl]; simp only [hb, if_false]
      rw [e]
      refine ⟨_, _, _, h3, fun α k => ?_⟩
      unfold kDbl
      rw [frc_eq, h2, kAdd_eq, frc_eq, hb0]
      rfl
/-- L, the base's order -/
abbrev L : Nat := 7237005577332262213973186563042994240857116359379907606001950938285454250989
theorem ord_k : (kDbl bx.val byy.val 1 253 L fun A B C => A == 0 && B == C) = true := by decide +kernel
theorem ord_base : Pt.mul L base = Pt.zero := by
  obtain ⟨A, B, C, h1, h2⟩ := kDbl_eq base (Rep.of base) 253 L
  have h3 := h2 Bool (fun A B C => A == 0 && B == C)
  have h4 := ord_k
  rw [show (1 : Nat) = (1 : F).val from rfl] at h4
  rw [show kDbl bx.val byy.val (1 : F).val 253 L (fun A B C => A == 0 && B == C) = _ from h3] at h4
  rw [Bool.and_eq_true, beq_iff_eq, beq_iff_eq] at h4
  rw [Pt.dbl_eq base 253 L (by decide +kernel)] at h1
  have hA : A = 0 := Fin.ext h4.1
  have hB : B = C := Fin.ext h4.2
  apply Pt.eq
  · rw [← h1.x_eq, hA]
    show 0 * inv C = (0 : F)
    exact n_0 _
  · rw [← h1.y_eq, hB, mul_inv h1.z]
    rfl
end Go.Proofs.YtfaeigbfnjkojaaGreatDoor.Ed
