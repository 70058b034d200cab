/- The ladder's steps, plainly: what stands for a point by its y alone. -/
import Derived.Test.YtfaeigbfnjkojaaGreatDoorEdC
set_option linter.unusedVariables false
set_option linter.unusedSimpArgs false
namespace Go.Proofs.YtfaeigbfnjkojaaGreatDoor.Ed
open Go.Proofs.YtfaeigbfnjkojaaGreatDoor.Nt
/-- (X, Z) stands for p up to its sign: X by Z is (1 + y) by (1 - y) -/
def U (p : Pt) (X Z : F) : Prop := ∃ s : F, s ≠ 0 ∧ X = s * (1 + p.y) ∧ Z = s * (1 - p.y)
def kE : F := 121666
theorem kE_d : kE * (1 + dE) = 1 := by decide +kernel
theorem kE_ne : kE ≠ 0 := by decide +kernel
theorem kE_1 : (121665 : F) = kE - 1 := by decide +kernel
theorem c8_ne : (8 : F) ≠ 0 := by decide +kernel
theorem c16_ne : (16 : F) ≠ 0 := by decide +kernel
theorem y_sq {x y d k : F} (h : 0 - x * x + y * y - 1 - d * x * x * y * y = 0) (hk : k * (1 + d) = 1) : y * y = k * (1 + d * y * y) * (1 + x * x) := by
  have h1 : k * (1 + d * y * y) * (1 + x * x) = k * (1 + d) * (y * y) - k * (0 - x * x + y * y - 1 - d * x * x * y * y) := by grobner
  rw [h1, h, hk]
  grobner
theorem o_z (y d : F) (h : y * y = 0) : 1 + d * y * y = 1 := by
  have h1 : d * y * y = d * (y * y) := by grobner
  rw [h1, h]; grobner
theorem z_m2 (k z : F) (h : z = 0) (x : F) : k * z * x = 0 := by rw [h]; grobner
theorem D_ne {x y : F} (h : on x y) : 1 + dE * y * y ≠ 0 := fun hz => by
  have h1 := y_sq h kE_d
  have h2 : y * y = 0 := by rw [h1]; exact z_m2 _ _ hz _
  have h3 := o_z y dE h2
  rw [hz] at h3
  exact zero_ne h3
theorem d_e {x y d : F} (h : 0 - x * x + y * y - 1 - d * x * x * y * y = 0) : 1 - d * x * x * y * y = 2 - y * y + x * x := by grobner
theorem d_xv (s k D x y E v : F) (hv : E * v = 1) (hE : E = 2 - y * y + x * x) (hy : y * y = k * D * (1 + x * x)) :
    ((s * (1 + y) + s * (1 - y)) * (s * (1 + y) + s * (1 - y))) * ((s * (1 + y) - s * (1 - y)) * (s * (1 + y) - s * (1 - y))) = (8 * (s * s) * (s * s) * k * D * E) * (1 + (y * y + x * x) * v) := by
  have h1 : (8 * (s * s) * (s * s) * k * D * E) * (1 + (y * y + x * x) * v) = (8 * (s * s) * (s * s) * k * D) * (E + (y * y + x * x) * (E * v)) := by grobner
  rw [h1, hv, hE]
  have h2 : (8 * (s * s) * (s * s) * k * D) * ((2 - y * y + x * x) + (y * y + x * x) * 1) = 16 * (s * s) * (s * s) * (k * D * (1 + x * x)) := by grobner
  rw [h2, ← hy]
  grobner
theorem d_zv (s k d x y E v : F) (hv : E * v = 1) (hE : E = 2 - y * y + x * x) (hk : k * (1 + d) = 1) :
    (((s * (1 + y) + s * (1 - y)) * (s * (1 + y) + s * (1 - y))) - ((s * (1 + y) - s * (1 - y)) * (s * (1 + y) - s * (1 - y)))) * (((s * (1 + y) + s * (1 - y)) * (s * (1 + y) + s * (1 - y))) + (k - 1) * (((s * (1 + y) + s * (1 - y)) * (s * (1 + y) + s * (1 - y))) - ((s * (1 + y) - s * (1 - y)) * (s * (1 + y) - s * (1 - y))))) =
      (8 * (s * s) * (s * s) * k * (1 + d * y * y) * E) * (1 - (y * y + x * x) * v) := by
  have h1 : (8 * (s * s) * (s * s) * k * (1 + d * y * y) * E) * (1 - (y * y + x * x) * v) = (8 * (s * s) * (s * s) * k * (1 + d * y * y)) * (E - (y * y + x * x) * (E * v)) := by grobner
  rw [h1, hv, hE]
  have h3 : k * d = 1 - k := by grobner
  have h2 : (8 * (s * s) * (s * s) * k * (1 + d * y * y)) * ((2 - y * y + x * x) - (y * y + x * x) * 1) = 16 * (s * s) * (s * s) * (1 - y * y) * (k + (k * d) * (y * y)) := by grobner
  rw [h2, h3]
  grobner
theorem U.dbl {p : Pt} {X Z : F} (h : U p X Z) :
    U (p.add p) (((X + Z) * (X + Z)) * ((X - Z) * (X - Z))) ((((X + Z) * (X + Z)) - ((X - Z) * (X - Z))) * (((X + Z) * (X + Z)) + 121665 * (((X + Z) * (X + Z)) - ((X - Z) * (X - Z))))) := by
  obtain ⟨s, hs, hX, hZ⟩ := h
  subst hX hZ
  have hD := D_ne p.h
  have hE := den_m p.h p.h
  refine ⟨8 * (s * s) * (s * s) * kE * (1 + dE * p.y * p.y) * (1 - dE * p.x * p.x * p.y * p.y), mul_ne (mul_ne (mul_ne (mul_ne (mul_ne c8_ne (mul_ne hs hs)) (mul_ne hs hs)) kE_ne) hD) hE, ?_, ?_⟩
  · exact d_xv s kE _ p.x p.y _ _ (mul_inv hE) (d_e p.h) (y_sq p.h kE_d)
  · rw [kE_1]
    exact d_zv s kE dE p.x p.y _ _ (mul_inv hE) (d_e p.h) kE_d
theorem h_mm {x1 y1 x2 y2 d : F} (h1 : 0 - x1 * x1 + y1 * y1 - 1 - d * x1 * x1 * y1 * y1 = 0) (h2 : 0 - x2 * x2 + y2 * y2 - 1 - d * x2 * x2 * y2 * y2 = 0) :
    (x1 * x2) * (x1 * x2) * ((1 + d * y1 * y1) * (1 + d * y2 * y2)) = (y1 * y1 - 1) * (y2 * y2 - 1) := by
  have a1 : x1 * x1 * (1 + d * y1 * y1) = y1 * y1 - 1 := by grobner
  have a2 : x2 * x2 * (1 + d * y2 * y2) = y2 * y2 - 1 := by grobner
  have a3 : (x1 * x2) * (x1 * x2) * ((1 + d * y1 * y1) * (1 + d * y2 * y2)) = (x1 * x1 * (1 + d * y1 * y1)) * (x2 * x2 * (1 + d * y2 * y2)) := by grobner
  rw [a3, a1, a2]
theorem i_A {x1 y1 x2 y2 d : F} (hm : (x1 * x2) * (x1 * x2) * ((1 + d * y1 * y1) * (1 + d * y2 * y2)) = (y1 * y1 - 1) * (y2 * y2 - 1)) :
    (1 + d * (y1 * y2) * (y1 * y2)) * (1 - d * (y1 * y2) * (y1 * y2) + d * (y1 * y1 + y2 * y2)) = (1 + d * y1 * y1) * (1 + d * y2 * y2) * ((1 - d * x1 * x2 * y1 * y2) * (1 + d * x1 * x2 * y1 * y2)) := by
  have a1 : (1 + d * y1 * y1) * (1 + d * y2 * y2) * ((1 - d * x1 * x2 * y1 * y2) * (1 + d * x1 * x2 * y1 * y2)) = (1 + d * y1 * y1) * (1 + d * y2 * y2) - d * d * (y1 * y2) * (y1 * y2) * ((x1 * x2) * (x1 * x2) * ((1 + d * y1 * y1) * (1 + d * y2 * y2))) := by grobner
  rw [a1, hm]
  grobner
theorem i_B {x1 y1 x2 y2 d : F} (hm : (x1 * x2) * (x1 * x2) * ((1 + d * y1 * y1) * (1 + d * y2 * y2)) = (y1 * y1 - 1) * (y2 * y2 - 1)) :
    ((1 - d * x1 * x2 * y1 * y2) + (y1 * y2 + x1 * x2)) * ((1 + d * x1 * x2 * y1 * y2) + (y1 * y2 - x1 * x2)) * ((1 + d * y1 * y1) * (1 + d * y2 * y2)) = (1 + d) * ((y1 + y2) * (y1 + y2)) * (1 + d * (y1 * y2) * (y1 * y2)) := by
  have a1 : ((1 - d * x1 * x2 * y1 * y2) + (y1 * y2 + x1 * x2)) * ((1 + d * x1 * x2 * y1 * y2) + (y1 * y2 - x1 * x2)) * ((1 + d * y1 * y1) * (1 + d * y2 * y2)) = (1 + y1 * y2) * (1 + y1 * y2) * ((1 + d * y1 * y1) * (1 + d * y2 * y2)) - (1 - d * (y1 * y2)) * (1 - d * (y1 * y2)) * ((x1 * x2) * (x1 * x2) * ((1 + d * y1 * y1) * (1 + d * y2 * y2))) := by grobner
  rw [a1, hm]
  grobner
theorem i_C {x1 y1 x2 y2 d : F} (hm : (x1 * x2) * (x1 * x2) * ((1 + d * y1 * y1) * (1 + d * y2 * y2)) = (y1 * y1 - 1) * (y2 * y2 - 1)) :
    ((1 - d * x1 * x2 * y1 * y2) - (y1 * y2 + x1 * x2)) * ((1 + d * x1 * x2 * y1 * y2) - (y1 * y2 - x1 * x2)) * ((1 + d * y1 * y1) * (1 + d * y2 * y2)) = (1 + d) * ((y1 - y2) * (y1 - y2)) * (1 + d * (y1 * y2) * (y1 * y2)) := by
  have a1 : ((1 - d * x1 * x2 * y1 * y2) - (y1 * y2 + x1 * x2)) * ((1 + d * x1 * x2 * y1 * y2) - (y1 * y2 - x1 * x2)) * ((1 + d * y1 * y1) * (1 + d * y2 * y2)) = (1 - y1 * y2) * (1 - y1 * y2) * ((1 + d * y1 * y1) * (1 + d * y2 * y2)) - (1 + d * (y1 * y2)) * (1 + d * (y1 * y2)) * ((x1 * x2) * (x1 * x2) * ((1 + d * y1 * y1) * (1 + d * y2 * y2))) := by grobner
  rw [a1, hm]
  grobner
/-- the products of both y's: g is what stands below -/
theorem s_p {Q E1 E2 D g a b u v c k d : F} (hQ : Q ≠ 0) (h1 : E1 * v = 1) (h2 : E2 * u = 1) (hA : Q * g = D * (E1 * E2)) (hB : (E1 + a) * (E2 + b) * D = (1 + d) * c * Q) (hk : k * (1 + d) = 1) :
    k * g * ((1 + a * v) * (1 + b * u)) = c := by
  refine cancel hQ ?_
  have a1 : Q * (k * g * ((1 + a * v) * (1 + b * u))) = k * ((Q * g) * ((1 + a * v) * (1 + b * u))) := by grobner
  have a2 : k * ((D * (E1 * E2)) * ((1 + a * v) * (1 + b * u))) = k * ((E1 + a * (E1 * v)) * (E2 + b * (E2 * u)) * D) := by grobner
  rw [a1, hA, a2, h1, h2, m_one, m_one, hB]
  have a3 : k * ((1 + d) * c * Q) = k * (1 + d) * (Q * c) := by grobner
  rw [a3, hk]
  grobner
theorem s_x (s1 s2 y1 y2 c : F) (h : c = (y1 + y2) * (y1 + y2)) : ((s2 * (1 + y2) - s2 * (1 - y2)) * (s1 * (1 + y1) + s1 * (1 - y1)) + (s2 * (1 + y2) + s2 * (1 - y2)) * (s1 * (1 + y1) - s1 * (1 - y1))) * ((s2 * (1 + y2) - s2 * (1 - y2)) * (s1 * (1 + y1) + s1 * (1 - y1)) + (s2 * (1 + y2) + s2 * (1 - y2)) * (s1 * (1 + y1) - s1 * (1 - y1))) = 16 * (s1 * s1) * (s2 * s2) * c := by
  rw [h]; grobner
theorem s_z (s1 s2 y1 y2 c : F) (h : c = (y1 - y2) * (y1 - y2)) : ((s2 * (1 + y2) - s2 * (1 - y2)) * (s1 * (1 + y1) + s1 * (1 - y1)) - (s2 * (1 + y2) + s2 * (1 - y2)) * (s1 * (1 + y1) - s1 * (1 - y1))) * ((s2 * (1 + y2) - s2 * (1 - y2)) * (s1 * (1 + y1) + s1 * (1 - y1)) - (s2 * (1 + y2) + s2 * (1 - y2)) * (s1 * (1 + y1) - s1 * (1 - y1))) = 16 * (s1 * s1) * (s2 * s2) * c := by
  rw [h]; grobner
theorem f_x (a b k g p m : F) : 16 * a * b * (k * g * ((1 + p) * (1 + m))) = (16 * a * b * k * g * (1 + m)) * (1 + p) := by grobner
theorem f_z (x a b k g p m : F) (hx : x * (1 - m) = 1 + m) : x * (16 * a * b * (k * g * ((1 - p) * (1 - m)))) = (16 * a * b * k * g * (1 + m)) * (1 - p) := by
  have h : x * (16 * a * b * (k * g * ((1 - p) * (1 - m)))) = 16 * a * b * (k * g * (1 - p)) * (x * (1 - m)) := by grobner
  rw [h, hx]; grobner
theorem n_den (d x1 x2 y1 y2 : F) : 1 - d * x2 * (0 - x1) * y2 * y1 = 1 + d * x1 * x2 * y1 * y2 := by grobner
theorem n_num (x1 x2 y1 y2 : F) : y2 * y1 + x2 * (0 - x1) = y1 * y2 - x1 * x2 := by grobner
theorem neg_mul (a v : F) : 1 + (0 - a) * v = 1 - a * v := by grobner
theorem a_neg (e a : F) : e - a = e + (0 - a) := by grobner
theorem mul0 (a b : F) (h : a = 0) : a * b = 0 := by rw [h]; exact n_0 b
theorem U.sum {p q : Pt} {X1 Z1 X2 Z2 x : F} (h1 : U p X1 Z1) (h2 : U q X2 Z2) (hx : x * (1 - (q.add p.neg).y) = 1 + (q.add p.neg).y) (hm : 1 + (q.add p.neg).y ≠ 0) :
    U (p.add q) (((X2 - Z2) * (X1 + Z1) + (X2 + Z2) * (X1 - Z1)) * ((X2 - Z2) * (X1 + Z1) + (X2 + Z2) * (X1 - Z1))) (x * (((X2 - Z2) * (X1 + Z1) - (X2 + Z2) * (X1 - Z1)) * ((X2 - Z2) * (X1 + Z1) - (X2 + Z2) * (X1 - Z1)))) := by
  obtain ⟨s1, hs1, hX1, hZ1⟩ := h1
  obtain ⟨s2, hs2, hX2, hZ2⟩ := h2
  subst hX1 hZ1 hX2 hZ2
  have hD := mul_ne (D_ne p.h) (D_ne q.h)
  have hE1 := den_m p.h q.h
  have hE2 : 1 + dE * p.x * q.x * p.y * q.y ≠ 0 := den_p p.h q.h
  have hmm := h_mm p.h q.h
  have hA := i_A hmm
  have hQ : 1 + dE * (p.y * q.y) * (p.y * q.y) ≠ 0 := fun h0 => mul_ne hD (mul_ne hE1 hE2) (by rw [← hA]; exact mul0 _ _ h0)
  have hg : 1 - dE * (p.y * q.y) * (p.y * q.y) + dE * (p.y * p.y + q.y * q.y) ≠ 0 := fun h0 => mul_ne hD (mul_ne hE1 hE2) (by rw [← hA, h0]; exact (by grobner : ∀ z : F, z * 0 = 0) _)
  have em : (q.add p.neg).y = (p.y * q.y - p.x * q.x) * inv (1 + dE * p.x * q.x * p.y * q.y) := by
    show (q.y * p.y + q.x * (0 - p.x)) * inv (1 - dE * q.x * (0 - p.x) * q.y * p.y) = _
    rw [n_den, n_num]
  have ep : (p.add q).y = (p.y * q.y + p.x * q.x) * inv (1 - dE * p.x * q.x * p.y * q.y) := rfl
  rw [em] at hx hm
  unfold U
  rw [ep]
  have hP := s_p hQ (mul_inv hE1) (mul_inv hE2) hA (i_B hmm) kE_d
  have hC := i_C hmm
  rw [a_neg, a_neg (1 + dE * p.x * q.x * p.y * q.y)] at hC
  have hM := s_p hQ (mul_inv hE1) (mul_inv hE2) hA hC kE_d
  rw [neg_mul, neg_mul] at hM
  refine ⟨16 * (s1 * s1) * (s2 * s2) * kE * (1 - dE * (p.y * q.y) * (p.y * q.y) + dE * (p.y * p.y + q.y * q.y)) * (1 + (p.y * q.y - p.x * q.x) * inv (1 + dE * p.x * q.x * p.y * q.y)), mul_ne (mul_ne (mul_ne (mul_ne (mul_ne c16_ne (mul_ne hs1 hs1)) (mul_ne hs2 hs2)) kE_ne) hg) hm, ?_, ?_⟩
  · rw [s_x s1 s2 p.y q.y _ hP, f_x]
  · rw [s_z s1 s2 p.y q.y _ hM, f_z _ _ _ _ _ _ _ hx]
/-- at the ladder's beginning -/
theorem two_half : (2 : F) * inv 2 = 1 := mul_inv two_ne
theorem half_x (h : F) (hh : 2 * h = 1) : 1 = h * (1 + 1) := by grobner
theorem half_z (h : F) : 0 = h * (1 - 1) := by grobner
theorem U.zero : U Pt.zero 1 0 := ⟨inv 2, fun h => by
  have h1 := two_half
  rw [h] at h1
  exact zero_ne (by rw [← h1]; grobner), half_x _ two_half, half_z _⟩
theorem U.one {p : Pt} {x : F} (hx : x * (1 - p.y) = 1 + p.y) (hy : 1 - p.y ≠ 0) : U p x 1 := by
  have h1 := mul_inv hy
  refine ⟨inv (1 - p.y), fun h => ?_, ?_, ?_⟩
  · rw [h] at h1
    exact zero_ne (by rw [← h1]; grobner)
  · rw [← hx]
    have : inv (1 - p.y) * (x * (1 - p.y)) = x * ((1 - p.y) * inv (1 - p.y)) := by grobner
    rw [this, h1, m_one]
  · have : inv (1 - p.y) * (1 - p.y) = (1 - p.y) * inv (1 - p.y) := by grobner
    rw [this, h1]
end Go.Proofs.YtfaeigbfnjkojaaGreatDoor.Ed
