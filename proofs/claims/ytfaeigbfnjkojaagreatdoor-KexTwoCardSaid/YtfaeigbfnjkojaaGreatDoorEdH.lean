/- The Edwards curve's group, plainly. -/
import Derived.Test.YtfaeigbfnjkojaaGreatDoorEdG
set_option linter.unusedVariables false
set_option linter.unusedSimpArgs false
namespace Go.Proofs.YtfaeigbfnjkojaaGreatDoor.Ed
theorem sub_eq {a b : F} (h : a - b = 0) : a = b := by grobner
theorem m_one (a : F) : a * 1 = a := by grobner
theorem ring1 (p al t2 be : F) : p * al * (t2 * be) = (p * t2) * (al * be) := by grobner
theorem ring2 (q be t al : F) : (q * t) * (al * be) = q * be * (t * al) := by grobner
theorem glue_c {N D M E u v d : F} (hu : D * u = 1) (hv : E * v = 1) (h : M * M * D * D - N * N * E * E - D * D * E * E - d * N * N * M * M = 0) :
    0 - (N * u) * (N * u) + (M * v) * (M * v) - 1 - d * (N * u) * (N * u) * (M * v) * (M * v) = 0 := by
  have a1 : (u * u * v * v) * (M * M * D * D - N * N * E * E - D * D * E * E - d * N * N * M * M) = (M * v) * (M * v) * ((D * u) * (D * u)) - (N * u) * (N * u) * ((E * v) * (E * v)) - ((D * u) * (D * u)) * ((E * v) * (E * v)) - d * (N * u) * (N * u) * (M * v) * (M * v) := by grobner
  rw [h, hu, hv] at a1
  grobner
theorem glue {N D M E N2 D2 M2 E2 u v u2 v2 x1 y1 x3 y3 t t2 al be : F} (s : F) (hu : D * u = 1) (hv : E * v = 1) (hu2 : D2 * u2 = 1) (hv2 : E2 * v2 = 1)
    (ht : t = 1 + s * ((N * u) * (M * v) * x3 * y3)) (ht2 : t2 = 1 + s * ((N2 * u2) * (M2 * v2) * x1 * y1)) (ha : t * al = 1) (hb : t2 * be = 1)
    (h : (N * y3 * E + M * x3 * D) * (D2 * E2 + s * N2 * M2 * x1 * y1) - (x1 * M2 * D2 + y1 * N2 * E2) * (D * E + s * N * M * x3 * y3) = 0) :
    ((N * u) * y3 + (M * v) * x3) * al = (x1 * (M2 * v2) + y1 * (N2 * u2)) * be := by
  have a1 : (u * v * u2 * v2) * ((N * y3 * E + M * x3 * D) * (D2 * E2 + s * N2 * M2 * x1 * y1)) = ((N * u) * y3 * (E * v) + (M * v) * x3 * (D * u)) * ((D2 * u2) * (E2 * v2) + s * ((N2 * u2) * (M2 * v2) * x1 * y1)) := by grobner
  have a2 : (u * v * u2 * v2) * ((x1 * M2 * D2 + y1 * N2 * E2) * (D * E + s * N * M * x3 * y3)) = (x1 * (M2 * v2) * (D2 * u2) + y1 * (N2 * u2) * (E2 * v2)) * ((D * u) * (E * v) + s * ((N * u) * (M * v) * x3 * y3)) := by grobner
  have a3 : (N * y3 * E + M * x3 * D) * (D2 * E2 + s * N2 * M2 * x1 * y1) = (x1 * M2 * D2 + y1 * N2 * E2) * (D * E + s * N * M * x3 * y3) := sub_eq h
  rw [a3, a2, hu, hv, hu2, hv2] at a1
  obtain ⟨p, hp⟩ : ∃ p, p = (N * u) * y3 + (M * v) * x3 := ⟨_, rfl⟩
  obtain ⟨q, hq⟩ : ∃ q, q = x1 * (M2 * v2) + y1 * (N2 * u2) := ⟨_, rfl⟩
  have a4 : q * t = p * t2 := by rw [hp, hq, ht, ht2]; simp only [m_one] at a1; exact a1
  rw [← hp, ← hq]
  have a5 := ring1 p al t2 be
  have a6 := ring2 q be t al
  rw [hb, m_one] at a5
  rw [ha, m_one] at a6
  rw [a5, ← a4, a6]
structure Pt where
  x : F
  y : F
  h : on x y
theorem Pt.eq {p q : Pt} (hx : p.x = q.x) (hy : p.y = q.y) : p = q := by cases p; cases q; cases hx; cases hy; rfl
def Pt.add (p q : Pt) : Pt where
  x := (p.x * q.y + p.y * q.x) * inv (1 + dE * p.x * q.x * p.y * q.y)
  y := (p.y * q.y + p.x * q.x) * inv (1 - dE * p.x * q.x * p.y * q.y)
  h := glue_c (mul_inv (den_p p.h q.h)) (mul_inv (den_m p.h q.h)) (id_c (x3 := 0) (y3 := 0) p.h q.h)
theorem neg_one (d a : F) : 1 - d * a = 1 + (0 - d) * a := by grobner
theorem t_x (d a x3 b y3 : F) : 1 + d * a * x3 * b * y3 = 1 + d * (a * b * x3 * y3) := by grobner
theorem t_x2 (d x1 a y1 b : F) : 1 + d * x1 * a * y1 * b = 1 + d * (a * b * x1 * y1) := by grobner
theorem t_y (d a x3 b y3 : F) : 1 - d * a * x3 * b * y3 = 1 + (0 - d) * (b * a * x3 * y3) := by grobner
theorem t_y2 (d x1 a y1 b : F) : 1 - d * x1 * a * y1 * b = 1 + (0 - d) * (a * b * y1 * x1) := by grobner
theorem h_y (N D M E N2 D2 M2 E2 x1 y1 x3 y3 d : F) : (M * y3 * D + N * x3 * E) * (D2 * E2 + (0 - d) * N2 * M2 * y1 * x1) - (y1 * M2 * D2 + x1 * N2 * E2) * (E * D + (0 - d) * M * N * x3 * y3) = (M * y3 * D + N * x3 * E) * (D2 * E2 - d * N2 * M2 * x1 * y1) - (y1 * M2 * D2 + x1 * N2 * E2) * (D * E - d * N * M * x3 * y3) := by grobner
theorem Pt.assoc (p q r : Pt) : (p.add q).add r = p.add (q.add r) := by
  have D1 := mul_inv (den_p p.h q.h)
  have E1 := mul_inv (den_m p.h q.h)
  have D2 := mul_inv (den_p q.h r.h)
  have E2 := mul_inv (den_m q.h r.h)
  apply Pt.eq
  · exact glue dE D1 E1 D2 E2 (t_x _ _ _ _ _) (t_x2 _ _ _ _ _) (mul_inv (den_p (p.add q).h r.h)) (mul_inv (den_p p.h (q.add r).h)) (id_x p.h q.h r.h)
  · exact glue (0 - dE) E1 D1 D2 E2 (t_y _ _ _ _ _) (t_y2 _ _ _ _ _) (mul_inv (den_m (p.add q).h r.h)) (mul_inv (den_m p.h (q.add r).h)) ((h_y _ _ _ _ _ _ _ _ _ _ _ _ _).trans (id_y p.h q.h r.h))
end Go.Proofs.YtfaeigbfnjkojaaGreatDoor.Ed
