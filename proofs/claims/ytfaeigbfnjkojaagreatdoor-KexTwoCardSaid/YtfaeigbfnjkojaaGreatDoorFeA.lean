/- What the five limbs mean: numbers of the field. -/
import Derived.Test.YtfaeigbfnjkojaaGreatDoorKfC
import Derived.Test.YtfaeigbfnjkojaaGreatDoorEdC
set_option linter.unusedVariables false
set_option linter.unusedSimpArgs false
namespace Go.Proofs.YtfaeigbfnjkojaaGreatDoor.Kx
open Go.Proofs.YtfaeigbfnjkojaaGreatDoor.Ed Go.Proofs.YtfaeigbfnjkojaaGreatDoor.Cl
/-- a number's rest -/
def fe (n : Nat) : F := ⟨n % 57896044618658097711785492504343953926634992332820282019728792003956564819949, Nat.mod_lt _ Ed.P_pos⟩
theorem fe_val (n : Nat) : (fe n).val = n % Ed.P := rfl
theorem fe_eq {m n : Nat} (h : m % Ed.P = n % Ed.P) : fe m = fe n := Fin.ext h
theorem fe_add (m n : Nat) : fe (m + n) = fe m + fe n := Fin.ext (by show _ = (m % Ed.P + n % Ed.P) % Ed.P; rw [← Nat.add_mod]; rfl)
theorem fe_mul (m n : Nat) : fe (m * n) = fe m * fe n := Fin.ext (by show _ = (m % Ed.P * (n % Ed.P)) % Ed.P; rw [← Nat.mul_mod]; rfl)
theorem fe_of (x : F) : fe x.val = x := Fin.ext (Nat.mod_eq_of_lt x.isLt)
theorem fe_p (m q : Nat) : fe (m + q * Ed.P) = fe m := fe_eq (Nat.add_mul_mod_self_right _ _ _)
theorem fe_pm (q : Nat) : fe (q * Ed.P) = fe 0 := by have := fe_p 0 q; rwa [Nat.zero_add] at this
/-- little more than 51 bits in the lowest limb -/
structure tid (x : E) : Prop where
  a : x.a < 2251799813685348
  b : x.b < 2251799813685248
  c : x.c < 2251799813685248
  d : x.d < 2251799813685248
  e : x.e < 2251799813685248
def E.f (x : E) : F := fe x.val
theorem tid.ok {x : E} (h : tid x) : x.ok := by
  obtain ⟨a, b, c, d, e⟩ := x
  obtain ⟨h1, h2, h3, h4, h5⟩ := h
  exact E.ok5 (by unfold M; simp only at *; omega) (by unfold M; simp only at *; omega) (by unfold M; simp only at *; omega) (by unfold M; simp only at *; omega) (by unfold M; simp only at *; omega)
/-- each limb with room above -/
structure wid (n : Nat) (x : E) : Prop where
  a : x.a < n
  b : x.b < n
  c : x.c < n
  d : x.d < n
  e : x.e < n
theorem carry_go {n : Nat} {x : E} (hn : n ≤ 11258999068426240) (h : wid n x) : tid (carry x) ∧ ∃ q, x.val = (carry x).val + q * Ed.P := by
  obtain ⟨a, b, c, d, e⟩ := x
  obtain ⟨h1, h2, h3, h4, h5⟩ := h
  simp only at h1 h2 h3 h4 h5
  have ea : a % M = a := Nat.mod_eq_of_lt (by unfold M; omega)
  have eb : (b + a / W) % M = b + a / W := Nat.mod_eq_of_lt (by unfold M W; omega)
  obtain ⟨b1, hb1⟩ : ∃ b1, b1 = b + a / W := ⟨_, rfl⟩
  have hb1' : b1 < 11258999068426240 + 5 := by rw [hb1]; unfold W; omega
  have ec : (c + b1 / W) % M = c + b1 / W := Nat.mod_eq_of_lt (by unfold M W; omega)
  obtain ⟨c1, hc1⟩ : ∃ c1, c1 = c + b1 / W := ⟨_, rfl⟩
  have hc1' : c1 < 11258999068426240 + 10 := by rw [hc1]; unfold W; omega
  have ed : (d + c1 / W) % M = d + c1 / W := Nat.mod_eq_of_lt (by unfold M W; omega)
  obtain ⟨d1, hd1⟩ : ∃ d1, d1 = d + c1 / W := ⟨_, rfl⟩
  have hd1' : d1 < 11258999068426240 + 10 := by rw [hd1]; unfold W; omega
  have ee : (e + d1 / W) % M = e + d1 / W := Nat.mod_eq_of_lt (by unfold M W; omega)
  obtain ⟨e1, he1⟩ : ∃ e1, e1 = e + d1 / W := ⟨_, rfl⟩
  have he1' : e1 < 11258999068426240 + 10 := by rw [he1]; unfold W; omega
  have e9 : e1 / W * 19 % M = e1 / W * 19 := Nat.mod_eq_of_lt (by unfold M W; omega)
  have e0 : (a % W + e1 / W * 19) % M = a % W + e1 / W * 19 := Nat.mod_eq_of_lt (by unfold M W; omega)
  have hc : carry ⟨a, b, c, d, e⟩ = ⟨a % W + e1 / W * 19, b1 % W, c1 % W, d1 % W, e1 % W⟩ := by
    simp only [carry]
    rw [ea, eb, ← hb1, ec, ← hc1, ed, ← hd1, ee, ← he1, e9, e0]
  rw [hc]
  refine ⟨⟨?_, ?_, ?_, ?_, ?_⟩, e1 / W, ?_⟩
  · show a % W + e1 / W * 19 < _
    unfold W; omega
  · exact mod_lt_W _
  · exact mod_lt_W _
  · exact mod_lt_W _
  · exact mod_lt_W _
  · simp only [E.val]
    unfold W Ed.P at *
    omega
theorem carry_f {n : Nat} {x : E} (hn : n ≤ 11258999068426240) (h : wid n x) : tid (carry x) ∧ (carry x).f = x.f := by
  obtain ⟨h1, q, h2⟩ := carry_go hn h
  exact ⟨h1, by unfold E.f; rw [h2, fe_p]⟩
theorem tid.wid {x : E} (h : tid x) {n : Nat} (hn : 2251799813685348 ≤ n) : wid n x := by
  obtain ⟨h1, h2, h3, h4, h5⟩ := h
  exact ⟨by omega, by omega, by omega, by omega, by omega⟩
theorem add_f {x y : E} (hx : tid x) (hy : tid y) : tid (add x y) ∧ (add x y).f = x.f + y.f := by
  obtain ⟨a, b, c, d, e⟩ := x
  obtain ⟨a', b', c', d', e'⟩ := y
  obtain ⟨h1, h2, h3, h4, h5⟩ := hx
  obtain ⟨g1, g2, g3, g4, g5⟩ := hy
  simp only at *
  have e1 : add1 ⟨a, b, c, d, e⟩ ⟨a', b', c', d', e'⟩ = ⟨a + a', b + b', c + c', d + d', e + e'⟩ := by
    simp only [add1]
    rw [Nat.mod_eq_of_lt (by unfold M; omega), Nat.mod_eq_of_lt (by unfold M; omega), Nat.mod_eq_of_lt (by unfold M; omega), Nat.mod_eq_of_lt (by unfold M; omega), Nat.mod_eq_of_lt (by unfold M; omega)]
  unfold add
  rw [e1]
  obtain ⟨k1, k2⟩ := carry_f (n := 11258999068426240) (x := ⟨a + a', b + b', c + c', d + d', e + e'⟩) (by omega) ⟨by simp only; omega, by simp only; omega, by simp only; omega, by simp only; omega, by simp only; omega⟩
  refine ⟨k1, ?_⟩
  rw [k2]
  unfold E.f
  rw [← fe_add]
  congr 1
  simp only [E.val]
  unfold W
  omega
theorem f_sub (a b c : F) (h : a + b = c) : a = c - b := by grobner
theorem sub_f {x y : E} (hx : tid x) (hy : tid y) : tid (sub x y) ∧ (sub x y).f = x.f - y.f := by
  have hcy := carry_f (n := 11258999068426240) (by omega) (hy.wid (by omega))
  unfold sub
  rw [← hcy.2]
  generalize carry y = cy at *
  obtain ⟨a', b', c', d', e'⟩ := cy
  obtain ⟨⟨g1, g2, g3, g4, g5⟩, _⟩ := hcy
  obtain ⟨a, b, c, d, e⟩ := x
  obtain ⟨h1, h2, h3, h4, h5⟩ := hx
  simp only at *
  have e1 : sub1 ⟨a, b, c, d, e⟩ ⟨a', b', c', d', e'⟩ = ⟨a + tw0 - a', b + tw - b', c + tw - c', d + tw - d', e + tw - e'⟩ := by
    simp only [sub1, sub1g]
    rw [show ((a + tw0) % M + (M - a')) % M = a + tw0 - a' by unfold M tw0; omega, show ((b + tw) % M + (M - b')) % M = b + tw - b' by unfold M tw; omega, show ((c + tw) % M + (M - c')) % M = c + tw - c' by unfold M tw; omega, show ((d + tw) % M + (M - d')) % M = d + tw - d' by unfold M tw; omega, show ((e + tw) % M + (M - e')) % M = e + tw - e' by unfold M tw; omega]
  rw [e1]
  obtain ⟨k1, k2⟩ := carry_f (n := 11258999068426240) (x := ⟨a + tw0 - a', b + tw - b', c + tw - c', d + tw - d', e + tw - e'⟩) (by omega) ⟨by simp only; unfold tw0; omega, by simp only; unfold tw; omega, by simp only; unfold tw; omega, by simp only; unfold tw; omega, by simp only; unfold tw; omega⟩
  refine ⟨k1, ?_⟩
  apply f_sub
  rw [k2]
  unfold E.f
  rw [← fe_add]
  have : (E.val ⟨a + tw0 - a', b + tw - b', c + tw - c', d + tw - d', e + tw - e'⟩) + E.val ⟨a', b', c', d', e'⟩ = E.val ⟨a, b, c, d, e⟩ + 2 * Ed.P := by
    simp only [E.val]
    unfold W tw tw0 Ed.P
    omega
  rw [this, fe_p]
theorem mul_core {S0 S1 S2 S3 S4 s0 s1 s2 s3 s4 t : Nat} (h0 : S0 < 2 ^ 112) (h1 : S1 < 2 ^ 112) (h2 : S2 < 2 ^ 112) (h3 : S3 < 2 ^ 112) (h4 : S4 < 2 ^ 112)
    (d0 : s0 = S0 % M2) (d1 : s1 = (S1 + s0 / W % M) % M2) (d2 : s2 = (S2 + s1 / W % M) % M2) (d3 : s3 = (S3 + s2 / W % M) % M2) (d4 : s4 = (S4 + s3 / W % M) % M2) (dt : t = s4 / W % M * 19 + s0 % W) :
    wid 11258999068426240 ⟨t % W, (s1 % W + t / W % M) % M, s2 % W, s3 % W, s4 % W⟩ ∧
      fe (E.val ⟨t % W, (s1 % W + t / W % M) % M, s2 % W, s3 % W, s4 % W⟩) = fe (S0 + W * S1 + W * W * S2 + W * W * W * S3 + W * W * W * W * S4) := by
  have e0 : s0 = S0 := d0.trans (Nat.mod_eq_of_lt (by unfold M2; omega))
  have c0 : s0 / W % M = s0 / W := Nat.mod_eq_of_lt (by unfold M W; omega)
  have b0 : s0 / W < 2 ^ 61 + 1 := by unfold W; omega
  have e1 : s1 = S1 + s0 / W := by rw [d1, c0]; exact Nat.mod_eq_of_lt (by unfold M2; omega)
  have c1 : s1 / W % M = s1 / W := Nat.mod_eq_of_lt (by unfold M W; omega)
  have b1 : s1 / W < 2 ^ 61 + 2 ^ 20 := by unfold W; omega
  have e2 : s2 = S2 + s1 / W := by rw [d2, c1]; exact Nat.mod_eq_of_lt (by unfold M2; omega)
  have c2 : s2 / W % M = s2 / W := Nat.mod_eq_of_lt (by unfold M W; omega)
  have b2 : s2 / W < 2 ^ 61 + 2 ^ 20 := by unfold W; omega
  have e3 : s3 = S3 + s2 / W := by rw [d3, c2]; exact Nat.mod_eq_of_lt (by unfold M2; omega)
  have c3 : s3 / W % M = s3 / W := Nat.mod_eq_of_lt (by unfold M W; omega)
  have b3 : s3 / W < 2 ^ 61 + 2 ^ 20 := by unfold W; omega
  have e4 : s4 = S4 + s3 / W := by rw [d4, c3]; exact Nat.mod_eq_of_lt (by unfold M2; omega)
  have c4 : s4 / W % M = s4 / W := Nat.mod_eq_of_lt (by unfold M W; omega)
  have b4 : s4 / W < 2 ^ 61 + 2 ^ 20 := by unfold W; omega
  have et : t = s4 / W * 19 + s0 % W := by rw [dt, c4]
  have bt : t / W < 2 ^ 16 := by rw [et]; unfold W; omega
  have ct : t / W % M = t / W := Nat.mod_eq_of_lt (by unfold M; omega)
  have l1 : s1 % W < W := mod_lt_W _
  have c5 : (s1 % W + t / W % M) % M = s1 % W + t / W := by rw [ct]; exact Nat.mod_eq_of_lt (by unfold M W at *; omega)
  rw [c5]
  clear d0 d1 d2 d3 d4 dt
  have l0 : t % W < W := mod_lt_W _
  have l2 : s2 % W < W := mod_lt_W _
  have l3 : s3 % W < W := mod_lt_W _
  have l4 : s4 % W < W := mod_lt_W _
  refine ⟨⟨?_, ?_, ?_, ?_, ?_⟩, ?_⟩
  · simp only; unfold W at *; omega
  · simp only; unfold W at *; omega
  · simp only; unfold W at *; omega
  · simp only; unfold W at *; omega
  · simp only; unfold W at *; omega
  · have hv : E.val ⟨t % W, s1 % W + t / W, s2 % W, s3 % W, s4 % W⟩ + s4 / W * Ed.P = S0 + W * S1 + W * W * S2 + W * W * W * S3 + W * W * W * W * S4 := by
      simp only [E.val]
      have d0 := Nat.div_add_mod s0 W
      have d1 := Nat.div_add_mod s1 W
      have d2 := Nat.div_add_mod s2 W
      have d3 := Nat.div_add_mod s3 W
      have d4 := Nat.div_add_mod s4 W
      have dt := Nat.div_add_mod t W
      generalize s0 / W = q0 at *
      generalize s1 / W = q1 at *
      generalize s2 / W = q2 at *
      generalize s3 / W = q3 at *
      generalize s4 / W = q4 at *
      generalize t / W = qt at *
      generalize s0 % W = r0 at *
      generalize s1 % W = r1 at *
      generalize s2 % W = r2 at *
      generalize s3 % W = r3 at *
      generalize s4 % W = r4 at *
      generalize t % W = rt at *
      unfold W Ed.P at *
      omega
    rw [← hv, fe_p]
theorem fW5 : fe W * fe W * fe W * fe W * fe W = fe 19 := by decide +kernel
theorem mul_ring (w n a0 a1 a2 a3 a4 b0 b1 b2 b3 b4 : F) (h : w * w * w * w * w = n) :
    (a0 * b0 + a1 * n * b4 + a2 * n * b3 + a3 * n * b2 + a4 * n * b1) + w * (a0 * b1 + a1 * b0 + a2 * n * b4 + a3 * n * b3 + a4 * n * b2) + w * w * (a0 * b2 + a1 * b1 + a2 * b0 + a3 * n * b4 + a4 * n * b3) + w * w * w * (a0 * b3 + a1 * b2 + a2 * b1 + a3 * b0 + a4 * n * b4) + w * w * w * w * (a0 * b4 + a1 * b3 + a2 * b2 + a3 * b1 + a4 * b0) =
      (a0 + w * a1 + w * w * a2 + w * w * w * a3 + w * w * w * w * a4) * (b0 + w * b1 + w * w * b2 + w * w * w * b3 + w * w * w * w * b4) := by
  subst h
  grobner
theorem le_mul {a b : Nat} (ha : a < 2251799813685348) (hb : b < 2251799813685348) : a * b < 2 ^ 103 := by
  have h1 : a * b ≤ 2251799813685348 * 2251799813685348 := Nat.mul_le_mul (by omega) (by omega)
  omega
theorem le_mul19 {a b : Nat} (ha : a < 2251799813685348) (hb : b < 2251799813685348) : a * 19 * b < 2 ^ 108 := by
  have h1 : a * 19 * b ≤ 2251799813685348 * 19 * 2251799813685348 := Nat.mul_le_mul (by omega) (by omega)
  omega
theorem mod19 {a : Nat} (ha : a < 2251799813685348) : a * 19 % M = a * 19 := Nat.mod_eq_of_lt (by unfold M; omega)
theorem mul_f {x y : E} (hx : tid x) (hy : tid y) : tid (mul x y) ∧ (mul x y).f = x.f * y.f := by
  obtain ⟨a0, a1, a2, a3, a4⟩ := x
  obtain ⟨b0, b1, b2, b3, b4⟩ := y
  obtain ⟨h1, h2, h3, h4, h5⟩ := hx
  obtain ⟨g1, g2, g3, g4, g5⟩ := hy
  simp only at h1 h2 h3 h4 h5 g1 g2 g3 g4 g5
  have h2 : a1 < 2251799813685348 := by omega
  have h3 : a2 < 2251799813685348 := by omega
  have h4 : a3 < 2251799813685348 := by omega
  have h5 : a4 < 2251799813685348 := by omega
  have g2 : b1 < 2251799813685348 := by omega
  have g3 : b2 < 2251799813685348 := by omega
  have g4 : b3 < 2251799813685348 := by omega
  have g5 : b4 < 2251799813685348 := by omega
  simp only [mul]
  rw [mod19 h2, mod19 h3, mod19 h4, mod19 h5]
  have hc := mul_core (S0 := a0 * b0 + a1 * 19 * b4 + a2 * 19 * b3 + a3 * 19 * b2 + a4 * 19 * b1) (S1 := a0 * b1 + a1 * b0 + a2 * 19 * b4 + a3 * 19 * b3 + a4 * 19 * b2) (S2 := a0 * b2 + a1 * b1 + a2 * b0 + a3 * 19 * b4 + a4 * 19 * b3) (S3 := a0 * b3 + a1 * b2 + a2 * b1 + a3 * b0 + a4 * 19 * b4) (S4 := a0 * b4 + a1 * b3 + a2 * b2 + a3 * b1 + a4 * b0)
    (by have := le_mul h1 g1; have := le_mul19 h2 g5; have := le_mul19 h3 g4; have := le_mul19 h4 g3; have := le_mul19 h5 g2; omega)
    (by have := le_mul h1 g2; have := le_mul h2 g1; have := le_mul19 h3 g5; have := le_mul19 h4 g4; have := le_mul19 h5 g3; omega)
    (by have := le_mul h1 g3; have := le_mul h2 g2; have := le_mul h3 g1; have := le_mul19 h4 g5; have := le_mul19 h5 g4; omega)
    (by have := le_mul h1 g4; have := le_mul h2 g3; have := le_mul h3 g2; have := le_mul h4 g1; have := le_mul19 h5 g5; omega)
    (by have := le_mul h1 g5; have := le_mul h2 g4; have := le_mul h3 g3; have := le_mul h4 g2; have := le_mul h5 g1; omega) rfl rfl rfl rfl rfl rfl
  obtain ⟨k1, k2⟩ := hc
  obtain ⟨k3, k4⟩ := carry_f (by omega) k1
  refine ⟨k3, k4.trans ?_⟩
  unfold E.f
  rw [k2]
  simp only [E.val, fe_add, fe_mul]
  exact mul_ring _ _ _ _ _ _ _ _ _ _ _ _ fW5
theorem sq_f {x : E} (hx : tid x) : tid (sq x) ∧ (sq x).f = x.f * x.f := mul_f hx hx
theorem small_tid {n : Nat} (h : n < W) : tid (small n) := ⟨by show n % W < _; have := mod_lt_W n; unfold W at *; omega, by show n / W < _; rw [Nat.div_eq_of_lt h]; omega, by show 0 < _; omega, by show 0 < _; omega, by show 0 < _; omega⟩
theorem small_f {n : Nat} (h : n < W) : (small n).f = fe n := by
  unfold E.f small
  simp only [E.val]
  rw [Nat.mod_eq_of_lt h, Nat.div_eq_of_lt h]
  congr 1
theorem zero_tid : tid ⟨0, 0, 0, 0, 0⟩ := ⟨by decide, by decide, by decide, by decide, by decide⟩
theorem zero_f : E.f ⟨0, 0, 0, 0, 0⟩ = 0 := by decide +kernel
theorem one_f : (small 1).f = 1 := by decide +kernel
theorem spl_tid (n : Nat) : tid (spl n) := ⟨by have := mod_lt_W n; unfold W at *; show n % 2251799813685248 < _; omega, mod_lt_W _, mod_lt_W _, mod_lt_W _, mod_lt_W _⟩
theorem ofB_tid (l : List UInt8) : tid (ofB l) := spl_tid _
theorem ofB_f (l : List UInt8) : (ofB l).f = fe (leN l % 2 ^ 255) := by
  unfold E.f ofB
  rw [val_spl _ (Nat.mod_lt _ (by decide))]
theorem chain {x0 x1 x2 x3 x4 q0 q1 q2 q3 q4 r0 r1 r2 r3 r4 c : Nat} (h0 : x0 + c = W * q0 + r0) (h1 : x1 + q0 = W * q1 + r1) (h2 : x2 + q1 = W * q2 + r2) (h3 : x3 + q2 = W * q3 + r3) (h4 : x4 + q3 = W * q4 + r4) :
    x0 + W * x1 + W * W * x2 + W * W * W * x3 + W * W * W * W * x4 + c = 57896044618658097711785492504343953926634992332820282019728792003956564819968 * q4 + (r0 + W * r1 + W * W * r2 + W * W * W * r3 + W * W * W * W * r4) := by
  unfold W at *
  omega
theorem small5 {r0 r1 r2 r3 r4 : Nat} (h0 : r0 < W) (h1 : r1 < W) (h2 : r2 < W) (h3 : r3 < W) (h4 : r4 < W) : r0 + W * r1 + W * W * r2 + W * W * W * r3 + W * W * W * W * r4 < 57896044618658097711785492504343953926634992332820282019728792003956564819968 := by
  unfold W at *
  omega
theorem least1_go {x : E} (h : tid x) : (least1 x).val = x.val % Ed.P := by
  obtain ⟨a, b, c, d, e⟩ := x
  obtain ⟨h1, h2, h3, h4, h5⟩ := h
  simp only at h1 h2 h3 h4 h5
  have e0 : (a + 19) % M = a + 19 := Nat.mod_eq_of_lt (by unfold M; omega)
  obtain ⟨q0, hq0⟩ : ∃ q, q = (a + 19) / W := ⟨_, rfl⟩
  have f0 : q0 ≤ 1 := by rw [hq0]; unfold W; omega
  have e1 : (b + q0) % M = b + q0 := Nat.mod_eq_of_lt (by unfold M; omega)
  obtain ⟨q1, hq1⟩ : ∃ q, q = (b + q0) / W := ⟨_, rfl⟩
  have f1 : q1 ≤ 1 := by rw [hq1]; unfold W; omega
  have e2 : (c + q1) % M = c + q1 := Nat.mod_eq_of_lt (by unfold M; omega)
  obtain ⟨q2, hq2⟩ : ∃ q, q = (c + q1) / W := ⟨_, rfl⟩
  have f2 : q2 ≤ 1 := by rw [hq2]; unfold W; omega
  have e3 : (d + q2) % M = d + q2 := Nat.mod_eq_of_lt (by unfold M; omega)
  obtain ⟨q3, hq3⟩ : ∃ q, q = (d + q2) / W := ⟨_, rfl⟩
  have f3 : q3 ≤ 1 := by rw [hq3]; unfold W; omega
  have e4 : (e + q3) % M = e + q3 := Nat.mod_eq_of_lt (by unfold M; omega)
  obtain ⟨k, hk⟩ : ∃ q, q = (e + q3) / W := ⟨_, rfl⟩
  have f4 : k ≤ 1 := by rw [hk]; unfold W; omega
  have e5 : k * 19 % M = k * 19 := Nat.mod_eq_of_lt (by unfold M; omega)
  obtain ⟨a1, ha1⟩ : ∃ q, q = a + k * 19 := ⟨_, rfl⟩
  have g0 : a1 < 2251799813685400 := by omega
  have e6 : (a + k * 19) % M = a1 := by rw [ha1]; exact Nat.mod_eq_of_lt (by unfold M; omega)
  obtain ⟨b1, hb1⟩ : ∃ q, q = b + a1 / W := ⟨_, rfl⟩
  have g1 : b1 < 2251799813685400 := by rw [hb1]; unfold W; omega
  have e7 : (b + a1 / W) % M = b1 := by rw [← hb1]; exact Nat.mod_eq_of_lt (by unfold M; omega)
  obtain ⟨c1, hc1⟩ : ∃ q, q = c + b1 / W := ⟨_, rfl⟩
  have g2 : c1 < 2251799813685400 := by rw [hc1]; unfold W; omega
  have e8 : (c + b1 / W) % M = c1 := by rw [← hc1]; exact Nat.mod_eq_of_lt (by unfold M; omega)
  obtain ⟨d1, hd1⟩ : ∃ q, q = d + c1 / W := ⟨_, rfl⟩
  have g3 : d1 < 2251799813685400 := by rw [hd1]; unfold W; omega
  have e9 : (d + c1 / W) % M = d1 := by rw [← hd1]; exact Nat.mod_eq_of_lt (by unfold M; omega)
  obtain ⟨e1', he1⟩ : ∃ q, q = e + d1 / W := ⟨_, rfl⟩
  have g4 : e1' < 2251799813685400 := by rw [he1]; unfold W; omega
  have e10 : (e + d1 / W) % M = e1' := by rw [← he1]; exact Nat.mod_eq_of_lt (by unfold M; omega)
  have hl : least1 ⟨a, b, c, d, e⟩ = ⟨a1 % W, b1 % W, c1 % W, d1 % W, e1' % W⟩ := by
    simp only [least1]
    rw [e0, ← hq0, e1, ← hq1, e2, ← hq2, e3, ← hq3, e4, ← hk, e5, e6, e7, e8, e9, e10]
  rw [hl]
  clear hl e0 e1 e2 e3 e4 e5 e6 e7 e8 e9 e10
  have A := chain (c := 19) (x0 := a) (x1 := b) (x2 := c) (x3 := d) (x4 := e) (q0 := q0) (q1 := q1) (q2 := q2) (q3 := q3) (q4 := k) (r0 := (a + 19) % W) (r1 := (b + q0) % W) (r2 := (c + q1) % W) (r3 := (d + q2) % W) (r4 := (e + q3) % W)
    (by rw [hq0]; exact (Nat.div_add_mod _ _).symm) (by rw [hq1]; exact (Nat.div_add_mod _ _).symm) (by rw [hq2]; exact (Nat.div_add_mod _ _).symm) (by rw [hq3]; exact (Nat.div_add_mod _ _).symm) (by rw [hk]; exact (Nat.div_add_mod _ _).symm)
  have B := chain (c := k * 19) (x0 := a) (x1 := b) (x2 := c) (x3 := d) (x4 := e) (q0 := a1 / W) (q1 := b1 / W) (q2 := c1 / W) (q3 := d1 / W) (q4 := e1' / W) (r0 := a1 % W) (r1 := b1 % W) (r2 := c1 % W) (r3 := d1 % W) (r4 := e1' % W)
    (by rw [← ha1]; exact (Nat.div_add_mod _ _).symm) (by rw [← hb1]; exact (Nat.div_add_mod _ _).symm) (by rw [← hc1]; exact (Nat.div_add_mod _ _).symm) (by rw [← hd1]; exact (Nat.div_add_mod _ _).symm) (by rw [← he1]; exact (Nat.div_add_mod _ _).symm)
  have A2 := small5 (mod_lt_W (a + 19)) (mod_lt_W (b + q0)) (mod_lt_W (c + q1)) (mod_lt_W (d + q2)) (mod_lt_W (e + q3))
  have B2 := small5 (mod_lt_W a1) (mod_lt_W b1) (mod_lt_W c1) (mod_lt_W d1) (mod_lt_W e1')
  have hv : E.val ⟨a, b, c, d, e⟩ = a + W * b + W * W * c + W * W * W * d + W * W * W * W * e := rfl
  have hw : E.val ⟨a1 % W, b1 % W, c1 % W, d1 % W, e1' % W⟩ = a1 % W + W * (b1 % W) + W * W * (c1 % W) + W * W * W * (d1 % W) + W * W * W * W * (e1' % W) := rfl
  have hz : E.val ⟨a, b, c, d, e⟩ < 57896044618658097711785492504343953926634992332820282019728792003956564819968 + 100 := by
    rw [hv]; unfold W; omega
  rw [← hv] at A B
  rw [← hw] at B B2
  generalize E.val ⟨a1 % W, b1 % W, c1 % W, d1 % W, e1' % W⟩ = V at *
  generalize E.val ⟨a, b, c, d, e⟩ = v at *
  generalize (a + 19) % W + W * ((b + q0) % W) + W * W * ((c + q1) % W) + W * W * W * ((d + q2) % W) + W * W * W * W * ((e + q3) % W) = R at *
  generalize e1' / W = q at *
  clear hq0 hq1 hq2 hq3 hk ha1 hb1 hc1 hd1 he1 hv hw h1 h2 h3 h4 h5 g0 g1 g2 g3 g4 f0 f1 f2 f3
  unfold Ed.P
  have hk2 : k = 0 ∨ k = 1 := by omega
  rcases hk2 with z | z
  · subst z
    have hq : q = 0 := by omega
    subst hq
    rw [Nat.mod_eq_of_lt (by omega)]; omega
  · subst z
    have hq : q = 1 := by omega
    subst hq
    rw [Nat.mod_eq_sub_mod (by omega), Nat.mod_eq_of_lt (by omega)]; omega
/-- the number itself -/
theorem least_go {x : E} (h : tid x) : (least x).val = x.f.val := by
  obtain ⟨h1, q1, h2⟩ := carry_go (n := 11258999068426240) (by omega) (h.wid (by omega))
  obtain ⟨h3, q2, h4⟩ := carry_go (n := 11258999068426240) (by omega) (h1.wid (by omega))
  have hf : x.f = fe (carry (carry x)).val := by unfold E.f; rw [h2, fe_p, h4, fe_p]
  rw [hf, fe_val]
  exact least1_go h3
theorem bytes_f {x : E} (h : tid x) : bytesE x = toLe 32 x.f.val := by unfold bytesE; rw [least_go h]
theorem val_inj {x y : E} (hx : ∀ j, nth x.l j < W) (hy : ∀ j, nth y.l j < W) (h : x.val = y.val) : x = y := by rw [← spl_val x hx, ← spl_val y hy, h]
theorem least_same {x y : E} (hx : tid x) (hy : tid y) : least x = least y ↔ x.f = y.f := by
  constructor
  · intro h
    apply Fin.ext
    rw [← least_go hx, ← least_go hy, h]
  · intro h
    apply val_inj (least_fit x) (least_fit y)
    rw [least_go hx, least_go hy, h]
theorem least_zero : least ⟨0, 0, 0, 0, 0⟩ = ⟨0, 0, 0, 0, 0⟩ := by decide +kernel
theorem zero_go {x : E} (h : tid x) : zero x = decide (x.f = 0) := by
  rw [Bool.eq_iff_iff, decide_eq_true_eq]
  unfold zero
  rw [beq_iff_eq, ← least_zero, least_same h zero_tid, zero_f]
theorem odd_go {x : E} (h : tid x) : nth (least x).l 0 % 2 = x.f.val % 2 := by
  rw [← least_go h]
  show (least x).a % 2 = _
  simp only [E.val]
  unfold W
  omega
end Go.Proofs.YtfaeigbfnjkojaaGreatDoor.Kx
