/- The ladder reckons multiples: both ends have one secret. -/
import Derived.Test.YtfaeigbfnjkojaaGreatDoorFeB
set_option linter.unusedVariables false
set_option linter.unusedSimpArgs false
namespace Go.Proofs.YtfaeigbfnjkojaaGreatDoor.Ed
open Go.Proofs.YtfaeigbfnjkojaaGreatDoor.Nt
/-- the u of a point (0 where there is none) -/
def uo (p : Pt) : F := (1 + p.y) * inv (1 - p.y)
theorem U.uo {p : Pt} {X Z : F} (h : U p X Z) : X * inv Z = uo p := by
  obtain ⟨s, hs, hX, hZ⟩ := h
  rw [hX, hZ, inv_mul]
  have h1 := mul_inv hs
  have : s * (1 + p.y) * (inv s * inv (1 - p.y)) = (s * inv s) * ((1 + p.y) * inv (1 - p.y)) := by grobner
  rw [this, h1]
  unfold Ed.uo
  grobner
theorem x_of_y {x y : F} (h : on x y) (hy : y * y = 1) : x = 0 := by
  have h1 : x * x * (1 + dE) = 0 := by
    unfold on at h
    have a1 : dE * x * x * y * y = dE * x * x * (y * y) := by grobner
    rw [a1, hy] at h
    have a2 : x * x * (1 + dE) = 0 - (0 - x * x + 1 - 1 - dE * x * x * 1) := by grobner
    rw [a2, h]
    grobner
  rcases mul_zero_or h1 with h2 | h2
  · rcases mul_zero_or h2 with h3 | h3 <;> exact h3
  · have := kE_d
    rw [h2] at this
    exact absurd (by rw [← this]; grobner) zero_ne
theorem sq_1 (y : F) (h : 1 - y = 0) : y = 1 := by grobner
theorem sq_m (y : F) (h : 1 + y = 0) : y * y = 1 := by grobner
theorem one_sub (y : F) (h : 1 - y = 0) : y * y = 1 := by grobner
theorem Pt.y_ne {p : Pt} (h : p ≠ Pt.zero) : 1 - p.y ≠ 0 := fun h0 => by
  apply h
  exact Pt.eq (x_of_y p.h (one_sub _ h0)) (sq_1 _ h0)
theorem m1m1 (x y : F) (hx : x = 0) (h : 1 + y = 0) : y * y + x * x = 1 := by rw [hx]; grobner
theorem x0y (x y : F) (hx : x = 0) : x * y + y * x = 0 := by rw [hx]; grobner
theorem t0 (d x y : F) (hx : x = 0) : 1 - d * x * x * y * y = 1 := by rw [hx]; grobner
theorem Pt.mul_zero : ∀ n, Pt.mul n Pt.zero = Pt.zero
  | 0 => rfl
  | n + 1 => by show (Pt.mul n Pt.zero).add Pt.zero = _; rw [Pt.mul_zero n, Pt.add_zero]
theorem L_odd : L = 2 * (L / 2) + 1 := by decide +kernel
theorem Pt.y_ne_m {p : Pt} (hL : Pt.mul L p = Pt.zero) (h : p ≠ Pt.zero) : 1 + p.y ≠ 0 := fun h0 => by
  have hx := x_of_y p.h (sq_m _ h0)
  have h2 : p.add p = Pt.zero := by
    apply Pt.eq
    · show (p.x * p.y + p.y * p.x) * _ = 0
      rw [x0y _ _ hx, n_0]
    · show (p.y * p.y + p.x * p.x) * inv (1 - dE * p.x * p.x * p.y * p.y) = 1
      rw [m1m1 _ _ hx h0, t0 _ _ _ hx, inv_one, m_one]
  rw [L_odd, Nat.mul_comm 2] at hL
  have h3 : Pt.mul (L / 2 * 2 + 1) p = (Pt.mul (L / 2 * 2) p).add p := rfl
  rw [h3, Pt.mul_mul, show Pt.mul 2 p = (Pt.zero.add p).add p from rfl, Pt.zero_add, h2, Pt.mul_zero, Pt.zero_add] at hL
  exact h hL
theorem Pt.uo_ne {p : Pt} (hL : Pt.mul L p = Pt.zero) (h : p ≠ Pt.zero) : uo p ≠ 0 := fun h0 => by
  rcases mul_zero_or h0 with h1 | h1
  · exact Pt.y_ne_m hL h h1
  · have h2 := mul_inv (Pt.y_ne h)
    rw [h1] at h2
    exact zero_ne (by rw [← h2]; grobner)
theorem Pt.uo_spec {p : Pt} (h : p ≠ Pt.zero) : uo p * (1 - p.y) = 1 + p.y := by
  have h2 := mul_inv (Pt.y_ne h)
  unfold uo
  have : (1 + p.y) * inv (1 - p.y) * (1 - p.y) = (1 + p.y) * ((1 - p.y) * inv (1 - p.y)) := by grobner
  rw [this, h2, m_one]
theorem Pt.next_sub (p : Pt) (n : Nat) : (Pt.mul (n + 1) p).add (Pt.mul n p).neg = p := by
  show ((Pt.mul n p).add p).add (Pt.mul n p).neg = p
  rw [Pt.comm (Pt.mul n p) p, Pt.assoc, Pt.add_neg, Pt.add_zero]
theorem Pt.neg_add (p q : Pt) : (p.add q).neg = p.neg.add q.neg := by
  apply Pt.cancel _ _ (p.add q)
  rw [Pt.comm, Pt.add_neg, Pt.comm p q, Pt.assoc, ← Pt.assoc q.neg, Pt.comm q.neg q, Pt.add_neg, Pt.zero_add, Pt.comm, Pt.add_neg]
theorem Pt.sub_next (p : Pt) (n : Nat) : (Pt.mul n p).add (Pt.mul (n + 1) p).neg = p.neg := by
  show (Pt.mul n p).add ((Pt.mul n p).add p).neg = _
  rw [Pt.neg_add, ← Pt.assoc, Pt.add_neg, Pt.zero_add]
theorem Pt.order {l n : Nat} (hl : Pr l) {p : Pt} (hL : Pt.mul l p = Pt.zero) (hn : Pt.mul n p = Pt.zero) (hd : ¬ l ∣ n) : p = Pt.zero := by
  have hf := fermat hl hd
  have h1 : Pt.mul (n ^ (l - 1)) p = Pt.zero := by
    obtain ⟨k, hk⟩ : ∃ k, l - 1 = k + 1 := ⟨l - 2, by have := hl.1; omega⟩
    rw [hk, Nat.pow_succ, Pt.mul_mul, hn, Pt.mul_zero]
  have h2 : n ^ (l - 1) = n ^ (l - 1) / l * l + 1 := by
    have := Nat.div_add_mod (n ^ (l - 1)) l
    rw [hf, Nat.mul_comm] at this
    exact this.symm
  rw [h2] at h1
  have h3 : Pt.mul (n ^ (l - 1) / l * l + 1) p = (Pt.mul (n ^ (l - 1) / l * l) p).add p := rfl
  rw [h3, Pt.mul_mul, hL, Pt.mul_zero, Pt.zero_add] at h1
  exact h1
theorem base_ne : base ≠ Pt.zero := fun h => by
  have : base.y = (1 : F) := by rw [h]; rfl
  exact absurd this (by decide +kernel)
theorem uo_base : uo base = 9 := by decide +kernel
end Go.Proofs.YtfaeigbfnjkojaaGreatDoor.Ed
namespace Go.Proofs.YtfaeigbfnjkojaaGreatDoor.Kx
open Go.Proofs.YtfaeigbfnjkojaaGreatDoor.Ed Go.Proofs.YtfaeigbfnjkojaaGreatDoor.Cl
structure tidP (p : P) : Prop where
  x : tid p.x
  z : tid p.z
theorem small_24 : (small 121665).f = 121665 := by decide +kernel
theorem step_f {x : E} {a b : P} (hx : tid x) (ha : tidP a) (hb : tidP b) {p q : Pt} (h1 : U p a.x.f a.z.f) (h2 : U q b.x.f b.z.f) (hd : x.f * (1 - (q.add p.neg).y) = 1 + (q.add p.neg).y) (hm : 1 + (q.add p.neg).y ≠ 0) :
    tidP (stepP x a b).1 ∧ tidP (stepP x a b).2 ∧ U (p.add p) (stepP x a b).1.x.f (stepP x a b).1.z.f ∧ U (p.add q) (stepP x a b).2.x.f (stepP x a b).2.z.f := by
  have plus := add_f ha.x ha.z
  have less := sub_f ha.x ha.z
  have pp := sq_f plus.1
  have ll := sq_f less.1
  have e := sub_f pp.1 ll.1
  have bs := sub_f hb.x hb.z
  have ba := add_f hb.x hb.z
  have da := mul_f bs.1 plus.1
  have cb := mul_f ba.1 less.1
  have s1 := sq_f (add_f da.1 cb.1).1
  have d1 := sq_f (sub_f da.1 cb.1).1
  have x2 := mul_f hx d1.1
  have m24 := mul_f (small_tid (n := 121665) (by decide)) e.1
  have z1 := mul_f e.1 (add_f pp.1 m24.1).1
  have x1 := mul_f pp.1 ll.1
  refine ⟨⟨x1.1, z1.1⟩, ⟨s1.1, x2.1⟩, ?_, ?_⟩
  · have h := U.dbl h1
    simp only [stepP]
    rw [x1.2, z1.2, (add_f pp.1 m24.1).2, m24.2, e.2, pp.2, ll.2, plus.2, less.2, small_24]
    exact h
  · have h := U.sum h1 h2 hd hm
    simp only [stepP]
    rw [s1.2, x2.2, d1.2, (add_f da.1 cb.1).2, (sub_f da.1 cb.1).2, da.2, cb.2, bs.2, ba.2, plus.2, less.2]
    exact h
/-- what stands for n times and n + 1 times a point -/
def Lad (p : Pt) (n : Nat) (s : St) : Prop :=
  tidP s.a ∧ tidP s.b ∧ U (Pt.mul n p) (if s.was = true then s.b else s.a).x.f (if s.was = true then s.b else s.a).z.f ∧ U (Pt.mul (n + 1) p) (if s.was = true then s.a else s.b).x.f (if s.was = true then s.a else s.b).z.f
theorem neg_y (p : Pt) : p.neg.y = p.y := rfl
theorem lad_f {p : Pt} (hL : Pt.mul L p = Pt.zero) (hp : p ≠ Pt.zero) {x : E} (hx : tid x) (hu : x.f = uo p) (ks : List Nat) (K : Nat) (hK : K < 2 ^ 255) (hb : ∀ i, i < 255 → bitK ks i = (K / 2 ^ i % 2 == 1)) : ∀ k, k ≤ 255 → Lad p (K / 2 ^ (255 - k)) (lad ks x k)
  | 0, _ => by
    rw [Nat.div_eq_of_lt hK, lad_zero]
    refine ⟨⟨small_tid (by decide), zero_tid⟩, ⟨hx, small_tid (by decide)⟩, ?_, ?_⟩
    · show U Pt.zero (small 1).f (E.f ⟨0, 0, 0, 0, 0⟩)
      rw [one_f, zero_f]
      exact U.zero
    · show U (Pt.zero.add p) x.f (small 1).f
      rw [one_f, Pt.zero_add, hu]
      exact U.one (Pt.uo_spec hp) (Pt.y_ne hp)
  | k + 1, hk => by
    have ih := lad_f hL hp hx hu ks K hK hb k (by omega)
    have hbk := hb (254 - k) (by omega)
    have hd : K / 2 ^ (255 - k) = K / 2 ^ (254 - k) / 2 := by rw [show 255 - k = (254 - k) + 1 by omega, Nat.pow_succ, Nat.div_div_eq_div_mul]
    rw [show 255 - (k + 1) = 254 - k by omega]
    rw [hd] at ih
    generalize K / 2 ^ (254 - k) = m at *
    obtain ⟨ha, hbb, h1, h2⟩ := ih
    have spec := Pt.uo_spec hp
    have ym := Pt.y_ne_m hL hp
    by_cases hm : m % 2 = 1
    · rw [hm] at hbk
      rw [lad_succ ks x k _ rfl true hbk]
      generalize lad ks x k = s at *
      have e1 : (if (true != s.was) = true then s.b else s.a) = (if s.was = true then s.a else s.b) := by cases s.was <;> rfl
      have e2 : (if (true != s.was) = true then s.a else s.b) = (if s.was = true then s.b else s.a) := by cases s.was <;> rfl
      rw [e1, e2]
      have t1 : tidP (if s.was = true then s.a else s.b) := by split <;> assumption
      have t2 : tidP (if s.was = true then s.b else s.a) := by split <;> assumption
      have g := step_f hx t1 t2 h2 h1 (by rw [Pt.sub_next, neg_y, hu]; exact spec) (by rw [Pt.sub_next, neg_y]; exact ym)
      generalize stepP x (if s.was = true then s.a else s.b) (if s.was = true then s.b else s.a) = r at *
      refine ⟨g.1, g.2.1, ?_, ?_⟩
      · show U (Pt.mul m p) r.2.x.f r.2.z.f
        have := g.2.2.2
        rw [← Pt.mul_add, show m / 2 + 1 + m / 2 = m by omega] at this
        exact this
      · show U (Pt.mul (m + 1) p) r.1.x.f r.1.z.f
        have := g.2.2.1
        rw [← Pt.mul_add, show m / 2 + 1 + (m / 2 + 1) = m + 1 by omega] at this
        exact this
    · have hm0 : m % 2 = 0 := by omega
      rw [hm0] at hbk
      rw [lad_succ ks x k _ rfl false hbk]
      generalize lad ks x k = s at *
      have e1 : (if (false != s.was) = true then s.b else s.a) = (if s.was = true then s.b else s.a) := by cases s.was <;> rfl
      have e2 : (if (false != s.was) = true then s.a else s.b) = (if s.was = true then s.a else s.b) := by cases s.was <;> rfl
      rw [e1, e2]
      have t1 : tidP (if s.was = true then s.a else s.b) := by split <;> assumption
      have t2 : tidP (if s.was = true then s.b else s.a) := by split <;> assumption
      have g := step_f hx t2 t1 h1 h2 (by rw [Pt.next_sub, hu]; exact spec) (by rw [Pt.next_sub]; exact ym)
      generalize stepP x (if s.was = true then s.b else s.a) (if s.was = true then s.a else s.b) = r at *
      refine ⟨g.1, g.2.1, ?_, ?_⟩
      · show U (Pt.mul m p) r.1.x.f r.1.z.f
        have := g.2.2.1
        rw [← Pt.mul_add, show m / 2 + m / 2 = m by omega] at this
        exact this
      · show U (Pt.mul (m + 1) p) r.2.x.f r.2.z.f
        have := g.2.2.2
        rw [← Pt.mul_add, show m / 2 + (m / 2 + 1) = m + 1 by omega] at this
        exact this
/-- the scalar's number -/
def kN (k : List UInt8) : Nat := leN (clampB k)
theorem getD_set_ne (l : List UInt8) (i j : Nat) (v d : UInt8) (h : i ≠ j) : (l.set i v).getD j d = l.getD j d := by
  rw [List.getD_eq_getElem?_getD, List.getD_eq_getElem?_getD, List.getElem?_set_ne h]
theorem clamp_top (k : List UInt8) (hk : k.length = 32) : ∃ v : UInt8, (clampB k)[31]? = some (v &&& 63 ||| 64) := by
  refine ⟨(k.set 0 (k.getD 0 0 &&& 248)).getD 31 0, ?_⟩
  unfold clampB
  simp only
  rw [List.getElem?_set_self (by simp [hk])]
theorem clamp_low (k : List UInt8) (hk : k.length = 32) : ∃ v : UInt8, (clampB k)[0]? = some (v &&& 248) := by
  refine ⟨k.getD 0 0, ?_⟩
  unfold clampB
  simp only
  rw [List.getElem?_set_ne (by omega), List.getElem?_set_self (by simp [hk])]
theorem top_range (v : UInt8) : 64 ≤ (v &&& 63 ||| 64).toNat ∧ (v &&& 63 ||| 64).toNat < 128 := by
  have h : ∀ b : BitVec 8, 64 ≤ (b &&& 63 ||| 64).toNat ∧ (b &&& 63 ||| 64).toNat < 128 := by decide +kernel
  exact h v.toBitVec
theorem low_8 (v : UInt8) : (v &&& 248).toNat % 8 = 0 := by
  have h : ∀ b : BitVec 8, (b &&& 248).toNat % 8 = 0 := by decide +kernel
  exact h v.toBitVec
theorem kN_range (k : List UInt8) (hk : k.length = 32) : 2 ^ 254 ≤ kN k ∧ kN k < 2 ^ 255 ∧ kN k % 8 = 0 := by
  have hl : (clampB k).length = 32 := by rw [clampB_len, hk]
  obtain ⟨v, hv⟩ := clamp_top k hk
  obtain ⟨u, hu⟩ := clamp_low k hk
  have h1 := leN_byte (clampB k) 31 (by omega)
  have h2 := leN_byte (clampB k) 0 (by omega)
  have h3 := leN_lt (clampB k)
  rw [hl] at h3
  have e1 : (clampB k)[31] = (v &&& 63 ||| 64) := by
    have := List.getElem?_eq_getElem (l := clampB k) (i := 31) (by omega)
    rw [hv] at this
    exact (Option.some.inj this).symm
  have e2 : (clampB k)[0] = (u &&& 248) := by
    have := List.getElem?_eq_getElem (l := clampB k) (i := 0) (by omega)
    rw [hu] at this
    exact (Option.some.inj this).symm
  rw [e1] at h1
  rw [e2] at h2
  have r := top_range v
  have lo := low_8 u
  unfold kN
  generalize leN (clampB k) = N at *
  omega
theorem mulK_f {p : Pt} (hL : Pt.mul L p = Pt.zero) (hp : p ≠ Pt.zero) {k b : List UInt8} (hk : k.length = 32) (hu : (ofB b).f = uo p) :
    tid (mulK k b) ∧ (mulK k b).f = uo (Pt.mul (kN k) p) := by
  have hl : (clampB k).length = 32 := by rw [clampB_len, hk]
  have hr := kN_range k hk
  have h := lad_f hL hp (ofB_tid b) hu ((clampB k).map UInt8.toNat) (kN k) hr.2.1 (fun i hi => by
    have h1 := leN_bit (clampB k) (i / 8) (i % 8) (by omega) (by omega)
    rw [show 8 * (i / 8) + i % 8 = i by omega] at h1
    unfold kN
    rw [h1]
    unfold bitK
    have : (List.map UInt8.toNat (clampB k)).getD (i / 8) 0 = (clampB k)[i / 8].toNat := by
      rw [List.getD_eq_getElem?_getD, List.getElem?_map, List.getElem?_eq_getElem (by omega)]; rfl
    rw [this]) 255 (by omega)
  rw [show kN k / 2 ^ (255 - 255) = kN k by rw [Nat.sub_self, Nat.pow_zero, Nat.div_one]] at h
  unfold mulK
  obtain ⟨ha, hb, h1, h2⟩ := h
  generalize lad ((clampB k).map UInt8.toNat) (ofB b) 255 = s at *
  have t : tidP (if s.was = true then s.b else s.a) := by split <;> assumption
  unfold finK
  simp only
  have hi := inv_f t.z
  have hm := mul_f t.x hi.1
  refine ⟨hm.1, ?_⟩
  rw [hm.2, hi.2]
  exact h1.uo
theorem not_dvd0 {K l c : Nat} (hl : l = 7237005577332262213973186563042994240857116359379907606001950938285454250989) (h1 : 2 ^ 254 ≤ K) (h2 : K < 2 ^ 255) (h3 : K % 8 = 0) (hc : K = l * c) : False := by
  have h4 : c < 8 := by
    refine Nat.lt_of_not_le fun h => ?_
    have h5 : l * 8 ≤ l * c := Nat.mul_le_mul_left l h
    rw [← hc, hl] at h5
    exact absurd (Nat.lt_of_le_of_lt h5 h2) (by decide +kernel)
  have h5 : c = 0 ∨ c = 1 ∨ c = 2 ∨ c = 3 ∨ c = 4 ∨ c = 5 ∨ c = 6 ∨ c = 7 := by omega
  rcases h5 with h | h | h | h | h | h | h | h
  · rw [hc, h, Nat.mul_zero] at h1; exact absurd h1 (by decide +kernel)
  all_goals (rw [hc, h, hl] at h3; exact absurd h3 (by decide +kernel))
theorem not_dvd {K : Nat} (h1 : 2 ^ 254 ≤ K) (h2 : K < 2 ^ 255) (h3 : K % 8 = 0) : ¬ L ∣ K := fun h => by
  obtain ⟨c, hc⟩ := h
  exact not_dvd0 rfl h1 h2 h3 hc
theorem pr_dvd {l a b : Nat} (h : Nt.Pr l) (ha : ¬ l ∣ a) (hb : ¬ l ∣ b) : ¬ l ∣ a * b := fun hd => by
  exact hb ((h.cop ha).dvd_of_dvd_mul_left hd)
end Go.Proofs.YtfaeigbfnjkojaaGreatDoor.Kx
