/- Numbers, plainly: Pocklington's test; powers by squares. -/
import Derived.Test.YtfaeigbfnjkojaaGreatDoorNtA
set_option linter.unusedVariables false
set_option linter.unusedSimpArgs false
namespace Go.Proofs.YtfaeigbfnjkojaaGreatDoor.Nt
theorem bez : ∀ a b : Nat, ∃ u v : Int, u * a + v * b = (Nat.gcd a b : Nat) := by
  intro a
  induction a using Nat.strongRecOn with
  | _ a ih =>
    intro b
    by_cases h0 : a = 0
    · subst h0
      exact ⟨0, 1, by simp⟩
    · obtain ⟨u, v, h⟩ := ih (b % a) (Nat.mod_lt _ (by omega)) a
      rw [Nat.gcd_rec a b]
      refine ⟨v - u * (b / a : Nat), u, ?_⟩
      rw [← h]
      have hb : (b : Int) = (b % a : Nat) + (a : Int) * (b / a : Nat) := by
        have := Nat.mod_add_div b a
        exact_mod_cast this.symm
      have e : u * (b : Int) = u * (b % a : Nat) + u * ((a : Int) * (b / a : Nat)) := by rw [← Int.mul_add, ← hb]
      rw [e, Int.sub_mul]
      have : u * ((a : Int) * (b / a : Nat)) = u * (b / a : Nat) * a := by rw [Int.mul_comm (a : Int), Int.mul_assoc]
      omega
theorem inv_nat {q m : Nat} (h : Nat.Coprime q m) (hm : 0 < m) (hq : 0 < q) : ∃ u t : Nat, u * q = 1 + m * t := by
  obtain ⟨u, v, e⟩ := bez q m
  rw [show Nat.gcd q m = 1 from h] at e
  have hU : 0 ≤ u % (m : Int) := Int.emod_nonneg _ (by omega)
  obtain ⟨x, hx⟩ : ∃ x : Nat, (x : Int) = u % (m : Int) + m := ⟨(u % (m : Int) + m).toNat, by omega⟩
  have hx1 : 1 ≤ x := by omega
  have hxq : 1 ≤ x * q := Nat.mul_pos hx1 hq
  have hd : (m : Int) ∣ (x * q : Nat) - 1 := by
    have e1 : (x : Int) = u + m * (1 - u / m) := by
      have := Int.emod_add_mul_ediv u m
      rw [Int.mul_sub]; omega
    refine ⟨(1 - u / m) * q - v, ?_⟩
    have e2 : ((x * q : Nat) : Int) = u * q + m * ((1 - u / m) * q) := by
      rw [Int.natCast_mul, e1, Int.add_mul, Int.mul_assoc]
    rw [e2, Int.mul_sub]
    have e3 : v * (m : Int) = m * v := Int.mul_comm _ _
    simp only [Int.natCast_one] at e
    omega
  have hd2 : m ∣ x * q - 1 := by
    have : ((x * q : Nat) : Int) - 1 = ((x * q - 1 : Nat) : Int) := by omega
    rw [this] at hd
    exact Int.natCast_dvd_natCast.1 hd
  obtain ⟨t, ht⟩ := hd2
  exact ⟨x, t, by omega⟩
theorem pow_one_mod {r b n : Nat} (hr : 1 < r) (h : b ^ n % r = 1) (t : Nat) : b ^ (n * t) % r = 1 := by
  rw [Nat.pow_mul, Nat.pow_mod, h, Nat.one_pow, Nat.mod_eq_of_lt hr]
theorem pock_dvd {N q a r : Nat} (hr : Pr r) (hrN : r ∣ N) (hN : 1 < N) (hq : Pr q) (hqd : q ∣ N - 1) (h1 : a ^ (N - 1) % N = 1) (h2 : Nat.gcd (a ^ ((N - 1) / q) % N + (N - 1)) N = 1) : q ∣ r - 1 := by
  apply Classical.byContradiction
  intro hc
  have hr1 := hr.1
  have e1 : a ^ (N - 1) % r = 1 := by
    have := congrArg (· % r) h1
    simp only [Nat.mod_mod_of_dvd _ hrN] at this
    rw [this, Nat.mod_eq_of_lt hr1]
  have ha : ¬ r ∣ a := fun hd => by
    have : r ∣ a ^ (N - 1) := by
      rw [show N - 1 = (N - 2) + 1 by omega, Nat.pow_succ]
      exact Nat.dvd_trans hd (Nat.dvd_mul_left a _)
    have := Nat.mod_eq_zero_of_dvd this
    omega
  have hf := fermat hr ha
  obtain ⟨k, hk⟩ := hqd
  have hkq : (N - 1) / q = k := by rw [hk]; exact Nat.mul_div_cancel_left k hq.pos
  rw [hkq] at h2
  obtain ⟨u, t, hu⟩ := inv_nat (q := q) (m := r - 1) (hq.cop hc) (by omega) hq.pos
  have hb1 : (a ^ k) ^ q % r = 1 := by rw [← Nat.pow_mul, Nat.mul_comm k q, ← hk]; exact e1
  have hb2 : (a ^ k) ^ (r - 1) % r = 1 := by
    rw [← Nat.pow_mul, Nat.mul_comm k, Nat.pow_mul, Nat.pow_mod, hf, Nat.one_pow, Nat.mod_eq_of_lt hr1]
  have hb3 : (a ^ k) ^ (q * u) % r = 1 := pow_one_mod hr1 hb1 u
  have hb4 : (a ^ k) ^ ((r - 1) * t) % r = 1 := pow_one_mod hr1 hb2 t
  rw [Nat.mul_comm q u, hu, Nat.pow_add, Nat.pow_one, Nat.mul_mod, hb4, Nat.mul_one, Nat.mod_mod] at hb3
  have hd : r ∣ a ^ k % N + (N - 1) := by
    apply Nat.dvd_of_mod_eq_zero
    obtain ⟨c, hc2⟩ := hrN
    have h5 : (a ^ k % N + (N - 1) + 1) % r = 1 := by
      rw [show a ^ k % N + (N - 1) + 1 = a ^ k % N + N by omega, Nat.add_mod, Nat.mod_mod_of_dvd _ ⟨c, hc2⟩, hb3, Nat.mod_eq_zero_of_dvd ⟨c, hc2⟩, Nat.add_zero, Nat.mod_eq_of_lt hr1]
    have h6 := Nat.mod_lt (a ^ k % N + (N - 1)) (show 0 < r by omega)
    obtain ⟨y, hy⟩ : ∃ y, y = a ^ k % N + (N - 1) := ⟨_, rfl⟩
    rw [← hy] at h5 h6 ⊢
    rw [Nat.add_mod, Nat.mod_eq_of_lt hr1] at h5
    by_cases h7 : y % r + 1 < r
    · rw [Nat.mod_eq_of_lt h7] at h5; omega
    · have : y % r + 1 = r := by omega
      rw [this, Nat.mod_self] at h5; omega
  have hg := Nat.dvd_gcd hd hrN
  rw [h2] at hg
  have := Nat.le_of_dvd (by decide) hg
  omega
def prodL : List Nat → Nat
  | [] => 1
  | q :: l => q * prodL l
theorem pr_prod {q : Nat} (hq : Pr q) : ∀ l : List Nat, (∀ x ∈ l, Pr x) → q ∣ prodL l → q ∈ l
  | [], _, h => by have h2 : q ≤ 1 := Nat.le_of_dvd (by decide) h; have h3 := hq.1; omega
  | x :: l, hl, h => by
    rcases hq.dvd_mul h with h1 | h1
    · rcases (hl x (by simp)).2 q h1 with e | e
      · have := hq.1; omega
      · simp [e]
    · exact List.mem_cons_of_mem _ (pr_prod hq l (fun y hy => hl y (by simp [hy])) h1)
theorem prod_dvd {m : Nat} : ∀ l : List Nat, l.Nodup → (∀ x ∈ l, Pr x) → (∀ x ∈ l, x ∣ m) → prodL l ∣ m
  | [], _, _, _ => Nat.one_dvd _
  | q :: l, hn, hp, hd => by
    have hn' := List.nodup_cons.1 hn
    have hl := fun y hy => hp y (List.mem_cons_of_mem q hy)
    have hc : Nat.Coprime q (prodL l) := (hp q (by simp)).cop fun h => hn'.1 (pr_prod (hp q (by simp)) l hl h)
    exact hc.mul_dvd_of_dvd_of_dvd (hd q (by simp)) (prod_dvd l hn'.2 hl fun y hy => hd y (by simp [hy]))
theorem pock {N : Nat} (hN : 1 < N) (qs : List Nat) (hn : qs.Nodup) (hp : ∀ q ∈ qs, Pr q) (h : ∀ q ∈ qs, q ∣ N - 1 ∧ ∃ a, a ^ (N - 1) % N = 1 ∧ Nat.gcd (a ^ ((N - 1) / q) % N + (N - 1)) N = 1) (hs : N < (prodL qs + 1) * (prodL qs + 1)) : Pr N := by
  have key : ∀ r, Pr r → r ∣ N → prodL qs + 1 ≤ r := fun r hr hrN => by
    have := prod_dvd (m := r - 1) qs hn hp (fun q hq => by
      obtain ⟨hd, a, h1, h2⟩ := h q hq
      exact pock_dvd hr hrN hN (hp q hq) hd h1 h2)
    have h1 := hr.1
    have := Nat.le_of_dvd (by omega) this
    omega
  refine ⟨hN, fun m hm => ?_⟩
  apply Classical.byContradiction
  intro hc
  have h0 : m ≠ 0 := fun e => by rw [e] at hm; have := Nat.eq_zero_of_zero_dvd hm; omega
  obtain ⟨k, hk⟩ := hm
  have hk1 : 1 < k := by
    by_cases h1 : k = 0
    · rw [h1, Nat.mul_zero] at hk; omega
    · by_cases h2 : k = 1
      · rw [h2, Nat.mul_one] at hk; exact absurd (.inr hk.symm) hc
      · omega
  have hm1 : 1 < m := by
    by_cases h1 : m = 1
    · exact absurd (.inl h1) hc
    · omega
  obtain ⟨r, hr, hrm⟩ := least_div m hm1
  obtain ⟨r', hr', hrk⟩ := least_div k hk1
  have a1 := key r hr (Nat.dvd_trans hrm ⟨k, hk⟩)
  have a2 := key r' hr' (Nat.dvd_trans hrk ⟨m, by rw [Nat.mul_comm]; exact hk⟩)
  have b1 := Nat.le_of_dvd (by omega) hrm
  have b2 := Nat.le_of_dvd (by omega) hrk
  have := Nat.mul_le_mul (Nat.le_trans a1 b1) (Nat.le_trans a2 b2)
  omega
/-- a ^ n % m, by squares; f: as many steps as n has places -/
def pm (m : Nat) : Nat → Nat → Nat → Nat → Nat
  | 0, _, _, acc => acc
  | f + 1, a, n, acc => pm m f (a * a % m) (n / 2) (if n % 2 = 1 then acc * a % m else acc)
theorem pm_eq {m : Nat} : ∀ (f a n acc : Nat), n < 2 ^ f → acc < m → pm m f a n acc = acc * a ^ n % m
  | 0, a, n, acc, h, ha => by
    have : n = 0 := by simpa using h
    subst this
    rw [pm, Nat.pow_zero, Nat.mul_one, Nat.mod_eq_of_lt ha]
  | f + 1, a, n, acc, h, ha => by
    have hm : 0 < m := by omega
    have hn : n / 2 < 2 ^ f := by rw [Nat.pow_succ] at h; omega
    rw [pm]
    have e2 : (a * a % m) ^ (n / 2) % m = a ^ (2 * (n / 2)) % m := by rw [← Nat.pow_mod, Nat.pow_mul]; congr 2; rw [Nat.pow_two]
    by_cases hb : n % 2 = 1
    · rw [if_pos hb, pm_eq f _ _ _ hn (Nat.mod_lt _ hm), Nat.mul_mod, Nat.mod_mod, e2, ← Nat.mul_mod]
      have : a ^ n = a * a ^ (2 * (n / 2)) := by
        rw [Nat.mul_comm a, ← Nat.pow_succ]; congr 1; omega
      rw [this, Nat.mul_assoc]
    · rw [if_neg hb, pm_eq f _ _ _ hn ha, Nat.mul_mod, e2, ← Nat.mul_mod]
      congr 3
      omega
end Go.Proofs.YtfaeigbfnjkojaaGreatDoor.Nt
