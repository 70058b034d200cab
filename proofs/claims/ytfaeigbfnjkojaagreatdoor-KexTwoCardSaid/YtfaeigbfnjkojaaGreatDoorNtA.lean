/- Numbers, plainly: primes, the inverse, Fermat's little theorem, Pocklington's test. -/
set_option linter.unusedVariables false
set_option linter.unusedSimpArgs false
namespace Go.Proofs.YtfaeigbfnjkojaaGreatDoor.Nt
def Pr (p : Nat) : Prop := 1 < p ∧ ∀ m, m ∣ p → m = 1 ∨ m = p
theorem Pr.pos {p : Nat} (h : Pr p) : 0 < p := by have := h.1; omega
theorem Pr.cop {p : Nat} (h : Pr p) {a : Nat} (ha : ¬ p ∣ a) : Nat.Coprime p a := by
  rcases h.2 _ (Nat.gcd_dvd_left p a) with e | e
  · exact e
  · exact absurd (e ▸ Nat.gcd_dvd_right p a) ha
theorem Pr.dvd_mul {p : Nat} (h : Pr p) {a b : Nat} (hd : p ∣ a * b) : p ∣ a ∨ p ∣ b := by
  by_cases ha : p ∣ a
  · exact .inl ha
  · exact .inr ((h.cop ha).dvd_of_dvd_mul_left hd)
/-- a prime divisor -/
theorem least_div : ∀ n, 1 < n → ∃ r, Pr r ∧ r ∣ n := by
  intro n
  induction n using Nat.strongRecOn with
  | _ n ih =>
    intro hn
    by_cases h : Pr n
    · exact ⟨n, h, Nat.dvd_refl n⟩
    · have : ∃ m, m ∣ n ∧ m ≠ 1 ∧ m ≠ n := by
        apply Classical.byContradiction
        intro hc
        exact h ⟨hn, fun m hm => by
          by_cases h1 : m = 1
          · exact .inl h1
          · by_cases h2 : m = n
            · exact .inr h2
            · exact absurd ⟨m, hm, h1, h2⟩ hc⟩
      obtain ⟨m, hm, h1, h2⟩ := this
      have hle := Nat.le_of_dvd (by omega) hm
      have h0 : m ≠ 0 := fun e => by rw [e] at hm; have := Nat.eq_zero_of_zero_dvd hm; omega
      obtain ⟨r, hr, hd⟩ := ih m (by omega) (by omega)
      exact ⟨r, hr, Nat.dvd_trans hd hm⟩
/-- a list without twins that lies within another of no greater length has all of it -/
theorem perm_of {α : Type} [DecidableEq α] : ∀ {l m : List α}, l.Nodup → (∀ x ∈ l, x ∈ m) → m.length ≤ l.length → l.Perm m
  | [], m, _, _, h => by
    have : m = [] := List.length_eq_zero_iff.1 (by simpa using h)
    rw [this]
  | x :: l, m, hn, hs, h => by
    have hx : x ∈ m := hs x (by simp)
    have hn' := List.nodup_cons.1 hn
    have h2 := perm_of (l := l) (m := m.erase x) hn'.2 (fun y hy => by
      have hne : y ≠ x := fun e => hn'.1 (e ▸ hy)
      exact (List.mem_erase_of_ne hne).2 (hs y (by simp [hy]))) (by rw [List.length_erase_of_mem hx]; simp at h; omega)
    exact (h2.cons x).trans (List.perm_cons_erase hx).symm
def prodM (p : Nat) (l : List Nat) : Nat := l.foldr (fun a b => a * b % p) (1 % p)
theorem prodM_perm {p : Nat} {l m : List Nat} (h : l.Perm m) : prodM p l = prodM p m := by
  unfold prodM
  induction h with
  | nil => rfl
  | cons x _ ih => simp only [List.foldr_cons, ih]
  | swap x y l =>
    simp only [List.foldr_cons]
    rw [Nat.mul_mod, Nat.mod_mod, ← Nat.mul_mod, Nat.mul_mod x, Nat.mod_mod, ← Nat.mul_mod, ← Nat.mul_assoc, ← Nat.mul_assoc, Nat.mul_comm x y]
  | trans _ _ h1 h2 => exact h1.trans h2
theorem prodM_map {p a : Nat} : ∀ l : List Nat, prodM p (l.map fun x => a * x % p) = a ^ l.length * prodM p l % p
  | [] => by simp [prodM]
  | x :: l => by
    have ih := prodM_map (p := p) (a := a) l
    unfold prodM at ih ⊢
    simp only [List.map_cons, List.foldr_cons, List.length_cons]
    rw [ih, ← Nat.mul_mod, Nat.pow_succ]
    rw [show a ^ l.length * a * (x * l.foldr (fun a b => a * b % p) (1 % p) % p) % p = a ^ l.length * a * (x * l.foldr (fun a b => a * b % p) (1 % p)) % p by rw [Nat.mul_mod, Nat.mod_mod, ← Nat.mul_mod]]
    congr 1
    ac_rfl
theorem prodM_cop {p : Nat} (hp : Pr p) : ∀ l : List Nat, (∀ x ∈ l, ¬ p ∣ x) → ¬ p ∣ prodM p l
  | [], _, h => by
    have h1 := hp.1
    unfold prodM at h
    simp only [List.foldr_nil] at h
    rw [Nat.mod_eq_of_lt h1] at h
    have := Nat.le_of_dvd (by omega) h
    omega
  | x :: l, hl, h => by
    unfold prodM at h
    simp only [List.foldr_cons] at h
    have h2 : p ∣ x * l.foldr (fun a b => a * b % p) (1 % p) := by
      have := Nat.dvd_of_mod_eq_zero (n := x * l.foldr (fun a b => a * b % p) (1 % p)) (m := p) (by
        have := Nat.mod_eq_zero_of_dvd h
        rwa [Nat.mod_mod] at this)
      exact this
    rcases hp.dvd_mul h2 with h3 | h3
    · exact hl x (by simp) h3
    · exact prodM_cop hp l (fun y hy => hl y (by simp [hy])) h3
/-- Fermat -/
theorem fermat {p a : Nat} (hp : Pr p) (ha : ¬ p ∣ a) : a ^ (p - 1) % p = 1 := by
  obtain ⟨l, hl⟩ : ∃ l, l = (List.range (p - 1)).map (· + 1) := ⟨_, rfl⟩
  have h1 := hp.1
  have hmem : ∀ x, x ∈ l ↔ 1 ≤ x ∧ x < p := fun x => by
    rw [hl]; simp only [List.mem_map, List.mem_range]
    constructor
    · rintro ⟨y, hy, rfl⟩; omega
    · rintro ⟨h1, h2⟩; exact ⟨x - 1, by omega, by omega⟩
  have hcop : ∀ x ∈ l, ¬ p ∣ x := fun x hx hd => by
    have := (hmem x).1 hx
    have := Nat.le_of_dvd (by omega) hd
    omega
  have hlen : l.length = p - 1 := by rw [hl]; simp
  have hnd : l.Nodup := by rw [hl]; exact List.Pairwise.map _ (fun a b (h : a ≠ b) => by simpa using h) List.nodup_range
  have hmd : (l.map fun x => a * x % p).Nodup := by
    refine List.pairwise_map.2 (List.Pairwise.imp_of_mem ?_ hnd)
    intro x y hx hy hne he
    have hx' := (hmem x).1 hx; have hy' := (hmem y).1 hy
    have key : ∀ x y : Nat, x < p → y < p → x ≤ y → a * x % p = a * y % p → x = y := fun x y hx hy hle he => by
      have h2 : p ∣ a * (y - x) := by
        rw [Nat.mul_sub]
        exact Nat.dvd_of_mod_eq_zero (Nat.sub_mod_eq_zero_of_mod_eq he.symm)
      rcases hp.dvd_mul h2 with h3 | h3
      · exact absurd h3 ha
      · by_cases h4 : y - x = 0
        · omega
        · have := Nat.le_of_dvd (by omega) h3; omega
    rcases Nat.le_total x y with h | h
    · exact hne (key x y hx'.2 hy'.2 h he)
    · exact hne (key y x hy'.2 hx'.2 h he.symm).symm
  have hp1 := perm_of (l := l.map fun x => a * x % p) (m := l) hmd (fun y hy => by
    obtain ⟨x, hx, rfl⟩ := List.mem_map.1 hy
    refine (hmem _).2 ⟨?_, Nat.mod_lt _ hp.pos⟩
    by_cases h0 : a * x % p = 0
    · rcases hp.dvd_mul (Nat.dvd_of_mod_eq_zero h0) with h3 | h3
      · exact absurd h3 ha
      · exact absurd h3 (hcop x hx)
    · omega) (by simp)
  have h2 := prodM_perm (p := p) hp1
  rw [prodM_map, hlen] at h2
  have hc := prodM_cop hp l hcop
  have hlt : prodM p l < p := by
    cases l with
    | nil => unfold prodM; exact Nat.mod_lt _ hp.pos
    | cons x l => unfold prodM; exact Nat.mod_lt _ hp.pos
  have h3 : p ∣ (a ^ (p - 1) % p + (p - 1)) * prodM p l := by
    apply Nat.dvd_of_mod_eq_zero
    rw [Nat.add_mul, Nat.add_mod, Nat.mul_mod, Nat.mod_mod, ← Nat.mul_mod, h2]
    have h5 : (prodM p l + (p - 1) * prodM p l) % p = 0 := by
      have : prodM p l + (p - 1) * prodM p l = p * prodM p l := by
        rw [Nat.sub_mul, Nat.one_mul]
        have := Nat.le_mul_of_pos_left (prodM p l) hp.pos
        omega
      rw [this]; exact Nat.mul_mod_right _ _
    rw [Nat.add_mod] at h5
    rwa [Nat.mod_eq_of_lt hlt] at h5
  rcases hp.dvd_mul h3 with h4 | h4
  · obtain ⟨k, hk⟩ := h4
    have h5 := Nat.mod_lt (a ^ (p - 1)) hp.pos
    have hk1 : k = 1 := by
      have hk0 : k ≠ 0 := fun e => by rw [e, Nat.mul_zero] at hk; omega
      have hk2 : k < 2 := by
        apply Classical.byContradiction
        intro hc2
        have := Nat.mul_le_mul_left p (show 2 ≤ k by omega)
        omega
      omega
    rw [hk1, Nat.mul_one] at hk
    omega
  · exact absurd h4 hc
end Go.Proofs.YtfaeigbfnjkojaaGreatDoor.Nt
