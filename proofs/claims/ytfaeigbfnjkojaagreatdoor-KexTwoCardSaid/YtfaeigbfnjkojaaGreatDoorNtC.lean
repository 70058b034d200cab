/- Numbers, plainly: 2^255 - 19 is a prime, and so is the order of the curve's base (certificates of Pocklington). -/
import Derived.Test.YtfaeigbfnjkojaaGreatDoorNtB
set_option linter.unusedVariables false
set_option linter.unusedSimpArgs false
namespace Go.Proofs.YtfaeigbfnjkojaaGreatDoor.Nt
def trial (n : Nat) : Bool := decide (1 < n) && (List.range 3300).all fun d => n % (d + 2) != 0 || d + 2 == n
theorem pr_trial {n : Nat} (h : trial n = true) (hs : n < 10000000) : Pr n := by
  unfold trial at h
  simp only [Bool.and_eq_true, decide_eq_true_eq, List.all_eq_true, List.mem_range, Bool.or_eq_true, bne_iff_ne, beq_iff_eq] at h
  obtain ⟨h1, h2⟩ := h
  refine ⟨h1, fun m hm => ?_⟩
  apply Classical.byContradiction
  intro hc
  have h0 : m ≠ 0 := fun e => by rw [e] at hm; have := Nat.eq_zero_of_zero_dvd hm; omega
  have hm1 : m ≠ 1 := fun e => hc (.inl e)
  have hmn : m ≠ n := fun e => hc (.inr e)
  obtain ⟨k, hk⟩ := hm
  have small : ∀ d, 2 ≤ d → d ∣ n → d ≠ n → 3300 < d := fun d hd hdn hne => by
    apply Classical.byContradiction
    intro hlt
    rcases h2 (d - 2) (by omega) with h3 | h3
    · rw [show d - 2 + 2 = d by omega] at h3
      exact h3 (Nat.mod_eq_zero_of_dvd hdn)
    · omega
  have hk1 : k ≠ 1 := fun e => by rw [e, Nat.mul_one] at hk; exact hmn hk.symm
  have hk0 : k ≠ 0 := fun e => by rw [e, Nat.mul_zero] at hk; omega
  have hkn : k ≠ n := fun e => by
    rw [e] at hk
    have h5 : 2 * n ≤ m * n := Nat.mul_le_mul_right n (by omega)
    omega
  have a1 := small m (by omega) ⟨k, hk⟩ hmn
  have a2 := small k (by omega) ⟨m, by rw [Nat.mul_comm]; exact hk⟩ hkn
  have := Nat.mul_le_mul (show 3301 ≤ m by omega) (show 3301 ≤ k by omega)
  omega
def nodupB : List Nat → Bool
  | [] => true
  | x :: l => !l.contains x && nodupB l
theorem nodup_of : ∀ {l : List Nat}, nodupB l = true → l.Nodup
  | [], _ => List.nodup_nil
  | x :: l, h => by
    rw [nodupB, Bool.and_eq_true] at h
    refine List.nodup_cons.2 ⟨fun hx => ?_, nodup_of h.2⟩
    have := h.1
    rw [List.contains_iff_mem.2 hx] at this
    cases this
def chk (N : Nat) (qs : List (Nat × Nat)) : Bool :=
  decide (1 < N) && decide (N < 2 ^ 300) && nodupB (qs.map (·.1)) && decide (N < (prodL (qs.map (·.1)) + 1) * (prodL (qs.map (·.1)) + 1)) &&
    qs.all fun x => (N - 1) % x.1 == 0 && pm N 300 x.2 (N - 1) 1 == 1 && Nat.gcd (pm N 300 x.2 ((N - 1) / x.1) 1 + (N - 1)) N == 1
theorem pr_chk {N : Nat} {qs : List (Nat × Nat)} (h : chk N qs = true) (hp : ∀ x ∈ qs, Pr x.1) : Pr N := by
  unfold chk at h
  simp only [Bool.and_eq_true, decide_eq_true_eq, List.all_eq_true, beq_iff_eq] at h
  obtain ⟨⟨⟨⟨h1, h2⟩, h3⟩, h4⟩, h5⟩ := h
  refine pock h1 (qs.map (·.1)) (nodup_of h3) (fun q hq => ?_) (fun q hq => ?_) h4
  · obtain ⟨x, hx, rfl⟩ := List.mem_map.1 hq; exact hp x hx
  · obtain ⟨x, hx, rfl⟩ := List.mem_map.1 hq
    obtain ⟨⟨a1, a2⟩, a3⟩ := h5 x hx
    rw [pm_eq 300 _ _ _ (by omega) h1, Nat.one_mul] at a2
    rw [pm_eq 300 _ _ _ (Nat.lt_of_le_of_lt (Nat.div_le_self _ _) (by omega)) h1, Nat.one_mul] at a3
    exact ⟨Nat.dvd_of_mod_eq_zero a1, x.2, a2, a3⟩
theorem pr8574133 : Pr 8574133 := pr_trial (by decide +kernel) (by decide)
theorem pr127 : Pr 127 := pr_trial (by decide +kernel) (by decide)
theorem pr1919519569386763 : Pr 1919519569386763 :=
  pr_chk (qs := [(8574133, 2), (127, 2)]) (by decide +kernel) (by
    intro x hx
    simp only [List.mem_cons, List.not_mem_nil, or_false] at hx
    rcases hx with rfl | rfl
    · exact pr8574133
    · exact pr127)
theorem pr569003 : Pr 569003 := pr_trial (by decide +kernel) (by decide)
theorem pr2773320623 : Pr 2773320623 :=
  pr_chk (qs := [(569003, 2)]) (by decide +kernel) (by
    intro x hx
    simp only [List.mem_cons, List.not_mem_nil, or_false] at hx
    rcases hx with rfl
    · exact pr569003)
theorem pr72106336199 : Pr 72106336199 :=
  pr_chk (qs := [(2773320623, 2)]) (by decide +kernel) (by
    intro x hx
    simp only [List.mem_cons, List.not_mem_nil, or_false] at hx
    rcases hx with rfl
    · exact pr2773320623)
theorem pr75445702479781427272750846543864801 : Pr 75445702479781427272750846543864801 :=
  pr_chk (qs := [(1919519569386763, 2), (72106336199, 2)]) (by decide +kernel) (by
    intro x hx
    simp only [List.mem_cons, List.not_mem_nil, or_false] at hx
    rcases hx with rfl | rfl
    · exact pr1919519569386763
    · exact pr72106336199)
theorem pr430751 : Pr 430751 := pr_trial (by decide +kernel) (by decide)
theorem pr4153 : Pr 4153 := pr_trial (by decide +kernel) (by decide)
theorem pr31757755568855353 : Pr 31757755568855353 :=
  pr_chk (qs := [(430751, 2), (4153, 2)]) (by decide +kernel) (by
    intro x hx
    simp only [List.mem_cons, List.not_mem_nil, or_false] at hx
    rcases hx with rfl | rfl
    · exact pr430751
    · exact pr4153)
theorem pr74058212732561358302231226437062788676166966415465897661863160754340907 : Pr 74058212732561358302231226437062788676166966415465897661863160754340907 :=
  pr_chk (qs := [(75445702479781427272750846543864801, 2), (31757755568855353, 2)]) (by decide +kernel) (by
    intro x hx
    simp only [List.mem_cons, List.not_mem_nil, or_false] at hx
    rcases hx with rfl | rfl
    · exact pr75445702479781427272750846543864801
    · exact pr31757755568855353)
theorem pr_p : Pr 57896044618658097711785492504343953926634992332820282019728792003956564819949 :=
  pr_chk (qs := [(74058212732561358302231226437062788676166966415465897661863160754340907, 2)]) (by decide +kernel) (by
    intro x hx
    simp only [List.mem_cons, List.not_mem_nil, or_false] at hx
    rcases hx with rfl
    · exact pr74058212732561358302231226437062788676166966415465897661863160754340907)
theorem pr1224481 : Pr 1224481 := pr_trial (by decide +kernel) (by decide)
theorem pr531581 : Pr 531581 := pr_trial (by decide +kernel) (by decide)
theorem pr1257559732178653 : Pr 1257559732178653 :=
  pr_chk (qs := [(1224481, 2), (531581, 2)]) (by decide +kernel) (by
    intro x hx
    simp only [List.mem_cons, List.not_mem_nil, or_false] at hx
    rcases hx with rfl | rfl
    · exact pr1224481
    · exact pr531581)
theorem pr4434155615661930479 : Pr 4434155615661930479 :=
  pr_chk (qs := [(1257559732178653, 2)]) (by decide +kernel) (by
    intro x hx
    simp only [List.mem_cons, List.not_mem_nil, or_false] at hx
    rcases hx with rfl
    · exact pr1257559732178653)
theorem pr172054593956031949258510691 : Pr 172054593956031949258510691 :=
  pr_chk (qs := [(4434155615661930479, 2)]) (by decide +kernel) (by
    intro x hx
    simp only [List.mem_cons, List.not_mem_nil, or_false] at hx
    rcases hx with rfl
    · exact pr4434155615661930479)
theorem pr19757330305831588566944191468367130476339 : Pr 19757330305831588566944191468367130476339 :=
  pr_chk (qs := [(172054593956031949258510691, 2)]) (by decide +kernel) (by
    intro x hx
    simp only [List.mem_cons, List.not_mem_nil, or_false] at hx
    rcases hx with rfl
    · exact pr172054593956031949258510691)
theorem pr276602624281642239937218680557139826668747 : Pr 276602624281642239937218680557139826668747 :=
  pr_chk (qs := [(19757330305831588566944191468367130476339, 2)]) (by decide +kernel) (by
    intro x hx
    simp only [List.mem_cons, List.not_mem_nil, or_false] at hx
    rcases hx with rfl
    · exact pr19757330305831588566944191468367130476339)
theorem pr_l : Pr 7237005577332262213973186563042994240857116359379907606001950938285454250989 :=
  pr_chk (qs := [(276602624281642239937218680557139826668747, 2)]) (by decide +kernel) (by
    intro x hx
    simp only [List.mem_cons, List.not_mem_nil, or_false] at hx
    rcases hx with rfl
    · exact pr276602624281642239937218680557139826668747)
end Go.Proofs.YtfaeigbfnjkojaaGreatDoor.Nt
