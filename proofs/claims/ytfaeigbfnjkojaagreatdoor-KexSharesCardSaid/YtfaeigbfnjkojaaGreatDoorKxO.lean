/- Bytes as numbers, numbers as five limbs: bit by bit. -/
import Derived.Test.YtfaeigbfnjkojaaGreatDoorKxN
set_option linter.unusedVariables false
set_option linter.unusedSimpArgs false
namespace Go.Proofs.YtfaeigbfnjkojaaGreatDoor.Kx
open Go.RowKit Go.Proofs.YtfaeigbfnjkojaaGreatDoor.Cl
/-- bytes as a number, the lowest first -/
def leN : List UInt8 → Nat
  | [] => 0
  | b :: l => b.toNat + 256 * leN l
theorem leN_lt : ∀ l : List UInt8, leN l < 256 ^ l.length
  | [] => by simp [leN]
  | b :: l => by
    have := leN_lt l
    have hb := b.toNat_lt
    rw [leN, List.length_cons, Nat.pow_succ]
    omega
theorem leN_byte : ∀ (l : List UInt8) (i : Nat) (h : i < l.length), leN l / 256 ^ i % 256 = l[i].toNat
  | b :: l, 0, _ => by
    have hb := b.toNat_lt
    rw [leN, Nat.pow_zero, Nat.div_one, List.getElem_cons_zero]
    omega
  | b :: l, i + 1, h => by
    have hb := b.toNat_lt
    have h1 := leN_byte l i (by simpa using h)
    rw [List.getElem_cons_succ, ← h1, leN, Nat.pow_succ, Nat.mul_comm (256 ^ i) 256, ← Nat.div_div_eq_div_mul]
    congr 2
    omega
/-- n bytes of a number, the lowest first -/
def toLe : Nat → Nat → List UInt8
  | 0, _ => []
  | n + 1, x => UInt8.ofNat (x % 256) :: toLe n (x / 256)
theorem toLe_len : ∀ n x, (toLe n x).length = n
  | 0, _ => rfl
  | n + 1, x => by rw [toLe, List.length_cons, toLe_len]
theorem leN_toLe : ∀ n x, leN (toLe n x) = x % 256 ^ n
  | 0, x => by rw [toLe, leN, Nat.pow_zero, Nat.mod_one]
  | n + 1, x => by
    rw [toLe, leN, leN_toLe n, Nat.pow_succ, Nat.mul_comm (256 ^ n) 256, Nat.mod_mul]
    congr 1
    simp [UInt8.toNat_ofNat']
theorem toLe_get : ∀ (n x i : Nat) (h : i < n), (toLe n x)[i]? = some (UInt8.ofNat (x / 256 ^ i % 256))
  | n + 1, x, 0, _ => by rw [toLe, List.getElem?_cons_zero, Nat.pow_zero, Nat.div_one]
  | n + 1, x, i + 1, h => by
    rw [toLe, List.getElem?_cons_succ, toLe_get n _ i (by omega), Nat.div_div_eq_div_mul, Nat.pow_succ, Nat.mul_comm 256]
theorem toLe_leN : ∀ l : List UInt8, toLe l.length (leN l) = l
  | [] => rfl
  | b :: l => by
    have hb := b.toNat_lt
    rw [List.length_cons, toLe, leN, show (b.toNat + 256 * leN l) / 256 = leN l by omega, toLe_leN l]
    congr 1
    apply UInt8.toNat_inj.1
    simp [UInt8.toNat_ofNat']
/-- a number's five limbs -/
def spl (n : Nat) : E := ⟨n % W, n / W % W, n / (W * W) % W, n / (W * W * W) % W, n / (W * W * W * W) % W⟩
/-- the number of five limbs -/
def E.val (x : E) : Nat := x.a + W * x.b + W * W * x.c + W * W * W * x.d + W * W * W * W * x.e
def lim (n j : Nat) : Nat := n / 2 ^ (51 * j) % 2 ^ 51
theorem spl_nth (n j : Nat) (h : j < 5) : nth (spl n).l j = lim n j := by
  match j, h with
  | 0, _ => show n % W = _; rw [lim, Nat.mul_zero, Nat.pow_zero, Nat.div_one]; rfl
  | 1, _ => rfl
  | 2, _ => rfl
  | 3, _ => rfl
  | 4, _ => rfl
theorem spl_len (n : Nat) : (spl n).l.length = 5 := rfl
theorem eq_of_nth5 {l m : List Nat} (hl : l.length = 5) (hm : m.length = 5) (h : ∀ j, j < 5 → nth l j = nth m j) : l = m := by
  apply List.ext_getElem (by omega)
  intro j h1 h2
  have := h j (by omega)
  simpa [nth, List.getD_eq_getElem?_getD, h1, h2] using this
theorem testBit_low (x i : Nat) : (x % 2).testBit i = (decide (i = 0) && x.testBit 0) := by
  have := Nat.testBit_mod_two_pow x 1 i
  rw [Nat.pow_one] at this
  rw [this]
  cases i with
  | zero => simp
  | succ i => simp
theorem lim_same (N m j : Nat) (h : j ≠ m / 51) : lim (N % 2 ^ (m + 1)) j = lim (N % 2 ^ m) j := by
  apply Nat.eq_of_testBit_eq
  intro i
  unfold lim
  simp only [Nat.testBit_mod_two_pow, Nat.testBit_div_two_pow]
  by_cases hi : i < 51
  · rw [show decide (i + 51 * j < m + 1) = decide (i + 51 * j < m) from decide_eq_decide.2 (by omega)]
  · simp [hi]
theorem lim_next (N m : Nat) : lim (N % 2 ^ (m + 1)) (m / 51) = lim (N % 2 ^ m) (m / 51) ||| (N / 2 ^ m % 2) * 2 ^ (m % 51) := by
  apply Nat.eq_of_testBit_eq
  intro i
  rw [← Nat.shiftLeft_eq]
  unfold lim
  simp only [Nat.testBit_mod_two_pow, Nat.testBit_div_two_pow, Nat.testBit_or, Nat.testBit_shiftLeft, testBit_low]
  have hq : 51 * (m / 51) + m % 51 = m := Nat.div_add_mod m 51
  have hr : m % 51 < 51 := Nat.mod_lt _ (by decide)
  by_cases hi : i < 51
  · by_cases h1 : i = m % 51
    · subst h1
      have : m % 51 + 51 * (m / 51) = m := by omega
      simp [this, hr]
    · by_cases h2 : i < m % 51
      · simp [hi, show i + 51 * (m / 51) < m + 1 by omega, show i + 51 * (m / 51) < m by omega, show ¬ m % 51 ≤ i by omega]
      · simp [show ¬ i + 51 * (m / 51) < m + 1 by omega, show ¬ i + 51 * (m / 51) < m by omega, show ¬ i - m % 51 = 0 by omega]
  · simp [hi, show ¬ i - m % 51 = 0 by omega]
theorem spl_step (N m : Nat) (h : m < 255) : (spl (N % 2 ^ (m + 1))).l = (spl (N % 2 ^ m)).l.set (m / 51) (nth (spl (N % 2 ^ m)).l (m / 51) ||| (N / 2 ^ m % 2) * 2 ^ (m % 51)) := by
  have hq : m / 51 < 5 := by omega
  refine eq_of_nth5 (spl_len _) (by rw [List.length_set]; rfl) (fun j hj => ?_)
  rw [spl_nth _ _ hj]
  by_cases e : m / 51 = j
  · subst e
    rw [nth_set (by rw [spl_len]; exact hj), spl_nth _ _ hj, lim_next]
  · rw [nth_set_ne e, spl_nth _ _ hj, lim_same _ _ _ (fun h => e h.symm)]
theorem spl_lt (n j : Nat) : nth (spl n).l j < W := by
  match j with
  | 0 => exact mod_lt_W _
  | 1 => exact mod_lt_W _
  | 2 => exact mod_lt_W _
  | 3 => exact mod_lt_W _
  | 4 => exact mod_lt_W _
  | j + 5 => simp [E.l, nth, W]
theorem spl_ok (n : Nat) : (spl n).ok := fun j => Nat.lt_trans (spl_lt n j) W_lt_M
theorem spl_zero : (spl (0 % 2 ^ 0)).l = [0, 0, 0, 0, 0] := by decide
/-- bit m of bytes -/
theorem leN_bit (l : List UInt8) (i k : Nat) (h : i < l.length) (hk : k < 8) : leN l / 2 ^ (8 * i + k) % 2 = l[i].toNat / 2 ^ k % 2 := by
  rw [← leN_byte l i h, show (256 : Nat) = 2 ^ 8 from rfl, ← Nat.pow_mul]
  have h1 : ∀ x : Nat, x % 2 = (x.testBit 0).toNat := fun x => by rw [Nat.testBit_zero]; rcases Nat.mod_two_eq_zero_or_one x with h | h <;> simp [h]
  rw [h1, h1]
  congr 1
  simp only [Nat.testBit_div_two_pow, Nat.testBit_mod_two_pow]
  simp [hk, Nat.add_comm]
/-- the number whose limbs x has -/
theorem val_spl (n : Nat) (h : n < 2 ^ 255) : (spl n).val = n := by
  unfold spl E.val W
  simp only [Nat.reduceMul]
  omega
theorem spl_val (x : E) (h : ∀ j, nth x.l j < W) : spl x.val = x := by
  cases x with
  | mk a b c d e =>
  have h0 : a < W := h 0
  have h1 : b < W := h 1
  have h2 : c < W := h 2
  have h3 : d < W := h 3
  have h4 : e < W := h 4
  unfold W at h0 h1 h2 h3 h4
  unfold spl E.val W
  simp only [Nat.reduceMul]
  congr 1 <;> omega
theorem val_lt (x : E) (h : ∀ j, nth x.l j < W) : x.val < 2 ^ 255 := by
  cases x with
  | mk a b c d e =>
  have h0 : a < W := h 0
  have h1 : b < W := h 1
  have h2 : c < W := h 2
  have h3 : d < W := h 3
  have h4 : e < W := h 4
  unfold W at h0 h1 h2 h3 h4
  unfold E.val W
  simp only
  omega
/-- of bytes: 255 bits -/
def ofB (l : List UInt8) : E := spl (leN l % 2 ^ 255)
theorem ofB_ok (l : List UInt8) : (ofB l).ok := spl_ok _
/-- the bytes of the number below p -/
def bytesE (x : E) : List UInt8 := toLe 32 (least x).val
theorem bytesE_len (x : E) : (bytesE x).length = 32 := toLe_len _ _
theorem ofB_bytesE (x : E) : ofB (bytesE x) = least x := by
  have h := val_lt (least x) (least_fit x)
  unfold ofB bytesE
  rw [leN_toLe, Nat.mod_eq_of_lt (Nat.lt_trans h (by decide)), Nat.mod_eq_of_lt h, spl_val _ (least_fit x)]
/-- bytes after m bits -/
theorem bytes_same (N m i : Nat) (h : i ≠ m / 8) : (N % 2 ^ (m + 1)) / 256 ^ i % 256 = (N % 2 ^ m) / 256 ^ i % 256 := by
  rw [show (256 : Nat) = 2 ^ 8 from rfl, ← Nat.pow_mul]
  apply Nat.eq_of_testBit_eq
  intro k
  simp only [Nat.testBit_mod_two_pow, Nat.testBit_div_two_pow]
  by_cases hi : k < 8
  · rw [show decide (k + 8 * i < m + 1) = decide (k + 8 * i < m) from decide_eq_decide.2 (by omega)]
  · simp [hi]
theorem bytes_next (N m : Nat) : (N % 2 ^ (m + 1)) / 256 ^ (m / 8) % 256 = (N % 2 ^ m) / 256 ^ (m / 8) % 256 ||| (N / 2 ^ m % 2) * 2 ^ (m % 8) := by
  rw [← Nat.shiftLeft_eq, show (256 : Nat) = 2 ^ 8 from rfl, ← Nat.pow_mul]
  apply Nat.eq_of_testBit_eq
  intro i
  simp only [Nat.testBit_mod_two_pow, Nat.testBit_div_two_pow, Nat.testBit_or, Nat.testBit_shiftLeft, testBit_low]
  have hq : 8 * (m / 8) + m % 8 = m := Nat.div_add_mod m 8
  have hr : m % 8 < 8 := Nat.mod_lt _ (by decide)
  by_cases hi : i < 8
  · by_cases h1 : i = m % 8
    · subst h1
      have : m % 8 + 8 * (m / 8) = m := by omega
      simp [this, hr]
    · by_cases h2 : i < m % 8
      · simp [hi, show i + 8 * (m / 8) < m + 1 by omega, show i + 8 * (m / 8) < m by omega, show ¬ m % 8 ≤ i by omega]
      · simp [show ¬ i + 8 * (m / 8) < m + 1 by omega, show ¬ i + 8 * (m / 8) < m by omega, show ¬ i - m % 8 = 0 by omega]
  · simp [hi, show ¬ i - m % 8 = 0 by omega]
theorem toLe_step (N m : Nat) (h : m < 256) : toLe 32 (N % 2 ^ (m + 1)) = (toLe 32 (N % 2 ^ m)).set (m / 8) (UInt8.ofNat ((N % 2 ^ m) / 256 ^ (m / 8) % 256 ||| (N / 2 ^ m % 2) * 2 ^ (m % 8))) := by
  apply List.ext_getElem?
  intro i
  rw [List.getElem?_set]
  by_cases hi : i < 32
  · by_cases e : m / 8 = i
    · subst e
      rw [if_pos rfl, if_pos (by rw [toLe_len]; exact hi), toLe_get _ _ _ hi, bytes_next]
    · rw [if_neg e, toLe_get _ _ _ hi, toLe_get _ _ _ hi, bytes_same _ _ _ (fun h => e h.symm)]
  · rw [if_neg (by omega), List.getElem?_eq_none (by rw [toLe_len]; omega), List.getElem?_eq_none (by rw [toLe_len]; omega)]
/-- a bit of a number in limbs -/
theorem lim_bit (N m : Nat) : lim N (m / 51) / 2 ^ (m % 51) % 2 = N / 2 ^ m % 2 := by
  have h1 : ∀ x : Nat, x % 2 = (x.testBit 0).toNat := fun x => by rw [Nat.testBit_zero]; rcases Nat.mod_two_eq_zero_or_one x with h | h <;> simp [h]
  rw [h1, h1]
  congr 1
  unfold lim
  simp only [Nat.testBit_mod_two_pow, Nat.testBit_div_two_pow]
  have hr : m % 51 < 51 := Nat.mod_lt _ (by decide)
  simp [hr, show m % 51 + 51 * (m / 51) = m by omega]
end Go.Proofs.YtfaeigbfnjkojaaGreatDoor.Kx
