/- Points in memory: two numbers in a row of ten. The ladder, plainly; three of its ends, reckoned. Bytes as numbers, numbers as five limbs: bit by bit. The field's Of. The field's Bytes. The curve's swap. The curve's step. The curve's Mult. -/
import Derived.Test.YtfaeigbfnjkojaaGreatDoorKfB
set_option linter.unusedVariables false
set_option linter.unusedSimpArgs false
namespace Go.Proofs.YtfaeigbfnjkojaaGreatDoor.Kx
open Go.RowKit Go.Proofs.YtfaeigbfnjkojaaGreatDoor.Cl
/-- x, as a quotient -/
structure P where
  x : E
  z : E
deriving DecidableEq
def P.l (p : P) : List Nat := p.x.l ++ p.z.l
def P.ok (p : P) : Prop := p.x.ok ∧ p.z.ok
theorem P.len (p : P) : p.l.length = 10 := rfl
theorem pt_size (p : P) : (u64s p.l).size = 10 := rfl
/-- a part of a row, loaded as a struct or an array -/
theorem run_at {Pr : Program} {o : Oper} {a : Act} {w : World} (ty : TypeId) (x : Operand) (ho : o.op = .load ty x) (g off : Nat) (hx : a.eval x = .pointer (some ⟨g, off, none⟩)) (cs : Array Value) (hc : ∀ j v, cs[j]? = some v → w.cell? ⟨g, off + j, none⟩ = some v) {d : TypeDesc}
    (hu : Pr.underlying ty = some d) (hd : (match d with | .struct _ | .array _ _ => true | _ => false) = true) (hi : (Pr.info? ty).map (·.size) = some cs.size) : (execOp a.eval o).run Pr w = .ok (.value (.agg cs)) w := by
  unfold execOp
  simp only [ho, hx, Instr.loadAt, Instr.sureAddr, Sem.run_bind, Sem.run_pure, Result.andThen_ok, Cv.run_loadVar_cells w g off ty cs d hc hu hd hi]
theorem pt_x {w : World} {b T : Nat} {p : P} (h : Row w b T p.l) : ∀ j v, (u64s p.x.l)[j]? = some v → w.cell? ⟨b, 0 + j, none⟩ = some v := by
  intro j v hv
  rw [Nat.zero_add]
  refine Rg.Blk.cell (row_blk h) j ?_
  match j, hv with
  | 0, hv => exact hv
  | 1, hv => exact hv
  | 2, hv => exact hv
  | 3, hv => exact hv
  | 4, hv => exact hv
  | j + 5, hv => simp [u64s, E.l] at hv
theorem pt_z {w : World} {b T : Nat} {p : P} (h : Row w b T p.l) : ∀ j v, (u64s p.z.l)[j]? = some v → w.cell? ⟨b, 5 + j, none⟩ = some v := by
  intro j v hv
  refine Rg.Blk.cell (row_blk h) (5 + j) ?_
  match j, hv with
  | 0, hv => exact hv
  | 1, hv => exact hv
  | 2, hv => exact hv
  | 3, hv => exact hv
  | 4, hv => exact hv
  | j + 5, hv => simp [u64s, E.l] at hv
end Go.Proofs.YtfaeigbfnjkojaaGreatDoor.Kx
namespace Go.Proofs.YtfaeigbfnjkojaaGreatDoor.Kx
open Go.RowKit Go.Proofs.YtfaeigbfnjkojaaGreatDoor.Cl
/-- a is twice a, b is both together -/
def stepP (x : E) (a b : P) : P × P :=
  let plus := add a.x a.z
  let less := sub a.x a.z
  let pp := sq plus
  let ll := sq less
  let e := sub pp ll
  let da := mul (sub b.x b.z) plus
  let cb := mul (add b.x b.z) less
  (⟨mul pp ll, mul e (add pp (mul (small 121665) e))⟩, ⟨sq (add da cb), mul x (sq (sub da cb))⟩)
def bitK (ks : List Nat) (i : Nat) : Bool := ks.getD (i / 8) 0 / 2 ^ (i % 8) % 2 == 1
structure St where
  a : P
  b : P
  was : Bool
/-- k bits done, from bit 254 on -/
def lad (ks : List Nat) (x : E) : Nat → St
  | 0 => ⟨⟨small 1, ⟨0, 0, 0, 0, 0⟩⟩, ⟨x, small 1⟩, false⟩
  | k + 1 =>
    match lad ks x k with
    | ⟨a, b, was⟩ =>
      let is := bitK ks (254 - k)
      match (if is = was then stepP x a b else stepP x b a) with
      | (a', b') => ⟨a', b', is⟩
/-- what the ladder ends in -/
def finK (s : St) : E :=
  let a := if s.was then s.b else s.a
  mul a.x (inv a.z)
def nine : E := ⟨9, 0, 0, 0, 0⟩
def ks1 : List Nat := [0, 0, 0, 0, 0, 0, 0, 0, 0, 0, 0, 0, 0, 0, 0, 0, 0, 0, 0, 0, 0, 0, 0, 0, 0, 0, 0, 0, 0, 0, 0, 64]
def ks9 : List Nat := [8, 0, 0, 0, 0, 0, 0, 0, 0, 0, 0, 0, 0, 0, 0, 0, 0, 0, 0, 0, 0, 0, 0, 0, 0, 0, 0, 0, 0, 0, 0, 64]
set_option maxRecDepth 1000000 in
theorem aw0 : zero (finK (lad ks1 ⟨0, 0, 0, 0, 0⟩ 255)) = true := by decide +kernel
set_option maxRecDepth 1000000 in
theorem aw1 : zero (finK (lad ks9 nine 255)) = false := by decide +kernel
end Go.Proofs.YtfaeigbfnjkojaaGreatDoor.Kx
namespace Go.Proofs.YtfaeigbfnjkojaaGreatDoor.Kx
open Go.RowKit Go.Proofs.YtfaeigbfnjkojaaGreatDoor.Cl
/-- bytes as a number, the lowest first -/
def leN : List UInt8 → Nat
  | [] => 0
  | b :: l => b.toNat + 256 * leN l
theorem leN_lt : ∀ l : List UInt8, leN l < 256 ^ l.length
  | [] => by simp [leN]
  | b :: l => by
    have := leN_lt l
    have hb := b.toNat_lt
    rw [leN, List.length_cons, Nat.pow_succ]
    omega
theorem leN_byte : ∀ (l : List UInt8) (i : Nat) (h : i < l.length), leN l / 256 ^ i % 256 = l[i].toNat
  | b :: l, 0, _ => by
    have hb := b.toNat_lt
    rw [leN, Nat.pow_zero, Nat.div_one, List.getElem_cons_zero]
    omega
  | b :: l, i + 1, h => by
    have hb := b.toNat_lt
    have h1 := leN_byte l i (by simpa using h)
    rw [List.getElem_cons_succ, ← h1, leN, Nat.pow_succ, Nat.mul_comm (256 ^ i) 256, ← Nat.div_div_eq_div_mul]
    congr 2
    omega
/-- n bytes of a number, the lowest first -/
def toLe : Nat → Nat → List UInt8
  | 0, _ => []
  | n + 1, x => UInt8.ofNat (x % 256) :: toLe n (x / 256)
theorem toLe_len : ∀ n x, (toLe n x).length = n
  | 0, _ => rfl
  | n + 1, x => by rw [toLe, List.length_cons, toLe_len]
theorem leN_toLe : ∀ n x, leN (toLe n x) = x % 256 ^ n
  | 0, x => by rw [toLe, leN, Nat.pow_zero, Nat.mod_one]
  | n + 1, x => by
    rw [toLe, leN, leN_toLe n, Nat.pow_succ, Nat.mul_comm (256 ^ n) 256, Nat.mod_mul]
    congr 1
    simp [UInt8.toNat_ofNat']
theorem toLe_get : ∀ (n x i : Nat) (h : i < n), (toLe n x)[i]? = some (UInt8.ofNat (x / 256 ^ i % 256))
  | n + 1, x, 0, _ => by rw [toLe, List.getElem?_cons_zero, Nat.pow_zero, Nat.div_one]
  | n + 1, x, i + 1, h => by
    rw [toLe, List.getElem?_cons_succ, toLe_get n _ i (by omega), Nat.div_div_eq_div_mul, Nat.pow_succ, Nat.mul_comm 256]
theorem toLe_leN : ∀ l : List UInt8, toLe l.length (leN l) = l
  | [] => rfl
  | b :: l => by
    have hb := b.toNat_lt
    rw [List.length_cons, toLe, leN, show (b.toNat + 256 * leN l) / 256 = leN l by omega, toLe_leN l]
    congr 1
    apply UInt8.toNat_inj.1
    simp [UInt8.toNat_ofNat']
/-- a number's five limbs -/
def spl (n : Nat) : E := ⟨n % W, n / W % W, n / (W * W) % W, n / (W * W * W) % W, n / (W * W * W * W) % W⟩
/-- the number of five limbs -/
def E.val (x : E) : Nat := x.a + W * x.b + W * W * x.c + W * W * W * x.d + W * W * W * W * x.e
def lim (n j : Nat) : Nat := n / 2 ^ (51 * j) % 2 ^ 51
theorem spl_nth (n j : Nat) (h : j < 5) : nth (spl n).l j = lim n j := by
  match j, h with
  | 0, _ => show n % W = _; rw [lim, Nat.mul_zero, Nat.pow_zero, Nat.div_one]; rfl
  | 1, _ => rfl
  | 2, _ => rfl
  | 3, _ => rfl
  | 4, _ => rfl
theorem spl_len (n : Nat) : (spl n).l.length = 5 := rfl
theorem eq_of_nth5 {l m : List Nat} (hl : l.length = 5) (hm : m.length = 5) (h : ∀ j, j < 5 → nth l j = nth m j) : l = m := by
  apply List.ext_getElem (by omega)
  intro j h1 h2
  have := h j (by omega)
  simpa [nth, List.getD_eq_getElem?_getD, h1, h2] using this
theorem testBit_low (x i : Nat) : (x % 2).testBit i = (decide (i = 0) && x.testBit 0) := by
  have := Nat.testBit_mod_two_pow x 1 i
  rw [Nat.pow_one] at this
  rw [this]
  cases i with
  | zero => simp
  | succ i => simp
theorem lim_same (N m j : Nat) (h : j ≠ m / 51) : lim (N % 2 ^ (m + 1)) j = lim (N % 2 ^ m) j := by
  apply Nat.eq_of_testBit_eq
  intro i
  unfold lim
  simp only [Nat.testBit_mod_two_pow, Nat.testBit_div_two_pow]
  by_cases hi : i < 51
  · rw [show decide (i + 51 * j < m + 1) = decide (i + 51 * j < m) from decide_eq_decide.2 (by omega)]
  · simp [hi]
theorem lim_next (N m : Nat) : lim (N % 2 ^ (m + 1)) (m / 51) = lim (N % 2 ^ m) (m / 51) ||| (N / 2 ^ m % 2) * 2 ^ (m % 51) := by
  apply Nat.eq_of_testBit_eq
  intro i
  rw [← Nat.shiftLeft_eq]
  unfold lim
  simp only [Nat.testBit_mod_two_pow, Nat.testBit_div_two_pow, Nat.testBit_or, Nat.testBit_shiftLeft, testBit_low]
  have hq : 51 * (m / 51) + m % 51 = m := Nat.div_add_mod m 51
  have hr : m % 51 < 51 := Nat.mod_lt _ (by decide)
  by_cases hi : i < 51
  · by_cases h1 : i = m % 51
    · subst h1
      have : m % 51 + 51 * (m / 51) = m := by omega
      simp [this, hr]
    · by_cases h2 : i < m % 51
      · simp [hi, show i + 51 * (m / 51) < m + 1 by omega, show i + 51 * (m / 51) < m by omega, show ¬ m % 51 ≤ i by omega]
      · simp [show ¬ i + 51 * (m / 51) < m + 1 by omega, show ¬ i + 51 * (m / 51) < m by omega, show ¬ i - m % 51 = 0 by omega]
  · simp [hi, show ¬ i - m % 51 = 0 by omega]
theorem spl_step (N m : Nat) (h : m < 255) : (spl (N % 2 ^ (m + 1))).l = (spl (N % 2 ^ m)).l.set (m / 51) (nth (spl (N % 2 ^ m)).l (m / 51) ||| (N / 2 ^ m % 2) * 2 ^ (m % 51)) := by
  have hq : m / 51 < 5 := by omega
  refine eq_of_nth5 (spl_len _) (by rw [List.length_set]; rfl) (fun j hj => ?_)
  rw [spl_nth _ _ hj]
  by_cases e : m / 51 = j
  · subst e
    rw [nth_set (by rw [spl_len]; exact hj), spl_nth _ _ hj, lim_next]
  · rw [nth_set_ne e, spl_nth _ _ hj, lim_same _ _ _ (fun h => e h.symm)]
theorem spl_lt (n j : Nat) : nth (spl n).l j < W := by
  match j with
  | 0 => exact mod_lt_W _
  | 1 => exact mod_lt_W _
  | 2 => exact mod_lt_W _
  | 3 => exact mod_lt_W _
  | 4 => exact mod_lt_W _
  | j + 5 => simp [E.l, nth, W]
theorem spl_ok (n : Nat) : (spl n).ok := fun j => Nat.lt_trans (spl_lt n j) W_lt_M
theorem spl_zero : (spl (0 % 2 ^ 0)).l = [0, 0, 0, 0, 0] := by decide
/-- bit m of bytes -/
theorem leN_bit (l : List UInt8) (i k : Nat) (h : i < l.length) (hk : k < 8) : leN l / 2 ^ (8 * i + k) % 2 = l[i].toNat / 2 ^ k % 2 := by
  rw [← leN_byte l i h, show (256 : Nat) = 2 ^ 8 from rfl, ← Nat.pow_mul]
  have h1 : ∀ x : Nat, x % 2 = (x.testBit 0).toNat := fun x => by rw [Nat.testBit_zero]; rcases Nat.mod_two_eq_zero_or_one x with h | h <;> simp [h]
  rw [h1, h1]
  congr 1
  simp only [Nat.testBit_div_two_pow, Nat.testBit_mod_two_pow]
  simp [hk, Nat.add_comm]
/-- the number whose limbs x has -/
theorem val_spl (n : Nat) (h : n < 2 ^ 255) : (spl n).val = n := by
  unfold spl E.val W
  simp only [Nat.reduceMul]
  omega
theorem spl_val (x : E) (h : ∀ j, nth x.l j < W) : spl x.val = x := by
  cases x with
  | mk a b c d e =>
  have h0 : a < W := h 0
  have h1 : b < W := h 1
  have h2 : c < W := h 2
  have h3 : d < W := h 3
  have h4 : e < W := h 4
  unfold W at h0 h1 h2 h3 h4
  unfold spl E.val W
  simp only [Nat.reduceMul]
  congr 1 <;> omega
theorem val_lt (x : E) (h : ∀ j, nth x.l j < W) : x.val < 2 ^ 255 := by
  cases x with
  | mk a b c d e =>
  have h0 : a < W := h 0
  have h1 : b < W := h 1
  have h2 : c < W := h 2
  have h3 : d < W := h 3
  have h4 : e < W := h 4
  unfold W at h0 h1 h2 h3 h4
  unfold E.val W
  simp only
  omega
/-- of bytes: 255 bits -/
def ofB (l : List UInt8) : E := spl (leN l % 2 ^ 255)
theorem ofB_ok (l : List UInt8) : (ofB l).ok := spl_ok _
/-- the bytes of the number below p -/
def bytesE (x : E) : List UInt8 := toLe 32 (least x).val
theorem bytesE_len (x : E) : (bytesE x).length = 32 := toLe_len _ _
theorem ofB_bytesE (x : E) : ofB (bytesE x) = least x := by
  have h := val_lt (least x) (least_fit x)
  unfold ofB bytesE
  rw [leN_toLe, Nat.mod_eq_of_lt (Nat.lt_trans h (by decide)), Nat.mod_eq_of_lt h, spl_val _ (least_fit x)]
/-- bytes after m bits -/
theorem bytes_same (N m i : Nat) (h : i ≠ m / 8) : (N % 2 ^ (m + 1)) / 256 ^ i % 256 = (N % 2 ^ m) / 256 ^ i % 256 := by
  rw [show (256 : Nat) = 2 ^ 8 from rfl, ← Nat.pow_mul]
  apply Nat.eq_of_testBit_eq
  intro k
  simp only [Nat.testBit_mod_two_pow, Nat.testBit_div_two_pow]
  by_cases hi : k < 8
  · rw [show decide (k + 8 * i < m + 1) = decide (k + 8 * i < m) from decide_eq_decide.2 (by omega)]
  · simp [hi]
theorem bytes_next (N m : Nat) : (N % 2 ^ (m + 1)) / 256 ^ (m / 8) % 256 = (N % 2 ^ m) / 256 ^ (m / 8) % 256 ||| (N / 2 ^ m % 2) * 2 ^ (m % 8) := by
  rw [← Nat.shiftLeft_eq, show (256 : Nat) = 2 ^ 8 from rfl, ← Nat.pow_mul]
  apply Nat.eq_of_testBit_eq
  intro i
  simp only [Nat.testBit_mod_two_pow, Nat.testBit_div_two_pow, Nat.testBit_or, Nat.testBit_shiftLeft, testBit_low]
  have hq : 8 * (m / 8) + m % 8 = m := Nat.div_add_mod m 8
  have hr : m % 8 < 8 := Nat.mod_lt _ (by decide)
  by_cases hi : i < 8
  · by_cases h1 : i = m % 8
    · subst h1
      have : m % 8 + 8 * (m / 8) = m := by omega
      simp [this, hr]
    · by_cases h2 : i < m % 8
      · simp [hi, show i + 8 * (m / 8) < m + 1 by omega, show i + 8 * (m / 8) < m by omega, show ¬ m % 8 ≤ i by omega]
      · simp [show ¬ i + 8 * (m / 8) < m + 1 by omega, show ¬ i + 8 * (m / 8) < m by omega, show ¬ i - m % 8 = 0 by omega]
  · simp [hi, show ¬ i - m % 8 = 0 by omega]
theorem toLe_step (N m : Nat) (h : m < 256) : toLe 32 (N % 2 ^ (m + 1)) = (toLe 32 (N % 2 ^ m)).set (m / 8) (UInt8.ofNat ((N % 2 ^ m) / 256 ^ (m / 8) % 256 ||| (N / 2 ^ m % 2) * 2 ^ (m % 8))) := by
  apply List.ext_getElem?
  intro i
  rw [List.getElem?_set]
  by_cases hi : i < 32
  · by_cases e : m / 8 = i
    · subst e
      rw [if_pos rfl, if_pos (by rw [toLe_len]; exact hi), toLe_get _ _ _ hi, bytes_next]
    · rw [if_neg e, toLe_get _ _ _ hi, toLe_get _ _ _ hi, bytes_same _ _ _ (fun h => e h.symm)]
  · rw [if_neg (by omega), List.getElem?_eq_none (by rw [toLe_len]; omega), List.getElem?_eq_none (by rw [toLe_len]; omega)]
/-- a bit of a number in limbs -/
theorem lim_bit (N m : Nat) : lim N (m / 51) / 2 ^ (m % 51) % 2 = N / 2 ^ m % 2 := by
  have h1 : ∀ x : Nat, x % 2 = (x.testBit 0).toNat := fun x => by rw [Nat.testBit_zero]; rcases Nat.mod_two_eq_zero_or_one x with h | h <;> simp [h]
  rw [h1, h1]
  congr 1
  unfold lim
  simp only [Nat.testBit_mod_two_pow, Nat.testBit_div_two_pow]
  have hr : m % 51 < 51 := Nat.mod_lt _ (by decide)
  simp [hr, show m % 51 + 51 * (m / 51) = m by omega]
end Go.Proofs.YtfaeigbfnjkojaaGreatDoor.Kx
namespace Go.Proofs.YtfaeigbfnjkojaaGreatDoor.Kx
open Go.RowKit Go.Proofs.YtfaeigbfnjkojaaGreatDoor.Cl
theorem wrapI {x : Nat} (h : x < 1000000) : IntKind.i64.wrap (x : Int) = (x : Int) := by simp [IntKind.wrap, IntKind.bits, IntKind.signed]; omega
theorem shl_lt {d r : Nat} (hd : d ≤ 1) (hr : r < 51) : d * 2 ^ r < 18446744073709551616 := by
  have h1 : 2 ^ r ≤ 2 ^ 51 := Nat.pow_le_pow_right (by decide) (by omega)
  have h2 : d * 2 ^ r ≤ 1 * 2 ^ r := Nat.mul_le_mul_right _ hd
  have h3 : (2 : Nat) ^ 51 < 18446744073709551616 := by decide
  omega
set_option maxRecDepth 20000 in
set_option maxHeartbeats 2000000 in
theorem Of_any (w : World) (t : ByteArray) (ht : t.size = 32) : Calls Tryz.prog 20 #[.string t] w fun e w' => e = .returned (.agg (u64s (ofB t.data.toList).l)) ∧ Below w.heap.size w w' := by
  have HT := Lib.hid (show t.data.toList.length = 32 by rw [Array.length_toList]; exact ht)
  obtain ⟨N, hN⟩ : ∃ N, leN t.data.toList = N := ⟨_, rfl⟩
  have HNN := Lib.hid hN
  unfold ofB
  rw [hN]
  clear hN
  obtain ⟨rb, hrb⟩ : ∃ rb, w.heap.size = rb := ⟨_, rfl⟩
  obtain ⟨ab, hab⟩ : ∃ ab, rb + 1 = ab := ⟨_, rfl⟩
  go_enter Tryz.func20, Tryz.ntmps20
  go_upto_region 3 with fail
  rw [show (#[.int .u64 0, .int .u64 0, .int .u64 0, .int .u64 0, .int .u64 0] : Array Value) = Z5 from rfl]
  have HZ := Lib.hid (show Rg.Blk ((w.alloc (.cells Z5 53)).alloc (.cells Z5 53)) rb 53 Z5 from (hrb ▸ Rg.Blk.new w Z5 53).alloc _)
  have HR := Lib.hid (show Row ((w.alloc (.cells Z5 53)).alloc (.cells Z5 53)) ab 53 (spl (N % 2 ^ (min 0 255))).l from by
    rw [show (spl (N % 2 ^ min 0 255)).l = [0, 0, 0, 0, 0] from by rw [Nat.zero_min, Nat.pow_zero, Nat.mod_one]; decide]
    exact Rg.Blk.newAt (by simp; omega) _ _)
  have HB := Lib.hid (show Below rb w ((w.alloc (.cells Z5 53)).alloc (.cells Z5 53)) from hrb ▸ ((Below.refl _ _).alloc (Nat.le_refl _) _).alloc (by simp) _)
  have HNE := Lib.hid (show ab ≠ rb ∧ rb ≤ ab from by omega)
  have HXB := Lib.hid hrb
  try rw [hrb]
  try rw [hab]
  generalize ((w.alloc (.cells Z5 53)).alloc (.cells Z5 53)) = Y at *
  clear hrb hab
  go_loopw [10] (fun i wr => ∃ k : Nat, k ≤ 32 ∧ i = .int .i64 k ∧ Row wr ab 53 (spl (N % 2 ^ (min (8 * k) 255))).l ∧ Rg.Blk wr rb 53 Z5 ∧ Below rb w wr) (fun i _ => 32 - (intOf i).toNat)
  case atStart => exact ⟨0, Nat.zero_le _, rfl, HR.out, HZ.out, HB.out⟩
  case round =>
    obtain ⟨k, hk, rfl, hr, hz, hb⟩ := hrel
    clear HR HZ HB
    have HR := Lib.hid hr
    have HZ := Lib.hid hz
    have HB := Lib.hid hb
    clear hr hz hb
    by_cases hk5 : k < 32
    · have hk32 : k < t.size := by omega
      have hk0 : (0 : Int) ≤ k := by omega
      have hdk : decide ((k : Int) < 32) = true := by simp; omega
      go_upto_region 6 with fail
      go_loopw [13] (fun jj ws => ∃ j : Nat, j ≤ 8 ∧ jj = .int .i64 j ∧ Row ws ab 53 (spl (N % 2 ^ (min (8 * k + j) 255))).l ∧ Rg.Blk ws rb 53 Z5 ∧ Below rb w ws) (fun jj _ => 8 - (intOf jj).toNat)
      case atStart => exact ⟨0, Nat.zero_le _, rfl, HR.out, HZ.out, HB.out⟩
      case round =>
        obtain ⟨j, hj, rfl, hr, hz, hb⟩ := hrel
        clear HR HZ HB
        have HR := Lib.hid hr
        have HZ := Lib.hid hz
        have HB := Lib.hid hb
        clear hr hz hb
        by_cases hj8 : j < 8
        · have hj0 : (0 : Int) ≤ j := by omega
          have hdj : decide ((j : Int) < 8) = true := by simp; omega
          obtain ⟨m, hm⟩ : ∃ m, 8 * k + j = m := ⟨_, rfl⟩
          have hmz : 8 * (k : Int) + (j : Int) = (m : Int) := by omega
          by_cases hm255 : m < 255
          · have hdm : decide ((m : Int) < 255) = true := by simp; omega
            rw [show min (8 * k + j) 255 = m by omega] at HR
            obtain ⟨q, hq⟩ : ∃ q, m / 51 = q := ⟨_, rfl⟩
            obtain ⟨r, hr⟩ : ∃ r, m % 51 = r := ⟨_, rfl⟩
            have hq5 : q < 5 := by omega
            have hr51 : r < 51 := by omega
            have HLM := Lib.hid (show q < (spl (N % 2 ^ m)).l.length from hq5)
            have hq0 : (0 : Int) ≤ (q : Int) := by omega
            have hr0 : (0 : Int) ≤ (r : Int) := by omega
            have hqz : (q : Int) < 5 := by omega
            obtain ⟨b, hb⟩ : ∃ b, t[k].toNat = b := ⟨_, rfl⟩
            have hb256 : b < 256 := by rw [← hb]; exact t[k].toNat_lt
            have EB := Lib.hid hb
            obtain ⟨c, hc⟩ : ∃ c, b / 2 ^ j = c := ⟨_, rfl⟩
            have hc256 : c < 256 := by rw [← hc]; exact Nat.lt_of_le_of_lt (Nat.div_le_self _ _) hb256
            have ESR := Lib.hid (show (b : Int) / 2 ^ j = (c : Int) from by rw [← hc]; simp)
            obtain ⟨d, hd2⟩ : ∃ d, c % 2 = d := ⟨_, rfl⟩
            have hd1 : d ≤ 1 := by omega
            have EAN := Lib.hid (show bits .and .u8 (c : Int) 1 = (d : Int) from by rw [← hd2, ← Nat.and_one_is_mod]; exact u8_and_nat c 1 hc256 (by decide))
            obtain ⟨g, hg⟩ : ∃ g, d * 2 ^ r = g := ⟨_, rfl⟩
            have ESL := Lib.hid (show IntKind.u64.wrap ((d : Int) * 2 ^ r) = (g : Int) from by rw [show (d : Int) * 2 ^ r = ((d * 2 ^ r : Nat) : Int) by simp, wrapM, hg]; congr 1; rw [← hg]; exact Nat.mod_eq_of_lt (shl_lt hd1 hr51))
            obtain ⟨n1, hn1⟩ : ∃ n1, nth (spl (N % 2 ^ m)).l q = n1 := ⟨_, rfl⟩
            have EOR := Lib.hid (show bits .or .u64 (n1 : Int) (g : Int) = ((n1 ||| g : Nat) : Int) from u64_or_nat n1 g (by rw [← hn1]; exact spl_ok _ q) (by rw [← hg]; exact shl_lt hd1 hr51))
            have HN1 := Lib.hid hn1
            have hj64 : min j 8 = j := by omega
            have hr64 : min r 64 = r := by omega
            have EQ := Lib.hid (show IntKind.i64.wrap ((m : Int) / 51) = (q : Int) from by rw [show (m : Int) / 51 = (q : Int) by omega]; exact wrapI (by omega))
            have ER := Lib.hid (show (m : Int).tmod 51 = (r : Int) from by rw [Int.tmod_eq_emod_of_nonneg (by omega)]; omega)
            have EC := Lib.hid (show IntKind.u64.wrap (d : Int) = (d : Int) from by rw [wrapM]; congr 1; exact Nat.mod_eq_of_lt (by unfold M; omega))
            go_upto_region 10 with fail
            refine RT.start (fun W => Below wr.heap.size wr W) 18 1 (by kernel_rfl) (by decide) rfl (by kernel_rfl) (by kernel_rfl) (Below.drew (Below.refl _ _)) ?_
            refine' RT.takeV (i := 0) (v := _) rfl (by kernel_rfl) (by kernel_rfl) (by kernel_rfl) (by decide) (fun _ _ _ h => h) (by rfl) ?hk1 ?_
            case hk1 => (intro W hSW; go_simp; try with_reducible rfl)
            (try simp only [Act.put, List.setIfInBounds_toArray, List.set_cons_zero, List.set_cons_succ])
            refine' RT.takeV (i := 1) (v := _) rfl (by kernel_rfl) (by kernel_rfl) (by kernel_rfl) (by decide) (fun _ _ _ h => h) (by rfl) ?hk2 ?_
            case hk2 => (intro W hSW; have x1 := EQ.out; go_simp; try with_reducible rfl)
            (try simp only [Act.put, List.setIfInBounds_toArray, List.set_cons_zero, List.set_cons_succ])
            refine' RT.takeV (i := 2) (v := _) rfl (by kernel_rfl) (by kernel_rfl) (by kernel_rfl) (by decide) (fun _ _ _ h => h) (by rfl) ?hk3 ?_
            case hk3 => (intro W hSW; go_simp; try with_reducible rfl)
            (try simp only [Act.put, List.setIfInBounds_toArray, List.set_cons_zero, List.set_cons_succ])
            refine' RT.takeV (i := 3) (v := _) rfl (by kernel_rfl) (by kernel_rfl) (by kernel_rfl) (by decide) (fun _ _ _ h => h) (by rfl) ?hk4 ?_
            case hk4 => (intro W hSW; go_simp; try with_reducible rfl)
            (try simp only [Act.put, List.setIfInBounds_toArray, List.set_cons_zero, List.set_cons_succ])
            refine' RT.takeV (i := 4) (v := _) rfl (by kernel_rfl) (by kernel_rfl) (by kernel_rfl) (by decide) (fun _ _ _ h => h) (by rfl) ?hk5 ?_
            case hk5 => (intro W hSW; have x1 := (HR.out.below hSW HR.out.lt).cell q HLM.out; rw [HN1.out] at x1; have x2 := hq0; go_simp; try with_reducible rfl)
            (try simp only [Act.put, List.setIfInBounds_toArray, List.set_cons_zero, List.set_cons_succ])
            refine' RT.takeV (i := 5) (v := _) rfl (by kernel_rfl) (by kernel_rfl) (by kernel_rfl) (by decide) (fun _ _ _ h => h) (by rfl) ?hk6 ?_
            case hk6 => (intro W hSW; go_simp; try with_reducible rfl)
            (try simp only [Act.put, List.setIfInBounds_toArray, List.set_cons_zero, List.set_cons_succ])
            refine' RT.takeV (i := 6) (v := _) rfl (by kernel_rfl) (by kernel_rfl) (by kernel_rfl) (by decide) (fun _ _ _ h => h) (by rfl) ?hk7 ?_
            case hk7 => (intro W hSW; go_simp; try with_reducible rfl)
            (try simp only [Act.put, List.setIfInBounds_toArray, List.set_cons_zero, List.set_cons_succ])
            refine' RT.takeV (i := 7) (v := _) rfl (by kernel_rfl) (by kernel_rfl) (by kernel_rfl) (by decide) (fun _ _ _ h => h) (by rfl) ?hk8 ?_
            case hk8 => (intro W hSW; have x1 := EB.out; have x4 : (k : Int) < 32 := (by omega); have x2 := hk32; have x3 := hk0; go_simp; try with_reducible rfl)
            (try simp only [Act.put, List.setIfInBounds_toArray, List.set_cons_zero, List.set_cons_succ])
            refine' RT.takeV (i := 8) (v := _) rfl (by kernel_rfl) (by kernel_rfl) (by kernel_rfl) (by decide) (fun _ _ _ h => h) (by rfl) ?hk9 ?_
            case hk9 => (intro W hSW; go_simp; try with_reducible rfl)
            (try simp only [Act.put, List.setIfInBounds_toArray, List.set_cons_zero, List.set_cons_succ])
            refine' RT.takeV (i := 9) (v := _) rfl (by kernel_rfl) (by kernel_rfl) (by kernel_rfl) (by decide) (fun _ _ _ h => h) (by rfl) ?hk10 ?_
            case hk10 => (intro W hSW; have x1 := ESR.out; have x2 := hj0; go_simp; try with_reducible rfl)
            (try simp only [Act.put, List.setIfInBounds_toArray, List.set_cons_zero, List.set_cons_succ])
            refine' RT.takeV (i := 10) (v := _) rfl (by kernel_rfl) (by kernel_rfl) (by kernel_rfl) (by decide) (fun _ _ _ h => h) (by rfl) ?hk11 ?_
            case hk11 => (intro W hSW; have x1 := EAN.out; go_simp; try with_reducible rfl)
            (try simp only [Act.put, List.setIfInBounds_toArray, List.set_cons_zero, List.set_cons_succ])
            refine' RT.takeV (i := 11) (v := _) rfl (by kernel_rfl) (by kernel_rfl) (by kernel_rfl) (by decide) (fun _ _ _ h => h) (by rfl) ?hk12 ?_
            case hk12 => (intro W hSW; have x1 := EC.out; go_simp; try with_reducible rfl)
            (try simp only [Act.put, List.setIfInBounds_toArray, List.set_cons_zero, List.set_cons_succ])
            refine' RT.takeV (i := 12) (v := _) rfl (by kernel_rfl) (by kernel_rfl) (by kernel_rfl) (by decide) (fun _ _ _ h => h) (by rfl) ?hk13 ?_
            case hk13 => (intro W hSW; go_simp; try with_reducible rfl)
            (try simp only [Act.put, List.setIfInBounds_toArray, List.set_cons_zero, List.set_cons_succ])
            refine' RT.takeV (i := 13) (v := _) rfl (by kernel_rfl) (by kernel_rfl) (by kernel_rfl) (by decide) (fun _ _ _ h => h) (by rfl) ?hk14 ?_
            case hk14 => (intro W hSW; have x1 := ER.out; go_simp; try with_reducible rfl)
            (try simp only [Act.put, List.setIfInBounds_toArray, List.set_cons_zero, List.set_cons_succ])
            refine' RT.takeV (i := 14) (v := _) rfl (by kernel_rfl) (by kernel_rfl) (by kernel_rfl) (by decide) (fun _ _ _ h => h) (by rfl) ?hk15 ?_
            case hk15 => (intro W hSW; have x1 := ESL.out; have x2 := hr0; have x3 := hr64; go_simp; try with_reducible rfl)
            (try simp only [Act.put, List.setIfInBounds_toArray, List.set_cons_zero, List.set_cons_succ])
            refine' RT.takeV (i := 15) (v := _) rfl (by kernel_rfl) (by kernel_rfl) (by kernel_rfl) (by decide) (fun _ _ _ h => h) (by rfl) ?hk16 ?_
            case hk16 => (intro W hSW; have x1 := EOR.out; go_simp; try with_reducible rfl)
            (try simp only [Act.put, List.setIfInBounds_toArray, List.set_cons_zero, List.set_cons_succ])
            refine' RT.takeV (i := 16) (v := _) rfl (by kernel_rfl) (by kernel_rfl) (by kernel_rfl) (by decide) (fun _ _ _ h => h) (by rfl) ?hk17 ?_
            case hk17 => (intro W hSW; go_simp; try with_reducible rfl)
            (try simp only [Act.put, List.setIfInBounds_toArray, List.set_cons_zero, List.set_cons_succ])
            refine' RT.takeV (i := 17) (v := _) rfl (by kernel_rfl) (by kernel_rfl) (by kernel_rfl) (by decide) (fun _ _ _ h => h) (by rfl) ?hk18 ?_
            case hk18 => (intro W hSW; have x2 := hq0; have x3 := hqz; go_simp; try with_reducible rfl)
            (try simp only [Act.put, List.setIfInBounds_toArray, List.set_cons_zero, List.set_cons_succ])
            refine RT.tail (by kernel_rfl) rfl rfl ?_
            intro wd hlwd hswd
            have hlx : Below wr.heap.size wr wd := (Below.drew (Below.refl _ _)).trans hlwd
            have HRd := Lib.hid (HR.out.below hlx HR.out.lt)
            have HZd := Lib.hid (HZ.out.below hlx HZ.out.lt)
            have HBd := Lib.hid (HB.out.trans (hlx.mono (HB.out.size_le HXB.out)))
            clear hlwd hswd hlx
            refine store_cell rfl 50 _ _ rfl (b := ab) (j := q) (v := n1 ||| g) rfl rfl Tryz.underlying50 (by kernel_rfl) HRd.out HLM.out ?_
            intro V hV hgV
            have HBIT := Lib.hid (show N / 2 ^ m % 2 = d from by rw [← HNN.out, ← hm, leN_bit _ k j (by rw [HT.out]; exact hk5) hj8, ← hd2, ← hc, ← hb]; rfl)
            have hst := spl_step N m hm255
            rw [HBIT.out, hr, hq, hn1, hg] at hst
            have HRV := Lib.hid (show Row V ab 53 (spl (N % 2 ^ (m + 1))).l from by rw [hst]; exact hV)
            have HZV := Lib.hid (blk_other HZd.out hgV HNE.out.1)
            have HBV := Lib.hid (HBd.out.grown hgV (HBd.out.size_le HXB.out) (fun j e => by cases e; exact HNE.out.2))
            clear hst hV hgV
            go_wp2_with fail
            go_roundw
            case rel =>
              have REL := Lib.hid (show ∃ j' : Nat, j' ≤ 8 ∧ Value.int .i64 ((j : Int) + 1) = .int .i64 j' ∧ Row V ab 53 (spl (N % 2 ^ (min (8 * k + j') 255))).l ∧ Rg.Blk V rb 53 Z5 ∧ Below rb w V from ⟨j + 1, hj8, rfl, by rw [show min (8 * k + (j + 1)) 255 = m + 1 by omega]; exact HRV.out, HZV.out, HBV.out⟩)
              first
                | exact REL.out
                | ((repeat apply Exists.intro); refine ⟨?_, rfl⟩; exact REL.out)
            case measure => (first | (simp [intOf]; done) | (simp [intOf]; omega))
          · have hdm : decide ((m : Int) < 255) = false := by simp; omega
            go_wp2
            refine ⟨⟨j + 1, hj8, rfl, ?_, HZ.out, HB.out⟩, by simp [intOf]; omega⟩
            rw [show min (8 * k + (j + 1)) 255 = min (8 * k + j) 255 by omega]; exact HR.out
        · obtain rfl : j = 8 := by omega
          go_wp2
          refine ⟨⟨k + 1, hk5, rfl, ?_, HZ.out, HB.out⟩, by simp [intOf]; omega⟩
          rw [show min (8 * (k + 1)) 255 = min (8 * k + 8) 255 by omega]; exact HR.out
    · obtain rfl : k = 32 := by omega
      go_wp2_with (first
        | ((with_reducible refine gate_ ?_); refine Cv.load_cells rfl 53 _ rfl ab 0 rfl (u64s (spl (N % 2 ^ 255)).l) _ (fun j v hv => by rw [Nat.zero_add]; exact Rg.Blk.cell (row_blk HR.out) j hv) Tryz.underlying53 rfl (by rw [u64s_size]; kernel_rfl) ?_; skip)
        | ((with_reducible refine gate_ ?_); refine Cv.store_blk rfl 53 _ _ rfl rb (u64s (spl (N % 2 ^ 255)).l) Z5 53 rfl rfl HZ.out (by rw [u64s_size]; kernel_rfl) (by rw [u64s_size]; first | rfl | rw [u64s_size]) (u64s_one _) ?_; intro V3 hV hgV; have HZZ := Lib.hid hV; have HBZ := Lib.hid (HB.out.grown hgV (HB.out.size_le HXB.out) (fun j e => by cases e; exact Nat.le_refl _)); clear hV hgV))
      refine bodyPost_ret (v := .agg (u64s (spl (N % 2 ^ 255)).l))
        (results_cell_row Tryz.results20 _ _ rb 53 _ (0, 0) _ rfl HZZ.out Tryz.underlying53 rfl (by rw [u64s_size]; kernel_rfl)) rfl ?_
      exact ⟨rfl, HXB.out ▸ HBZ.out⟩
end Go.Proofs.YtfaeigbfnjkojaaGreatDoor.Kx
namespace Go.Proofs.YtfaeigbfnjkojaaGreatDoor.Cv
open Go.RowKit Go.Proofs.YtfaeigbfnjkojaaGreatDoor.Cl Go.Proofs.YtfaeigbfnjkojaaGreatDoor.Cv
variable {P : Program}
theorem bytesV_set (l : List UInt8) (j : Nat) (v : UInt8) : (bytesV l).setIfInBounds j (.int .u8 (v.toNat : Int)) = bytesV (l.set j v) := by
  unfold bytesV
  simp [Lib.byteCells, List.map_set]
/-- a byte stored into a block of bytes: the world behind it has a name -/
theorem store_byte {ops : Array Oper} {rest : List Oper} {o : Oper} {a : Act} {w : World} {Q : Exit → Act → World → Prop} (hgd : o.guard = none) (ty : TypeId) (x y : Operand) (ho : o.op = .store ty x y)
    {b j T : Nat} {l : List UInt8} {v : UInt8} (hx : a.eval x = .pointer (some ⟨b, j, none⟩)) (hy : a.eval y = .int .u8 (v.toNat : Int)) (hu : P.underlying ty = some (.int .u8)) (hi : (P.info? ty).map (·.size) = some 1) (hR : Rg.Blk w b T (bytesV l)) (hj : j < l.length)
    (h : ∀ w', Rg.Blk w' b T (bytesV (l.set j v)) → w.grownBy w' (some b) → wpList P ops Q rest (a.put o.dst undef) w') : wpList P ops Q (o :: rest) a w :=
  wpList_plain hgd fun _ hK => by
    have hx' := hx
    have hy' := hy
    have hc := hR.cell j (bytesV_get l j l[j] (List.getElem?_eq_getElem hj))
    have hf := hR.frozen j
    simp [go_sem] at hx' hy'
    unfold Oper.wp execOp
    cases hq : P.info? ty with
    | none => simp [hq] at hi
    | some i =>
    have hs : i.size = 1 := by simpa [hq] using hi
    simp [ho, hx', hy', go_sem, hc, hf, hu, sizeOf, typeInfo, hq, hs]
    have hB : Rg.Blk (w.setCell ⟨b, j, none⟩ (.int .u8 (v.toNat : Int))) b T (bytesV (l.set j v)) := by
      have h2 := hR
      unfold Rg.Blk at *
      rw [heap_setCell_same w b j _ _ _ h2, bytesV_set]
    have := hK _ _ (h _ hB (grown_setCell w b j _))
    simpa [go_sem] using this
end Go.Proofs.YtfaeigbfnjkojaaGreatDoor.Cv
namespace Go.Proofs.YtfaeigbfnjkojaaGreatDoor.Kx
open Go.RowKit Go.Proofs.YtfaeigbfnjkojaaGreatDoor.Cl
theorem zero32 : Cv.bytesV (toLe 32 (0 % 2 ^ 0)) = #[.int .u8 0, .int .u8 0, .int .u8 0, .int .u8 0, .int .u8 0, .int .u8 0, .int .u8 0, .int .u8 0, .int .u8 0, .int .u8 0, .int .u8 0, .int .u8 0, .int .u8 0, .int .u8 0, .int .u8 0, .int .u8 0, .int .u8 0, .int .u8 0, .int .u8 0, .int .u8 0, .int .u8 0, .int .u8 0, .int .u8 0, .int .u8 0, .int .u8 0, .int .u8 0, .int .u8 0, .int .u8 0, .int .u8 0, .int .u8 0, .int .u8 0, .int .u8 0] := by
  unfold Cv.bytesV
  rfl
theorem shl8_lt {d r : Nat} (hd : d ≤ 1) (hr : r < 8) : d * 2 ^ r < 256 := by
  have h1 : 2 ^ r ≤ 2 ^ 7 := Nat.pow_le_pow_right (by decide) (by omega)
  have h2 : d * 2 ^ r ≤ 1 * 2 ^ r := Nat.mul_le_mul_right _ hd
  have h3 : (2 : Nat) ^ 7 < 256 := by decide
  omega
theorem wrap8 (x : Nat) (h : x < 256) : IntKind.u8.wrap (x : Int) = (x : Int) := by simp [IntKind.wrap, IntKind.bits, IntKind.signed]; omega
theorem or8_lt {a b : Nat} (ha : a < 256) (hb : b < 256) : a ||| b < 256 := Nat.or_lt_two_pow (n := 8) ha hb
set_option maxRecDepth 20000 in
set_option maxHeartbeats 2000000 in
theorem Bytes_any (w : World) (x : E) : Calls Tryz.prog 26 #[.agg (u64s x.l)] w fun e w' => e = .returned (.agg (Cv.bytesV (bytesE x))) ∧ Below w.heap.size w w' := by
  obtain ⟨y, hy⟩ : ∃ y, least x = y := ⟨_, rfl⟩
  have HF := Lib.hid (show ∀ j, nth y.l j < W from hy ▸ least_fit x)
  obtain ⟨N, hN⟩ : ∃ N, y.val = N := ⟨_, rfl⟩
  have HNN := Lib.hid (show y = spl N by rw [← hN, spl_val _ HF.out])
  have HLT := Lib.hid (show N < 2 ^ 255 by rw [← hN]; exact val_lt _ HF.out)
  have HLE := Lib.hid (fun W => show Calls Tryz.prog 48 #[.agg (u64s x.l)] W fun e w' => e = .returned (.agg (u64s y.l)) ∧ Below W.heap.size W w' from hy ▸ least_any W x)
  unfold bytesE
  rw [hy, hN]
  clear hN hy
  go_enter Tryz.func26, Tryz.ntmps26
  go_upto_region 1 with ((with_reducible refine gate_ ?_); refine Rg.box_fresh rfl 53 _ rfl (u64s x.l) rfl ?_; intro X hX hbX hnX; have HX := Lib.hid hX; have HBX := Lib.hid hbX; have HNX := Lib.hid hnX; clear hX hbX hnX)
  obtain ⟨xb, hxb⟩ : ∃ xb, w.heap.size = xb := ⟨_, rfl⟩
  obtain ⟨rb, hrb⟩ : ∃ rb, X.heap.size = rb := ⟨_, rfl⟩
  rw [← zero32]
  have HR := Lib.hid (show Row (X.alloc (.cells (Cv.bytesV (toLe 32 (0 % 2 ^ 0))) 22)) xb 53 x.l from (hxb ▸ HX.out).alloc _)
  have HZ := Lib.hid (show Rg.Blk (X.alloc (.cells (Cv.bytesV (toLe 32 (0 % 2 ^ 0))) 22)) rb 22 (Cv.bytesV (toLe 32 (0 % 2 ^ 0))) from Rg.Blk.newAt hrb.symm _ _)
  have HB := Lib.hid (show Below xb w (X.alloc (.cells (Cv.bytesV (toLe 32 (0 % 2 ^ 0))) 22)) from hxb ▸ HBX.out.alloc HBX.out.size _)
  have HNE := Lib.hid (show xb ≠ rb ∧ xb ≤ rb from by have h1 := HX.out.lt; constructor <;> omega)
  have HXB := Lib.hid hxb
  rw [hxb, hrb]
  generalize X.alloc (.cells (Cv.bytesV (toLe 32 (0 % 2 ^ 0))) 22) = Y at *
  clear HX HBX HNX hxb hrb
  go_upto_region 2 with (first
    | ((with_reducible refine gate_ ?_); refine Cv.load_cells rfl 53 _ rfl xb 0 rfl (u64s x.l) _ (fun j v hv => by rw [Nat.zero_add]; exact Rg.Blk.cell (row_blk HR.out) j hv) Tryz.underlying53 rfl (by rw [u64s_size]; kernel_rfl) ?_; skip)
    | (go_at_call 48; refine (HLE.out _).mono ?_; rintro e w9 ⟨rfl, hb9⟩; skip; have HR9 := Lib.hid (HR.out.below hb9 HR.out.lt); have HZ9 := Lib.hid (HZ.out.below hb9 HZ.out.lt); have HB9 := Lib.hid (HB.out.trans (hb9.mono (HB.out.size_le HXB.out))); clear hb9)
    | ((with_reducible refine gate_ ?_); refine Cv.store_blk rfl 53 _ _ rfl xb (u64s y.l) (u64s x.l) 53 rfl rfl HR9.out (by rw [u64s_size]; kernel_rfl) (by rw [u64s_size]; first | rfl | rw [u64s_size]) (u64s_one _) ?_; intro V3 hV hgV; have HRV := Lib.hid (show Row V3 xb 53 y.l from hV); have HZV := Lib.hid (blk_other HZ9.out hgV HNE.out.1); have HBV := Lib.hid (HB9.out.grown hgV (HB9.out.size_le HXB.out) (fun j e => by cases e; exact Nat.le_refl _)); clear hV hgV))
  obtain ⟨ob, hob⟩ : ∃ ob, V3.heap.size = ob := ⟨_, rfl⟩
  go_upto_region 4 with fail
  rw [← zero32, show (0 % 2 ^ 0 : Nat) = N % 2 ^ 0 by rw [Nat.pow_zero, Nat.mod_one, Nat.mod_one]]
  clear HR HZ HB HR9 HZ9 HB9
  have HR := Lib.hid (show Row (V3.alloc (.cells (Cv.bytesV (toLe 32 (N % 2 ^ 0))) 22)) xb 53 y.l from HRV.out.alloc _)
  have HZ := Lib.hid (show Rg.Blk (V3.alloc (.cells (Cv.bytesV (toLe 32 (N % 2 ^ 0))) 22)) rb 22 (Cv.bytesV (toLe 32 (0 % 2 ^ 0))) from HZV.out.alloc _)
  have HO := Lib.hid (show Rg.Blk (V3.alloc (.cells (Cv.bytesV (toLe 32 (N % 2 ^ 0))) 22)) ob 22 (Cv.bytesV (toLe 32 (N % 2 ^ 0))) from Rg.Blk.newAt hob.symm _ _)
  have HB := Lib.hid (show Below xb w (V3.alloc (.cells (Cv.bytesV (toLe 32 (N % 2 ^ 0))) 22)) from HBV.out.alloc (HBV.out.size_le HXB.out) _)
  have HNO := Lib.hid (show ob ≠ xb ∧ ob ≠ rb ∧ xb ≤ ob from by have h1 := HRV.out.lt; have h2 := HZV.out.lt; refine ⟨?_, ?_, ?_⟩ <;> omega)
  try rw [hob]
  generalize V3.alloc (.cells (Cv.bytesV (toLe 32 (N % 2 ^ 0))) 22) = Y2 at *
  clear HRV HZV HBV hob
  go_loopw [7] (fun i wr => ∃ m : Nat, m ≤ 255 ∧ i = .int .i64 m ∧ Rg.Blk wr ob 22 (Cv.bytesV (toLe 32 (N % 2 ^ m))) ∧ Row wr xb 53 y.l ∧ Rg.Blk wr rb 22 (Cv.bytesV (toLe 32 (0 % 2 ^ 0))) ∧ Below xb w wr) (fun i _ => 255 - (intOf i).toNat)
  case atStart => exact ⟨0, Nat.zero_le _, rfl, HO.out, HR.out, HZ.out, HB.out⟩
  case round =>
    obtain ⟨m, hm, rfl, ho, hr, hz, hb⟩ := hrel
    clear HR HZ HB HO
    have HO := Lib.hid ho
    have HR := Lib.hid hr
    have HZ := Lib.hid hz
    have HB := Lib.hid hb
    clear ho hr hz hb
    by_cases hm255 : m < 255
    · have hdm : decide ((m : Int) < 255) = true := by simp; omega
      have hm0 : (0 : Int) ≤ m := by omega
      obtain ⟨q, hq⟩ : ∃ q, m / 51 = q := ⟨_, rfl⟩
      obtain ⟨r, hr⟩ : ∃ r, m % 51 = r := ⟨_, rfl⟩
      obtain ⟨p, hp⟩ : ∃ p, m / 8 = p := ⟨_, rfl⟩
      obtain ⟨s, hs⟩ : ∃ s, m % 8 = s := ⟨_, rfl⟩
      have hq5 : q < 5 := by omega
      have hr51 : r < 51 := by omega
      have hp32 : p < 32 := by omega
      have hs8 : s < 8 := by omega
      have HLM := Lib.hid (show q < y.l.length from hq5)
      have HLP := Lib.hid (show p < (toLe 32 (N % 2 ^ m)).length from by rw [toLe_len]; exact hp32)
      have hq0 : (0 : Int) ≤ (q : Int) := by omega
      have hr0 : (0 : Int) ≤ (r : Int) := by omega
      have hqz : (q : Int) < 5 := by omega
      have hp0 : (0 : Int) ≤ (p : Int) := by omega
      have hs0 : (0 : Int) ≤ (s : Int) := by omega
      have hpz : (p : Int) < 32 := by omega
      obtain ⟨n1, hn1⟩ : ∃ n1, nth y.l q = n1 := ⟨_, rfl⟩
      have hn1W : n1 < M := by rw [← hn1]; exact Nat.lt_trans (HF.out q) W_lt_M
      have HN1 := Lib.hid hn1
      obtain ⟨c, hc⟩ : ∃ c, n1 / 2 ^ r = c := ⟨_, rfl⟩
      have hcM : c < M := by rw [← hc]; exact Nat.lt_of_le_of_lt (Nat.div_le_self _ _) hn1W
      have ESR := Lib.hid (show (n1 : Int) / 2 ^ r = (c : Int) from by rw [← hc]; simp)
      obtain ⟨d, hd2⟩ : ∃ d, c % 2 = d := ⟨_, rfl⟩
      have hd1 : d ≤ 1 := by omega
      have EAN := Lib.hid (show bits .and .u64 (c : Int) 1 = (d : Int) from by rw [← hd2, ← Nat.and_one_is_mod]; exact u64_and_nat c 1 hcM (by decide))
      have EC := Lib.hid (show IntKind.u8.wrap (d : Int) = (d : Int) from wrap8 d (by omega))
      obtain ⟨g, hg⟩ : ∃ g, d * 2 ^ s = g := ⟨_, rfl⟩
      have hg256 : g < 256 := by rw [← hg]; exact shl8_lt hd1 hs8
      have ESL := Lib.hid (show IntKind.u8.wrap ((d : Int) * 2 ^ s) = (g : Int) from by rw [show (d : Int) * 2 ^ s = ((d * 2 ^ s : Nat) : Int) by simp, hg]; exact wrap8 g hg256)
      obtain ⟨o, ho⟩ : ∃ o, (N % 2 ^ m) / 256 ^ p % 256 = o := ⟨_, rfl⟩
      have ho256 : o < 256 := by rw [← ho]; exact Nat.mod_lt _ (by decide)
      have HOC := Lib.hid (show (Cv.bytesV (toLe 32 (N % 2 ^ m)))[p]? = some (.int .u8 (o : Int)) from by rw [Cv.bytesV_get _ p _ (toLe_get 32 _ p hp32), ho]; congr 3; rw [UInt8.toNat_ofNat']; exact Nat.mod_eq_of_lt ho256)
      obtain ⟨vb, hvb⟩ : ∃ v : UInt8, UInt8.ofNat (o ||| g) = v := ⟨_, rfl⟩
      have HTN := Lib.hid (show (vb.toNat : Int) = ((o ||| g : Nat) : Int) from by rw [← hvb, UInt8.toNat_ofNat']; exact congrArg _ (Nat.mod_eq_of_lt (or8_lt ho256 hg256)))
      have EOR := Lib.hid (show bits .or .u8 (o : Int) (g : Int) = (vb.toNat : Int) from by rw [HTN.out]; exact u8_or_nat o g ho256 hg256)
      have hr64 : min r 64 = r := by omega
      have hs64 : min s 8 = s := by omega
      have EQ := Lib.hid (show IntKind.i64.wrap ((m : Int) / 51) = (q : Int) from by rw [show (m : Int) / 51 = (q : Int) by omega]; exact wrapI (by omega))
      have EQ8 := Lib.hid (show IntKind.i64.wrap ((m : Int) / 8) = (p : Int) from by rw [show (m : Int) / 8 = (p : Int) by omega]; exact wrapI (by omega))
      have ER := Lib.hid (show (m : Int).tmod 51 = (r : Int) from by rw [Int.tmod_eq_emod_of_nonneg (by omega)]; omega)
      have ER8 := Lib.hid (show (m : Int).tmod 8 = (s : Int) from by rw [Int.tmod_eq_emod_of_nonneg (by omega)]; omega)
      have HLT2 := Lib.hid (show d = N / 2 ^ m % 2 from by rw [← hd2, ← hc, ← hn1, ← hr, ← hq, HNN.out, spl_nth _ _ (by omega), lim_bit])
      have hst := toLe_step N m (by omega)
      rw [hp, hs, ho, ← HLT2.out, hg, hvb] at hst
      have HST := Lib.hid hst
      clear hst hcM hn1W hvb
      go_upto_region 6 with fail
      refine RT.start (fun W => Below wr.heap.size wr W) 19 1 (by kernel_rfl) (by decide) rfl (by kernel_rfl) (by kernel_rfl) (Below.drew (Below.refl _ _)) ?_
      refine' RT.takeV (i := 0) (v := _) rfl (by kernel_rfl) (by kernel_rfl) (by kernel_rfl) (by decide) (fun _ _ _ h => h) (by rfl) ?hk1 ?_
      case hk1 => (intro W hSW; go_simp; try with_reducible rfl)
      (try simp only [Act.put, List.setIfInBounds_toArray, List.set_cons_zero, List.set_cons_succ])
      refine' RT.takeV (i := 1) (v := _) rfl (by kernel_rfl) (by kernel_rfl) (by kernel_rfl) (by decide) (fun _ _ _ h => h) (by rfl) ?hk2 ?_
      case hk2 => (intro W hSW; have x1 := EQ8.out; go_simp; try with_reducible rfl)
      (try simp only [Act.put, List.setIfInBounds_toArray, List.set_cons_zero, List.set_cons_succ])
      refine' RT.takeV (i := 2) (v := _) rfl (by kernel_rfl) (by kernel_rfl) (by kernel_rfl) (by decide) (fun _ _ _ h => h) (by rfl) ?hk3 ?_
      case hk3 => (intro W hSW; have x2 := hp0; have x3 := hpz; go_simp; try with_reducible rfl)
      (try simp only [Act.put, List.setIfInBounds_toArray, List.set_cons_zero, List.set_cons_succ])
      refine' RT.takeV (i := 3) (v := _) rfl (by kernel_rfl) (by kernel_rfl) (by kernel_rfl) (by decide) (fun _ _ _ h => h) (by rfl) ?hk4 ?_
      case hk4 => (intro W hSW; have x1 := (HO.out.below hSW HO.out.lt).cell p HOC.out; have x2 := hp0; go_simp; try with_reducible rfl)
      (try simp only [Act.put, List.setIfInBounds_toArray, List.set_cons_zero, List.set_cons_succ])
      refine' RT.takeV (i := 4) (v := _) rfl (by kernel_rfl) (by kernel_rfl) (by kernel_rfl) (by decide) (fun _ _ _ h => h) (by rfl) ?hk5 ?_
      case hk5 => (intro W hSW; go_simp; try with_reducible rfl)
      (try simp only [Act.put, List.setIfInBounds_toArray, List.set_cons_zero, List.set_cons_succ])
      refine' RT.takeV (i := 5) (v := _) rfl (by kernel_rfl) (by kernel_rfl) (by kernel_rfl) (by decide) (fun _ _ _ h => h) (by rfl) ?hk6 ?_
      case hk6 => (intro W hSW; have x1 := EQ.out; go_simp; try with_reducible rfl)
      (try simp only [Act.put, List.setIfInBounds_toArray, List.set_cons_zero, List.set_cons_succ])
      refine' RT.takeV (i := 6) (v := _) rfl (by kernel_rfl) (by kernel_rfl) (by kernel_rfl) (by decide) (fun _ _ _ h => h) (by rfl) ?hk7 ?_
      case hk7 => (intro W hSW; go_simp; try with_reducible rfl)
      (try simp only [Act.put, List.setIfInBounds_toArray, List.set_cons_zero, List.set_cons_succ])
      refine' RT.takeV (i := 7) (v := _) rfl (by kernel_rfl) (by kernel_rfl) (by kernel_rfl) (by decide) (fun _ _ _ h => h) (by rfl) ?hk8 ?_
      case hk8 => (intro W hSW; have x2 := hq0; have x3 := hqz; go_simp; try with_reducible rfl)
      (try simp only [Act.put, List.setIfInBounds_toArray, List.set_cons_zero, List.set_cons_succ])
      refine' RT.takeV (i := 8) (v := _) rfl (by kernel_rfl) (by kernel_rfl) (by kernel_rfl) (by decide) (fun _ _ _ h => h) (by rfl) ?hk9 ?_
      case hk9 => (intro W hSW; have x1 := (HR.out.below hSW HR.out.lt).cell q HLM.out; rw [HN1.out] at x1; have x2 := hq0; go_simp; try with_reducible rfl)
      (try simp only [Act.put, List.setIfInBounds_toArray, List.set_cons_zero, List.set_cons_succ])
      refine' RT.takeV (i := 9) (v := _) rfl (by kernel_rfl) (by kernel_rfl) (by kernel_rfl) (by decide) (fun _ _ _ h => h) (by rfl) ?hk10 ?_
      case hk10 => (intro W hSW; go_simp; try with_reducible rfl)
      (try simp only [Act.put, List.setIfInBounds_toArray, List.set_cons_zero, List.set_cons_succ])
      refine' RT.takeV (i := 10) (v := _) rfl (by kernel_rfl) (by kernel_rfl) (by kernel_rfl) (by decide) (fun _ _ _ h => h) (by rfl) ?hk11 ?_
      case hk11 => (intro W hSW; have x1 := ER.out; go_simp; try with_reducible rfl)
      (try simp only [Act.put, List.setIfInBounds_toArray, List.set_cons_zero, List.set_cons_succ])
      refine' RT.takeV (i := 11) (v := _) rfl (by kernel_rfl) (by kernel_rfl) (by kernel_rfl) (by decide) (fun _ _ _ h => h) (by rfl) ?hk12 ?_
      case hk12 => (intro W hSW; have x1 := ESR.out; have x2 := hr0; have x3 := hr64; go_simp; try with_reducible rfl)
      (try simp only [Act.put, List.setIfInBounds_toArray, List.set_cons_zero, List.set_cons_succ])
      refine' RT.takeV (i := 12) (v := _) rfl (by kernel_rfl) (by kernel_rfl) (by kernel_rfl) (by decide) (fun _ _ _ h => h) (by rfl) ?hk13 ?_
      case hk13 => (intro W hSW; have x1 := EAN.out; go_simp; try with_reducible rfl)
      (try simp only [Act.put, List.setIfInBounds_toArray, List.set_cons_zero, List.set_cons_succ])
      refine' RT.takeV (i := 13) (v := _) rfl (by kernel_rfl) (by kernel_rfl) (by kernel_rfl) (by decide) (fun _ _ _ h => h) (by rfl) ?hk14 ?_
      case hk14 => (intro W hSW; have x1 := EC.out; go_simp; try with_reducible rfl)
      (try simp only [Act.put, List.setIfInBounds_toArray, List.set_cons_zero, List.set_cons_succ])
      refine' RT.takeV (i := 14) (v := _) rfl (by kernel_rfl) (by kernel_rfl) (by kernel_rfl) (by decide) (fun _ _ _ h => h) (by rfl) ?hk15 ?_
      case hk15 => (intro W hSW; go_simp; try with_reducible rfl)
      (try simp only [Act.put, List.setIfInBounds_toArray, List.set_cons_zero, List.set_cons_succ])
      refine' RT.takeV (i := 15) (v := _) rfl (by kernel_rfl) (by kernel_rfl) (by kernel_rfl) (by decide) (fun _ _ _ h => h) (by rfl) ?hk16 ?_
      case hk16 => (intro W hSW; have x1 := ER8.out; go_simp; try with_reducible rfl)
      (try simp only [Act.put, List.setIfInBounds_toArray, List.set_cons_zero, List.set_cons_succ])
      refine' RT.takeV (i := 16) (v := _) rfl (by kernel_rfl) (by kernel_rfl) (by kernel_rfl) (by decide) (fun _ _ _ h => h) (by rfl) ?hk17 ?_
      case hk17 => (intro W hSW; have x1 := ESL.out; have x2 := hs0; have x3 := hs64; go_simp; try with_reducible rfl)
      (try simp only [Act.put, List.setIfInBounds_toArray, List.set_cons_zero, List.set_cons_succ])
      refine' RT.takeV (i := 17) (v := _) rfl (by kernel_rfl) (by kernel_rfl) (by kernel_rfl) (by decide) (fun _ _ _ h => h) (by rfl) ?hk18 ?_
      case hk18 => (intro W hSW; have x1 := EOR.out; go_simp; try with_reducible rfl)
      (try simp only [Act.put, List.setIfInBounds_toArray, List.set_cons_zero, List.set_cons_succ])
      refine' RT.takeV (i := 18) (v := _) rfl (by kernel_rfl) (by kernel_rfl) (by kernel_rfl) (by decide) (fun _ _ _ h => h) (by rfl) ?hk19 ?_
      case hk19 => (intro W hSW; have x2 := hp0; have x3 := hpz; go_simp; try with_reducible rfl)
      (try simp only [Act.put, List.setIfInBounds_toArray, List.set_cons_zero, List.set_cons_succ])
      refine RT.tail (by kernel_rfl) rfl rfl ?_
      intro wd hlwd hswd
      have hlx : Below wr.heap.size wr wd := (Below.drew (Below.refl _ _)).trans hlwd
      have HOd := Lib.hid (HO.out.below hlx HO.out.lt)
      have HRd := Lib.hid (HR.out.below hlx HR.out.lt)
      have HZd := Lib.hid (HZ.out.below hlx HZ.out.lt)
      have HBd := Lib.hid (HB.out.trans (hlx.mono (HB.out.size_le HXB.out)))
      clear hlwd hswd hlx
      refine Cv.store_byte rfl 5 _ _ rfl (b := ob) (j := p) (v := vb) rfl rfl Tryz.underlying5 (by kernel_rfl) HOd.out HLP.out ?_
      intro V hV hgV
      rw [← HST.out] at hV
      have HOV := Lib.hid hV
      have HRV := Lib.hid (row_other HRd.out hgV HNO.out.1)
      have HZV := Lib.hid (blk_other HZd.out hgV HNO.out.2.1)
      have HBV := Lib.hid (HBd.out.grown hgV (HBd.out.size_le HXB.out) (fun j e => by cases e; exact HNO.out.2.2))
      clear hV hgV
      go_wp2_with fail
      go_roundw
      case rel =>
        have REL := Lib.hid (show ∃ m' : Nat, m' ≤ 255 ∧ Value.int .i64 ((m : Int) + 1) = .int .i64 m' ∧ Rg.Blk V ob 22 (Cv.bytesV (toLe 32 (N % 2 ^ m'))) ∧ Row V xb 53 y.l ∧ Rg.Blk V rb 22 (Cv.bytesV (toLe 32 (0 % 2 ^ 0))) ∧ Below xb w V from ⟨m + 1, hm255, rfl, HOV.out, HRV.out, HZV.out, HBV.out⟩)
        first
          | exact REL.out
          | ((repeat apply Exists.intro); refine ⟨?_, rfl⟩; exact REL.out)
      case measure => (first | (simp [intOf]; done) | (simp [intOf]; omega))
    · obtain rfl : m = 255 := by omega
      have HE := Lib.hid (show Rg.Blk wr ob 22 (Cv.bytesV (toLe 32 N)) from by have := HO.out; rwa [Nat.mod_eq_of_lt HLT.out] at this)
      have H32 := Lib.hid (show ∀ n, (Cv.bytesV (toLe 32 n)).size = 32 from fun n => by rw [Cv.bytesV_size, toLe_len])
      go_wp2_with (first
        | ((with_reducible refine gate_ ?_); refine Cv.load_cells rfl 22 _ rfl ob 0 rfl (Cv.bytesV (toLe 32 N)) _ (fun j v hv => by rw [Nat.zero_add]; exact HE.out.cell j hv) Tryz.underlying22 rfl (by rw [H32.out]; kernel_rfl) ?_; skip)
        | ((with_reducible refine gate_ ?_); refine Cv.store_blk rfl 22 _ _ rfl rb (Cv.bytesV (toLe 32 N)) (Cv.bytesV (toLe 32 (0 % 2 ^ 0))) 22 rfl rfl HZ.out (by rw [H32.out]; kernel_rfl) (by rw [H32.out, H32.out]) (Cv.bytesV_one _) ?_; intro V3 hV hgV; have HZZ := Lib.hid hV; have HBZ := Lib.hid (HB.out.grown hgV (HB.out.size_le HXB.out) (fun j e => by cases e; exact HNE.out.2)); clear hV hgV))
      refine bodyPost_ret (v := .agg (Cv.bytesV (toLe 32 N)))
        (results_cell_row Tryz.results26 _ _ rb 22 _ (0, 0) _ rfl HZZ.out Tryz.underlying22 rfl (by rw [H32.out]; kernel_rfl)) rfl ?_
      exact ⟨rfl, HXB.out ▸ HBZ.out⟩
end Go.Proofs.YtfaeigbfnjkojaaGreatDoor.Kx
namespace Go.Proofs.YtfaeigbfnjkojaaGreatDoor.Kx
open Go.RowKit Go.Proofs.YtfaeigbfnjkojaaGreatDoor.Cl
theorem el_at {w : World} {b T : Nat} {x : E} (h : Row w b T x.l) : ∀ j v, (u64s x.l)[j]? = some v → w.cell? ⟨b, 0 + j, none⟩ = some v := fun j v hv => by
  rw [Nat.zero_add]; exact Rg.Blk.cell (row_blk h) j hv
theorem pt_at {w : World} {b T : Nat} {l : List Nat} (h : Row w b T l) : ∀ j v, (u64s l)[j]? = some v → w.cell? ⟨b, 0 + j, none⟩ = some v := fun j v hv => by
  rw [Nat.zero_add]; exact Rg.Blk.cell (row_blk h) j hv
theorem run_build_op {P : Program} {o : Oper} {a : Act} {w : World} (t : TypeId) (parts : Array (Nat × Operand)) (ho : o.op = .build t parts) (vals : Array (Nat × Value)) (hv : (parts.map fun (x : Nat × Operand) => (x.1, a.eval x.2)) = vals) (cells : Array Value) (h : P.built t vals.toList = some cells) : (execOp a.eval o).run P w = .ok (.value (.agg cells)) w := by
  have hr := run_build w t vals cells h
  rw [← hv] at hr
  unfold execOp
  simp only [ho, Sem.run_bind, Sem.run_map, Sem.run_pure]
  simp [hr]
theorem built_pt (x z : E) : Tryz.prog.built 57 [(0, .agg (u64s x.l)), (1, .agg (u64s z.l))] = some (u64s (x.l ++ z.l)) := by
  cases x; cases z; kernel_rfl
theorem store_blk_op {P : Program} {o : Oper} {a : Act} {w : World} {K : Act → World → Prop} {Q : Exit → Act → World → Prop} (ty : TypeId) (x y : Operand) (ho : o.op = .store ty x y)
    (b : Nat) (cs old : Array Value) (T : TypeId) (hx : a.eval x = .pointer (some ⟨b, 0, none⟩)) (hy : a.eval y = .agg cs) (hB : Rg.Blk w b T old)
    (hi : (P.info? ty).map (·.size) = some cs.size) (hold : old.size = cs.size) (h1 : cs.all (·.oneCell') = true)
    (h : ∀ X, Rg.Blk X b T cs → w.grownBy X (some b) → K (a.put o.dst undef) X) : Oper.wp P o a w K Q :=
  wp_store_row ty x y ho b cs hx hy T old hB hi hold h1 (h _ hB.setRow ⟨rfl, rfl, rfl, by simp, fun k _ hk => setRow_other w b k cs (fun e => hk (congrArg some e))⟩)
theorem aft_row {X W : World} {b T : Nat} {l : List Nat} (h : RL.Aft X W) (hr : Row X b T l) : Row W b T l := hr.below h hr.lt
theorem upd_row {X W : World} {s : List Nat} {b T : Nat} {l : List Nat} (h : Sp.Upd X W s) (hr : Row X b T l) (hb : b ∉ s) : Row W b T l := by
  have hl := hr.lt
  unfold Row at *
  rw [h.block b hl hb]; exact hr
set_option maxRecDepth 20000 in
set_option maxHeartbeats 2000000 in
theorem swap_any (w : World) (f : Bool) (pa pb : Nat) (p q : P) (hp : Row w pa 57 p.l) (hq : Row w pb 57 q.l) (hne : pa ≠ pb) :
    Calls Tryz.prog 22 #[.bool f, .pointer (some ⟨pa, 0, none⟩), .pointer (some ⟨pb, 0, none⟩)] w fun e w' => (∃ v, e = .returned v) ∧ Row w' pa 57 (if f = true then q else p).l ∧ Row w' pb 57 (if f = true then p else q).l ∧ Sp.Upd w w' [pa, pb] := by
  obtain ⟨r, hr⟩ : ∃ r : P, (if f = true then q else p) = r := ⟨_, rfl⟩
  obtain ⟨s, hs⟩ : ∃ s : P, (if f = true then p else q) = s := ⟨_, rfl⟩
  have HCr := Lib.hid (show (∀ W : World, Calls Tryz.prog 39 #[.bool f, .agg (u64s q.x.l), .agg (u64s p.x.l)] W fun e w' => e = .returned (.agg (u64s r.x.l)) ∧ Below W.heap.size W w') ∧ (∀ W : World, Calls Tryz.prog 39 #[.bool f, .agg (u64s q.z.l), .agg (u64s p.z.l)] W fun e w' => e = .returned (.agg (u64s r.z.l)) ∧ Below W.heap.size W w') from ⟨fun W => by
    have := Choose_any W f q.x p.x
    rwa [show (if f = true then q.x else p.x) = r.x by rw [← hr]; cases f <;> rfl] at this, fun W => by
    have := Choose_any W f q.z p.z
    rwa [show (if f = true then q.z else p.z) = r.z by rw [← hr]; cases f <;> rfl] at this⟩)
  have HCs := Lib.hid (show (∀ W : World, Calls Tryz.prog 39 #[.bool f, .agg (u64s p.x.l), .agg (u64s q.x.l)] W fun e w' => e = .returned (.agg (u64s s.x.l)) ∧ Below W.heap.size W w') ∧ (∀ W : World, Calls Tryz.prog 39 #[.bool f, .agg (u64s p.z.l), .agg (u64s q.z.l)] W fun e w' => e = .returned (.agg (u64s s.z.l)) ∧ Below W.heap.size W w') from ⟨fun W => by
    have := Choose_any W f p.x q.x
    rwa [show (if f = true then p.x else q.x) = s.x by rw [← hs]; cases f <;> rfl] at this, fun W => by
    have := Choose_any W f p.z q.z
    rwa [show (if f = true then p.z else q.z) = s.z by rw [← hs]; cases f <;> rfl] at this⟩)
  rw [hr, hs]
  clear hr hs
  have HP := Lib.hid hp
  have HQ := Lib.hid hq
  have HNE := Lib.hid hne
  clear hp hq hne
  go_enter Tryz.func22, Tryz.ntmps22
  go_upto_region 0 with fail
  refine RL.start (RL.Aft w) (by kernel_rfl) (RL.Aft.drew (RL.Aft.refl w)) ?_
  refine' RL.takeV (i := 0) (v := _) rfl (by kernel_rfl) (by kernel_rfl) (by kernel_rfl) (fun _ _ _ h => h) (by rfl) ?hk1 ?_
  case hk1 => (intro W hSW; go_simp; try with_reducible rfl)
  (try simp only [Act.put, List.setIfInBounds_toArray, List.set_cons_zero, List.set_cons_succ])
  refine' RL.takeV (i := 1) (v := _) rfl (by kernel_rfl) (by kernel_rfl) (by kernel_rfl) (fun _ _ _ h => h) (by rfl) ?hk2 ?_
  case hk2 => (intro W hSW; go_simp; try with_reducible rfl)
  (try simp only [Act.put, List.setIfInBounds_toArray, List.set_cons_zero, List.set_cons_succ])
  refine' RL.takeV (i := 2) (v := _) rfl (by kernel_rfl) (by kernel_rfl) (by kernel_rfl) (fun _ _ _ h => h) (by rfl) ?hk3 ?_
  case hk3 => (intro W hSW; go_simp; try with_reducible rfl)
  (try simp only [Act.put, List.setIfInBounds_toArray, List.set_cons_zero, List.set_cons_succ])
  refine' RL.takeV (i := 3) (v := _) rfl (by kernel_rfl) (by kernel_rfl) (by kernel_rfl) (fun _ _ _ h => h) (by rfl) ?hk4 ?_
  case hk4 => (intro W hSW; go_simp; try with_reducible rfl)
  (try simp only [Act.put, List.setIfInBounds_toArray, List.set_cons_zero, List.set_cons_succ])
  refine RL.takeV (i := 4) (v := .agg (u64s q.x.l)) rfl (by kernel_rfl) (by kernel_rfl) (by kernel_rfl) (fun _ _ _ h => h) (by rfl) (fun W hSW => run_at 53 _ rfl pb 0 rfl (u64s q.x.l) (pt_x (aft_row hSW HQ.out)) Tryz.underlying53 rfl (by kernel_rfl)) ?_
  (try simp only [Act.put, List.setIfInBounds_toArray, List.set_cons_zero, List.set_cons_succ])
  refine' RL.takeV (i := 5) (v := _) rfl (by kernel_rfl) (by kernel_rfl) (by kernel_rfl) (fun _ _ _ h => h) (by rfl) ?hk5 ?_
  case hk5 => (intro W hSW; go_simp; try with_reducible rfl)
  (try simp only [Act.put, List.setIfInBounds_toArray, List.set_cons_zero, List.set_cons_succ])
  refine' RL.takeV (i := 6) (v := _) rfl (by kernel_rfl) (by kernel_rfl) (by kernel_rfl) (fun _ _ _ h => h) (by rfl) ?hk6 ?_
  case hk6 => (intro W hSW; go_simp; try with_reducible rfl)
  (try simp only [Act.put, List.setIfInBounds_toArray, List.set_cons_zero, List.set_cons_succ])
  refine' RL.takeV (i := 7) (v := _) rfl (by kernel_rfl) (by kernel_rfl) (by kernel_rfl) (fun _ _ _ h => h) (by rfl) ?hk7 ?_
  case hk7 => (intro W hSW; go_simp; try with_reducible rfl)
  (try simp only [Act.put, List.setIfInBounds_toArray, List.set_cons_zero, List.set_cons_succ])
  refine RL.takeV (i := 8) (v := .agg (u64s p.x.l)) rfl (by kernel_rfl) (by kernel_rfl) (by kernel_rfl) (fun _ _ _ h => h) (by rfl) (fun W hSW => run_at 53 _ rfl pa 0 rfl (u64s p.x.l) (pt_x (aft_row hSW HP.out)) Tryz.underlying53 rfl (by kernel_rfl)) ?_
  (try simp only [Act.put, List.setIfInBounds_toArray, List.set_cons_zero, List.set_cons_succ])
  refine' RL.takeC (i := 9) (v := .agg (u64s (r.x).l)) 39 #[.bool f, .agg (u64s q.x.l), .agg (u64s p.x.l)] rfl (by kernel_rfl) (by kernel_rfl) (by kernel_rfl) (fun _ _ _ h => h) (by rfl) ?hk8 ?hc8 ?_
  case hk8 => (intro W; go_simp; try with_reducible rfl)
  case hc8 => (intro W hSW; exact (HCr.out.1 W).mono (fun e w9 h9 => ⟨h9.1, h9.2, RL.Aft.lat hSW h9.2⟩))
  (try simp only [Act.put, List.setIfInBounds_toArray, List.set_cons_zero, List.set_cons_succ])
  refine' RL.takeV (i := 10) (v := _) rfl (by kernel_rfl) (by kernel_rfl) (by kernel_rfl) (fun _ _ _ h => h) (by rfl) ?hk9 ?_
  case hk9 => (intro W hSW; go_simp; try with_reducible rfl)
  (try simp only [Act.put, List.setIfInBounds_toArray, List.set_cons_zero, List.set_cons_succ])
  refine' RL.takeV (i := 11) (v := _) rfl (by kernel_rfl) (by kernel_rfl) (by kernel_rfl) (fun _ _ _ h => h) (by rfl) ?hk10 ?_
  case hk10 => (intro W hSW; go_simp; try with_reducible rfl)
  (try simp only [Act.put, List.setIfInBounds_toArray, List.set_cons_zero, List.set_cons_succ])
  refine' RL.takeV (i := 12) (v := _) rfl (by kernel_rfl) (by kernel_rfl) (by kernel_rfl) (fun _ _ _ h => h) (by rfl) ?hk11 ?_
  case hk11 => (intro W hSW; go_simp; try with_reducible rfl)
  (try simp only [Act.put, List.setIfInBounds_toArray, List.set_cons_zero, List.set_cons_succ])
  refine' RL.takeV (i := 13) (v := _) rfl (by kernel_rfl) (by kernel_rfl) (by kernel_rfl) (fun _ _ _ h => h) (by rfl) ?hk12 ?_
  case hk12 => (intro W hSW; go_simp; try with_reducible rfl)
  (try simp only [Act.put, List.setIfInBounds_toArray, List.set_cons_zero, List.set_cons_succ])
  refine RL.takeV (i := 14) (v := .agg (u64s q.z.l)) rfl (by kernel_rfl) (by kernel_rfl) (by kernel_rfl) (fun _ _ _ h => h) (by rfl) (fun W hSW => run_at 53 _ rfl pb 5 rfl (u64s q.z.l) (pt_z (aft_row hSW HQ.out)) Tryz.underlying53 rfl (by kernel_rfl)) ?_
  (try simp only [Act.put, List.setIfInBounds_toArray, List.set_cons_zero, List.set_cons_succ])
  refine' RL.takeV (i := 15) (v := _) rfl (by kernel_rfl) (by kernel_rfl) (by kernel_rfl) (fun _ _ _ h => h) (by rfl) ?hk13 ?_
  case hk13 => (intro W hSW; go_simp; try with_reducible rfl)
  (try simp only [Act.put, List.setIfInBounds_toArray, List.set_cons_zero, List.set_cons_succ])
  refine' RL.takeV (i := 16) (v := _) rfl (by kernel_rfl) (by kernel_rfl) (by kernel_rfl) (fun _ _ _ h => h) (by rfl) ?hk14 ?_
  case hk14 => (intro W hSW; go_simp; try with_reducible rfl)
  (try simp only [Act.put, List.setIfInBounds_toArray, List.set_cons_zero, List.set_cons_succ])
  refine' RL.takeV (i := 17) (v := _) rfl (by kernel_rfl) (by kernel_rfl) (by kernel_rfl) (fun _ _ _ h => h) (by rfl) ?hk15 ?_
  case hk15 => (intro W hSW; go_simp; try with_reducible rfl)
  (try simp only [Act.put, List.setIfInBounds_toArray, List.set_cons_zero, List.set_cons_succ])
  refine RL.takeV (i := 18) (v := .agg (u64s p.z.l)) rfl (by kernel_rfl) (by kernel_rfl) (by kernel_rfl) (fun _ _ _ h => h) (by rfl) (fun W hSW => run_at 53 _ rfl pa 5 rfl (u64s p.z.l) (pt_z (aft_row hSW HP.out)) Tryz.underlying53 rfl (by kernel_rfl)) ?_
  (try simp only [Act.put, List.setIfInBounds_toArray, List.set_cons_zero, List.set_cons_succ])
  refine' RL.takeC (i := 19) (v := .agg (u64s (r.z).l)) 39 #[.bool f, .agg (u64s q.z.l), .agg (u64s p.z.l)] rfl (by kernel_rfl) (by kernel_rfl) (by kernel_rfl) (fun _ _ _ h => h) (by rfl) ?hk16 ?hc16 ?_
  case hk16 => (intro W; go_simp; try with_reducible rfl)
  case hc16 => (intro W hSW; exact (HCr.out.2 W).mono (fun e w9 h9 => ⟨h9.1, h9.2, RL.Aft.lat hSW h9.2⟩))
  (try simp only [Act.put, List.setIfInBounds_toArray, List.set_cons_zero, List.set_cons_succ])
  refine RL.takeV (i := 20) (v := .agg (u64s ((r.x).l ++ (r.z).l))) rfl (by kernel_rfl) (by kernel_rfl) (by kernel_rfl) (fun _ _ _ h => h) (by rfl) (fun W hSW => run_build_op 57 _ rfl #[(0, .agg (u64s (r.x).l)), (1, .agg (u64s (r.z).l))] (by go_simp) _ (built_pt _ _)) ?_
  (try simp only [Act.put, List.setIfInBounds_toArray, List.set_cons_zero, List.set_cons_succ])
  refine RL.stepK (i := 21) rfl (by kernel_rfl) (by rfl) (fun w0 hlw0 hsw0 K hK => ?_)
  go_simp
  obtain ⟨a0, ha0⟩ : ∃ n, w0.heap.size = n := ⟨_, rfl⟩
  have hZa0 := Rg.Blk.newAt ha0.symm (#[.int .u64 0, .int .u64 0, .int .u64 0, .int .u64 0, .int .u64 0, .int .u64 0, .int .u64 0, .int .u64 0, .int .u64 0, .int .u64 0] : Array Value) 57
  have Ha0 := Lib.hid (show w.heap.size ≤ a0 from ha0 ▸ Below.size hsw0)
  refine hK.out _ _ (RL.Aft.alloc hsw0 _) ?_
  try rw [ha0]
  clear hK
  (try simp only [Act.put, List.setIfInBounds_toArray, List.set_cons_zero, List.set_cons_succ])
  refine RL.stepK (i := 22) rfl (by kernel_rfl) (by rfl) (fun v0 hlv0 hsv0 K hK => ?_)
  refine store_blk_op 57 _ _ rfl a0 (u64s (r.x.l ++ r.z.l)) (#[.int .u64 0, .int .u64 0, .int .u64 0, .int .u64 0, .int .u64 0, .int .u64 0, .int .u64 0, .int .u64 0, .int .u64 0, .int .u64 0] : Array Value) 57 rfl rfl (hZa0.below hlv0 hZa0.lt) (by kernel_rfl) rfl (u64s_one _) ?_
  intro Y hY hgY
  refine hK.out _ _ (Below.grown hsv0 hgY (Below.size hsv0) (fun k hk => by cases hk; exact Ha0.out)) ?_
  clear hK
  (try simp only [Act.put, List.setIfInBounds_toArray, List.set_cons_zero, List.set_cons_succ])
  refine RL.done (by kernel_rfl) (fun X0 hlX0 hsX0 => ?_)
  have HA0 := Lib.hid (show RL.Aft w X0 from hsX0)
  have HR0 := Lib.hid (show Row X0 a0 57 r.l from hY.below hlX0 hY.lt)
  clear hsX0 hlX0 hY hgY hsv0 hlv0 hZa0 hsw0 hlw0 ha0
  have HP1 := Lib.hid (aft_row HA0.out HP.out)
  have HQ1 := Lib.hid (aft_row HA0.out HQ.out)
  have HN0 := Lib.hid (show ¬ a0 = pa ∧ ¬ a0 = pb from by have h1 := HP.out.lt; have h2 := HQ.out.lt; have h3 := Ha0.out; omega)
  go_upto_region 1 with fail
  refine RL.start (RL.Aft X0) (by kernel_rfl) (RL.Aft.drew (RL.Aft.refl X0)) ?_
  refine' RL.takeV (i := 0) (v := _) rfl (by kernel_rfl) (by kernel_rfl) (by kernel_rfl) (fun _ _ _ h => h) (by rfl) ?hk17 ?_
  case hk17 => (intro W hSW; go_simp; try with_reducible rfl)
  (try simp only [Act.put, List.setIfInBounds_toArray, List.set_cons_zero, List.set_cons_succ])
  refine' RL.takeV (i := 1) (v := _) rfl (by kernel_rfl) (by kernel_rfl) (by kernel_rfl) (fun _ _ _ h => h) (by rfl) ?hk18 ?_
  case hk18 => (intro W hSW; go_simp; try with_reducible rfl)
  (try simp only [Act.put, List.setIfInBounds_toArray, List.set_cons_zero, List.set_cons_succ])
  refine' RL.takeV (i := 2) (v := _) rfl (by kernel_rfl) (by kernel_rfl) (by kernel_rfl) (fun _ _ _ h => h) (by rfl) ?hk19 ?_
  case hk19 => (intro W hSW; go_simp; try with_reducible rfl)
  (try simp only [Act.put, List.setIfInBounds_toArray, List.set_cons_zero, List.set_cons_succ])
  refine' RL.takeV (i := 3) (v := _) rfl (by kernel_rfl) (by kernel_rfl) (by kernel_rfl) (fun _ _ _ h => h) (by rfl) ?hk20 ?_
  case hk20 => (intro W hSW; go_simp; try with_reducible rfl)
  (try simp only [Act.put, List.setIfInBounds_toArray, List.set_cons_zero, List.set_cons_succ])
  refine RL.takeV (i := 4) (v := .agg (u64s p.x.l)) rfl (by kernel_rfl) (by kernel_rfl) (by kernel_rfl) (fun _ _ _ h => h) (by rfl) (fun W hSW => run_at 53 _ rfl pa 0 rfl (u64s p.x.l) (pt_x (aft_row hSW HP1.out)) Tryz.underlying53 rfl (by kernel_rfl)) ?_
  (try simp only [Act.put, List.setIfInBounds_toArray, List.set_cons_zero, List.set_cons_succ])
  refine' RL.takeV (i := 5) (v := _) rfl (by kernel_rfl) (by kernel_rfl) (by kernel_rfl) (fun _ _ _ h => h) (by rfl) ?hk21 ?_
  case hk21 => (intro W hSW; go_simp; try with_reducible rfl)
  (try simp only [Act.put, List.setIfInBounds_toArray, List.set_cons_zero, List.set_cons_succ])
  refine' RL.takeV (i := 6) (v := _) rfl (by kernel_rfl) (by kernel_rfl) (by kernel_rfl) (fun _ _ _ h => h) (by rfl) ?hk22 ?_
  case hk22 => (intro W hSW; go_simp; try with_reducible rfl)
  (try simp only [Act.put, List.setIfInBounds_toArray, List.set_cons_zero, List.set_cons_succ])
  refine' RL.takeV (i := 7) (v := _) rfl (by kernel_rfl) (by kernel_rfl) (by kernel_rfl) (fun _ _ _ h => h) (by rfl) ?hk23 ?_
  case hk23 => (intro W hSW; go_simp; try with_reducible rfl)
  (try simp only [Act.put, List.setIfInBounds_toArray, List.set_cons_zero, List.set_cons_succ])
  refine RL.takeV (i := 8) (v := .agg (u64s q.x.l)) rfl (by kernel_rfl) (by kernel_rfl) (by kernel_rfl) (fun _ _ _ h => h) (by rfl) (fun W hSW => run_at 53 _ rfl pb 0 rfl (u64s q.x.l) (pt_x (aft_row hSW HQ1.out)) Tryz.underlying53 rfl (by kernel_rfl)) ?_
  (try simp only [Act.put, List.setIfInBounds_toArray, List.set_cons_zero, List.set_cons_succ])
  refine' RL.takeC (i := 9) (v := .agg (u64s (s.x).l)) 39 #[.bool f, .agg (u64s p.x.l), .agg (u64s q.x.l)] rfl (by kernel_rfl) (by kernel_rfl) (by kernel_rfl) (fun _ _ _ h => h) (by rfl) ?hk24 ?hc24 ?_
  case hk24 => (intro W; go_simp; try with_reducible rfl)
  case hc24 => (intro W hSW; exact (HCs.out.1 W).mono (fun e w9 h9 => ⟨h9.1, h9.2, RL.Aft.lat hSW h9.2⟩))
  (try simp only [Act.put, List.setIfInBounds_toArray, List.set_cons_zero, List.set_cons_succ])
  refine' RL.takeV (i := 10) (v := _) rfl (by kernel_rfl) (by kernel_rfl) (by kernel_rfl) (fun _ _ _ h => h) (by rfl) ?hk25 ?_
  case hk25 => (intro W hSW; go_simp; try with_reducible rfl)
  (try simp only [Act.put, List.setIfInBounds_toArray, List.set_cons_zero, List.set_cons_succ])
  refine' RL.takeV (i := 11) (v := _) rfl (by kernel_rfl) (by kernel_rfl) (by kernel_rfl) (fun _ _ _ h => h) (by rfl) ?hk26 ?_
  case hk26 => (intro W hSW; go_simp; try with_reducible rfl)
  (try simp only [Act.put, List.setIfInBounds_toArray, List.set_cons_zero, List.set_cons_succ])
  refine' RL.takeV (i := 12) (v := _) rfl (by kernel_rfl) (by kernel_rfl) (by kernel_rfl) (fun _ _ _ h => h) (by rfl) ?hk27 ?_
  case hk27 => (intro W hSW; go_simp; try with_reducible rfl)
  (try simp only [Act.put, List.setIfInBounds_toArray, List.set_cons_zero, List.set_cons_succ])
  refine' RL.takeV (i := 13) (v := _) rfl (by kernel_rfl) (by kernel_rfl) (by kernel_rfl) (fun _ _ _ h => h) (by rfl) ?hk28 ?_
  case hk28 => (intro W hSW; go_simp; try with_reducible rfl)
  (try simp only [Act.put, List.setIfInBounds_toArray, List.set_cons_zero, List.set_cons_succ])
  refine RL.takeV (i := 14) (v := .agg (u64s p.z.l)) rfl (by kernel_rfl) (by kernel_rfl) (by kernel_rfl) (fun _ _ _ h => h) (by rfl) (fun W hSW => run_at 53 _ rfl pa 5 rfl (u64s p.z.l) (pt_z (aft_row hSW HP1.out)) Tryz.underlying53 rfl (by kernel_rfl)) ?_
  (try simp only [Act.put, List.setIfInBounds_toArray, List.set_cons_zero, List.set_cons_succ])
  refine' RL.takeV (i := 15) (v := _) rfl (by kernel_rfl) (by kernel_rfl) (by kernel_rfl) (fun _ _ _ h => h) (by rfl) ?hk29 ?_
  case hk29 => (intro W hSW; go_simp; try with_reducible rfl)
  (try simp only [Act.put, List.setIfInBounds_toArray, List.set_cons_zero, List.set_cons_succ])
  refine' RL.takeV (i := 16) (v := _) rfl (by kernel_rfl) (by kernel_rfl) (by kernel_rfl) (fun _ _ _ h => h) (by rfl) ?hk30 ?_
  case hk30 => (intro W hSW; go_simp; try with_reducible rfl)
  (try simp only [Act.put, List.setIfInBounds_toArray, List.set_cons_zero, List.set_cons_succ])
  refine' RL.takeV (i := 17) (v := _) rfl (by kernel_rfl) (by kernel_rfl) (by kernel_rfl) (fun _ _ _ h => h) (by rfl) ?hk31 ?_
  case hk31 => (intro W hSW; go_simp; try with_reducible rfl)
  (try simp only [Act.put, List.setIfInBounds_toArray, List.set_cons_zero, List.set_cons_succ])
  refine RL.takeV (i := 18) (v := .agg (u64s q.z.l)) rfl (by kernel_rfl) (by kernel_rfl) (by kernel_rfl) (fun _ _ _ h => h) (by rfl) (fun W hSW => run_at 53 _ rfl pb 5 rfl (u64s q.z.l) (pt_z (aft_row hSW HQ1.out)) Tryz.underlying53 rfl (by kernel_rfl)) ?_
  (try simp only [Act.put, List.setIfInBounds_toArray, List.set_cons_zero, List.set_cons_succ])
  refine' RL.takeC (i := 19) (v := .agg (u64s (s.z).l)) 39 #[.bool f, .agg (u64s p.z.l), .agg (u64s q.z.l)] rfl (by kernel_rfl) (by kernel_rfl) (by kernel_rfl) (fun _ _ _ h => h) (by rfl) ?hk32 ?hc32 ?_
  case hk32 => (intro W; go_simp; try with_reducible rfl)
  case hc32 => (intro W hSW; exact (HCs.out.2 W).mono (fun e w9 h9 => ⟨h9.1, h9.2, RL.Aft.lat hSW h9.2⟩))
  (try simp only [Act.put, List.setIfInBounds_toArray, List.set_cons_zero, List.set_cons_succ])
  refine RL.takeV (i := 20) (v := .agg (u64s ((s.x).l ++ (s.z).l))) rfl (by kernel_rfl) (by kernel_rfl) (by kernel_rfl) (fun _ _ _ h => h) (by rfl) (fun W hSW => run_build_op 57 _ rfl #[(0, .agg (u64s (s.x).l)), (1, .agg (u64s (s.z).l))] (by go_simp) _ (built_pt _ _)) ?_
  (try simp only [Act.put, List.setIfInBounds_toArray, List.set_cons_zero, List.set_cons_succ])
  refine RL.stepK (i := 21) rfl (by kernel_rfl) (by rfl) (fun w1 hlw1 hsw1 K hK => ?_)
  go_simp
  obtain ⟨a1, ha1⟩ : ∃ n, w1.heap.size = n := ⟨_, rfl⟩
  have hZa1 := Rg.Blk.newAt ha1.symm (#[.int .u64 0, .int .u64 0, .int .u64 0, .int .u64 0, .int .u64 0, .int .u64 0, .int .u64 0, .int .u64 0, .int .u64 0, .int .u64 0] : Array Value) 57
  have Ha1 := Lib.hid (show X0.heap.size ≤ a1 from ha1 ▸ Below.size hsw1)
  refine hK.out _ _ (RL.Aft.alloc hsw1 _) ?_
  try rw [ha1]
  clear hK
  (try simp only [Act.put, List.setIfInBounds_toArray, List.set_cons_zero, List.set_cons_succ])
  refine RL.stepK (i := 22) rfl (by kernel_rfl) (by rfl) (fun v1 hlv1 hsv1 K hK => ?_)
  refine store_blk_op 57 _ _ rfl a1 (u64s (s.x.l ++ s.z.l)) (#[.int .u64 0, .int .u64 0, .int .u64 0, .int .u64 0, .int .u64 0, .int .u64 0, .int .u64 0, .int .u64 0, .int .u64 0, .int .u64 0] : Array Value) 57 rfl rfl (hZa1.below hlv1 hZa1.lt) (by kernel_rfl) rfl (u64s_one _) ?_
  intro Y hY hgY
  refine hK.out _ _ (Below.grown hsv1 hgY (Below.size hsv1) (fun k hk => by cases hk; exact Ha1.out)) ?_
  clear hK
  (try simp only [Act.put, List.setIfInBounds_toArray, List.set_cons_zero, List.set_cons_succ])
  refine RL.done (by kernel_rfl) (fun X1 hlX1 hsX1 => ?_)
  have HA1 := Lib.hid (show RL.Aft X0 X1 from hsX1)
  have HR1 := Lib.hid (show Row X1 a1 57 s.l from hY.below hlX1 hY.lt)
  clear hsX1 hlX1 hY hgY hsv1 hlv1 hZa1 hsw1 hlw1 ha1
  have HR0' := HR0
  have HN1 := Lib.hid (show ¬ a1 = pa ∧ ¬ a1 = pb from by have h1 := HP1.out.lt; have h2 := HQ1.out.lt; have h3 := Ha1.out; omega)
  have HU0 := Lib.hid (show Sp.Upd w X1 [] from Sp.Upd.of_below (Below.trans HA0.out (Below.mono HA1.out (Below.size HA0.out))))
  have HR0 := Lib.hid (aft_row HA1.out HR0'.out)
  have HP := Lib.hid (aft_row HA1.out HP1.out)
  have HQ := Lib.hid (aft_row HA1.out HQ1.out)
  clear HR0' HP1 HQ1
  go_upto_region 2 with fail
  refine RL.start (fun W => Sp.Upd X1 W [pa, pb]) (by kernel_rfl) (Sp.Upd.trans (Sp.Upd.refl _ _) (Sp.Upd.of_below (Below.drew (Below.refl _ _))) (by simp)) ?_
  refine' RL.takeV (i := 0) (v := _) rfl (by kernel_rfl) (by kernel_rfl) (by kernel_rfl) (fun _ _ _ h => h) (by rfl) ?hk33 ?_
  case hk33 => (intro W hSW; go_simp; try with_reducible rfl)
  (try simp only [Act.put, List.setIfInBounds_toArray, List.set_cons_zero, List.set_cons_succ])
  refine' RL.takeV (i := 1) (v := _) rfl (by kernel_rfl) (by kernel_rfl) (by kernel_rfl) (fun _ _ _ h => h) (by rfl) ?hk34 ?_
  case hk34 => (intro W hSW; go_simp; try with_reducible rfl)
  (try simp only [Act.put, List.setIfInBounds_toArray, List.set_cons_zero, List.set_cons_succ])
  refine RL.takeV (i := 2) (v := .agg (u64s r.l)) rfl (by kernel_rfl) (by kernel_rfl) (by kernel_rfl) (fun _ _ _ h => h) (by rfl) (fun W hSW => run_at 57 _ rfl a0 0 rfl (u64s r.l) (pt_at (upd_row hSW HR0.out (by simp; exact HN0.out))) Tryz.underlying57 rfl (by kernel_rfl)) ?_
  (try simp only [Act.put, List.setIfInBounds_toArray, List.set_cons_zero, List.set_cons_succ])
  refine RL.takeV (i := 3) (v := .agg (u64s s.l)) rfl (by kernel_rfl) (by kernel_rfl) (by kernel_rfl) (fun _ _ _ h => h) (by rfl) (fun W hSW => run_at 57 _ rfl a1 0 rfl (u64s s.l) (pt_at (upd_row hSW HR1.out (by simp; exact HN1.out))) Tryz.underlying57 rfl (by kernel_rfl)) ?_
  (try simp only [Act.put, List.setIfInBounds_toArray, List.set_cons_zero, List.set_cons_succ])
  refine' RL.takeV (i := 4) (v := _) rfl (by kernel_rfl) (by kernel_rfl) (by kernel_rfl) (fun _ _ _ h => h) (by rfl) ?hk35 ?_
  case hk35 => (intro W hSW; go_simp; try with_reducible rfl)
  (try simp only [Act.put, List.setIfInBounds_toArray, List.set_cons_zero, List.set_cons_succ])
  refine RL.stepK (i := 5) rfl (by kernel_rfl) (by rfl) (fun wa hlwa hswa K hK => ?_)
  refine store_blk_op 57 _ _ rfl pa (u64s r.l) (u64s p.l) 57 rfl rfl (row_blk ((HP.out.below (Below.drew (Below.refl _ _)) HP.out.lt).below hlwa (by have := HP.out.lt; simpa using this))) (by kernel_rfl) rfl (u64s_one _) ?_
  intro Y hY hgY
  have hsY : Sp.Upd X1 Y [pa, pb] := Sp.Upd.trans hswa (Sp.Upd.of_grown1 hgY) (fun k hk => .inl (by simp at hk; simp [hk]))
  refine hK.out _ _ hsY ?_
  clear hK
  (try simp only [Act.put, List.setIfInBounds_toArray, List.set_cons_zero, List.set_cons_succ])
  refine' RL.takeV (i := 6) (v := _) rfl (by kernel_rfl) (by kernel_rfl) (by kernel_rfl) (fun _ _ _ h => h) (by rfl) ?hk36 ?_
  case hk36 => (intro W hSW; go_simp; try with_reducible rfl)
  (try simp only [Act.put, List.setIfInBounds_toArray, List.set_cons_zero, List.set_cons_succ])
  refine RL.stepK (i := 7) rfl (by kernel_rfl) (by rfl) (fun wb hlwb hswb K hK => ?_)
  have hqY := ((row_other ((HQ.out.below (Below.drew (Below.refl _ _)) HQ.out.lt).below hlwa (by have := HQ.out.lt; simpa using this)) hgY HNE.out))
  refine store_blk_op 57 _ _ rfl pb (u64s s.l) (u64s q.l) 57 rfl rfl (row_blk (hqY.below hlwb hqY.lt)) (by kernel_rfl) rfl (u64s_one _) ?_
  intro Y2 hY2 hgY2
  have hsY2 : Sp.Upd X1 Y2 [pa, pb] := Sp.Upd.trans hswb (Sp.Upd.of_grown1 hgY2) (fun k hk => .inl (by simp at hk; simp [hk]))
  have hpY2 := row_other (Row.below hY hlwb hY.lt) hgY2 (fun e => HNE.out e.symm)
  refine hK.out _ _ hsY2 ?_
  clear hK
  (try simp only [Act.put, List.setIfInBounds_toArray, List.set_cons_zero, List.set_cons_succ])
  refine RL.done (by kernel_rfl) (fun wd hlwd hswd => ?_)
  have HRA := Lib.hid (show Row wd pa 57 r.l from Row.below hpY2 hlwd hpY2.lt)
  have HRB := Lib.hid (show Row wd pb 57 s.l from Row.below hY2 hlwd hY2.lt)
  have HUP := Lib.hid hswd
  clear hpY2 hsY2 hY2 hgY2 hqY hlwb hswb hsY hY hgY hlwa hswa hlwd hswd
  go_wp2_with fail
  go_end0
  exact ⟨⟨_, rfl⟩, HRA.out, HRB.out, Sp.Upd.trans (Sp.Upd.trans (Sp.Upd.refl w [pa, pb]) HU0.out (by simp)) HUP.out (fun k hk => .inl hk)⟩
end Go.Proofs.YtfaeigbfnjkojaaGreatDoor.Kx
namespace Go.Proofs.YtfaeigbfnjkojaaGreatDoor.RL
open Go.RowKit
/-- two allocs that may come up, whichever first: their blocks have names -/
theorem alloc2 {P : Program} {md : Region.Mode} {ops : Array Oper} {Q : Exit → Act → World → Prop} {S : World → Prop} {i j : Nat} {oi oj : Oper} {fuel : Nat} {listed : Array Bool} {a : Act} {w : World} (T1 T2 : TypeId) (Z1 Z2 : Array Value) (hoi : ops.toList[i]? = some oi) (hoj : ops.toList[j]? = some oj) (hr : Region.ready md ops listed = [i, j]) (hri : Region.ready md ops (listed.setIfInBounds i true) = [j]) (hrj : Region.ready md ops (listed.setIfInBounds j true) = [i]) (hij : i ≠ j) (hd : ∀ d, oi.dst = some d → oj.dst ≠ some d)
    (hwi : ∀ a : Act, Region.wanted oi (yielded ops a.tmps) = true) (hwj : ∀ a : Act, Region.wanted oj (yielded ops a.tmps) = true)
    (h1 : ∀ (a : Act) (W : World), (execOp a.eval oi).run P W = .ok (.value (.pointer (some ⟨W.heap.size, 0, none⟩))) (W.alloc (.cells Z1 T1))) (h2 : ∀ (a : Act) (W : World), (execOp a.eval oj).run P W = .ok (.value (.pointer (some ⟨W.heap.size, 0, none⟩))) (W.alloc (.cells Z2 T2)))
    (hS : ∀ W o, S W → S (W.alloc o))
    (h : ∀ b1 b2 W, Lat w W → S W → b1 ≠ b2 → w.heap.size ≤ b1 → w.heap.size ≤ b2 → Rg.Blk W b1 T1 Z1 → Rg.Blk W b2 T2 Z2 → H P md ops Q S W fuel ((listed.setIfInBounds i true).setIfInBounds j true) ((a.put oi.dst (.pointer (some ⟨b1, 0, none⟩))).put oj.dst (.pointer (some ⟨b2, 0, none⟩)))) : H P md ops Q S w (fuel + 2) listed a := by
  have hl1 : ∀ W o, Lat W (World.alloc W o) := fun W o => (Below.refl _ _).alloc (Nat.le_refl _) _
  intro w' hl hs
  refine ⟨fun h0 => (by rw [h0] at hr; cases hr), fun k hk => ?_⟩
  rw [hr] at hk
  rcases List.mem_cons.1 hk with rfl | hk
  · refine wpOp_step (by simpa using hoi) fun K hK => ?_
    rw [if_pos (hwi a)]
    unfold Oper.wp
    rw [h1]
    refine hK _ _ ⟨hS _ _ hs, ?_⟩
    refine step (i := j) hri (fun w2 hl2 hs2 => wpOp_step (by simpa using hoj) fun K2 hK2 => ?_)
    rw [if_pos (hwj _)]
    unfold Oper.wp
    rw [h2]
    refine hK2 _ _ ⟨hS _ _ hs2, ?_⟩
    have hz := Below.size hl2
    rw [World.size_alloc] at hz
    have hz0 := Below.size hl
    exact h w'.heap.size w2.heap.size _ ((hl.trans (hl1 _ _)).trans (hl2.trans (hl1 _ _))) (hS _ _ hs2) (by omega) hz0 (by omega) (((Rg.Blk.new w' Z1 T1).below hl2 (by simp)).alloc _) (Rg.Blk.new w2 Z2 T2)
  · rw [List.mem_singleton.1 hk]
    refine wpOp_step (by simpa using hoj) fun K hK => ?_
    rw [if_pos (hwj a)]
    unfold Oper.wp
    rw [h2]
    refine hK _ _ ⟨hS _ _ hs, ?_⟩
    refine step (i := i) hrj (fun w2 hl2 hs2 => wpOp_step (by simpa using hoi) fun K2 hK2 => ?_)
    rw [if_pos (hwi _)]
    unfold Oper.wp
    rw [h1]
    refine hK2 _ _ ⟨hS _ _ hs2, ?_⟩
    have hz := Below.size hl2
    rw [World.size_alloc] at hz
    have hz0 := Below.size hl
    rw [Array.setIfInBounds_comm _ _ (Ne.symm hij), ← Act.put_comm _ _ _ hd]
    exact h w2.heap.size w'.heap.size _ ((hl.trans (hl1 _ _)).trans (hl2.trans (hl1 _ _))) (hS _ _ hs2) (by omega) (by omega) hz0 (Rg.Blk.new w2 Z1 T1) (((Rg.Blk.new w' Z2 T2).below hl2 (by simp)).alloc _)
end Go.Proofs.YtfaeigbfnjkojaaGreatDoor.RL
namespace Go.Proofs.YtfaeigbfnjkojaaGreatDoor.Kx
open Go.RowKit Go.Proofs.YtfaeigbfnjkojaaGreatDoor.Cl
theorem add_ok (x y : E) : (add x y).ok := carry_ok _
theorem sub_ok (x y : E) : (sub x y).ok := carry_ok _
set_option maxRecDepth 20000 in
set_option maxHeartbeats 2000000 in
theorem step_any (w : World) (x : E) (hx : x.ok) (pa pb : Nat) (p q : P) (hp : Row w pa 57 p.l) (hq : Row w pb 57 q.l) (hne : pa ≠ pb) :
    Calls Tryz.prog 23 #[.agg (u64s x.l), .pointer (some ⟨pa, 0, none⟩), .pointer (some ⟨pb, 0, none⟩)] w fun e w' => (∃ v, e = .returned v) ∧ Row w' pa 57 (stepP x p q).1.l ∧ Row w' pb 57 (stepP x p q).2.l ∧ Sp.Upd w w' [pa, pb] := by
  have HOX := Lib.hid hx
  have RP := Lib.hid hp
  have RQ := Lib.hid hq
  have HNE := Lib.hid hne
  have HPQ := Lib.hid (show pa < w.heap.size ∧ pb < w.heap.size from ⟨hp.lt, hq.lt⟩)
  clear hx hp hq hne
  obtain ⟨v6, ev6⟩ : ∃ y, add p.x p.z = y := ⟨_, rfl⟩
  have O6 := Lib.hid (show v6.ok from ev6 ▸ add_ok _ _)
  have Cv6 := Lib.hid (fun W => show Calls Tryz.prog 40 #[.agg (u64s p.x.l), .agg (u64s p.z.l)] W fun e w' => e = .returned (.agg (u64s v6.l)) ∧ Below W.heap.size W w' from ev6 ▸ Add_any W p.x p.z)
  obtain ⟨v7, ev7⟩ : ∃ y, sub p.x p.z = y := ⟨_, rfl⟩
  have O7 := Lib.hid (show v7.ok from ev7 ▸ sub_ok _ _)
  have Cv7 := Lib.hid (fun W => show Calls Tryz.prog 41 #[.agg (u64s p.x.l), .agg (u64s p.z.l)] W fun e w' => e = .returned (.agg (u64s v7.l)) ∧ Below W.heap.size W w' from ev7 ▸ Sub_any W p.x p.z)
  obtain ⟨v8, ev8⟩ : ∃ y, sq v6 = y := ⟨_, rfl⟩
  have O8 := Lib.hid (show v8.ok from ev8 ▸ mul_ok _ _)
  have Cv8 := Lib.hid (fun W => show Calls Tryz.prog 42 #[.agg (u64s v6.l)] W fun e w' => e = .returned (.agg (u64s v8.l)) ∧ Below W.heap.size W w' from ev8 ▸ Square_any W v6 O6.out)
  obtain ⟨v9, ev9⟩ : ∃ y, sq v7 = y := ⟨_, rfl⟩
  have O9 := Lib.hid (show v9.ok from ev9 ▸ mul_ok _ _)
  have Cv9 := Lib.hid (fun W => show Calls Tryz.prog 42 #[.agg (u64s v7.l)] W fun e w' => e = .returned (.agg (u64s v9.l)) ∧ Below W.heap.size W w' from ev9 ▸ Square_any W v7 O7.out)
  obtain ⟨v10, ev10⟩ : ∃ y, sub v8 v9 = y := ⟨_, rfl⟩
  have O10 := Lib.hid (show v10.ok from ev10 ▸ sub_ok _ _)
  have Cv10 := Lib.hid (fun W => show Calls Tryz.prog 41 #[.agg (u64s v8.l), .agg (u64s v9.l)] W fun e w' => e = .returned (.agg (u64s v10.l)) ∧ Below W.heap.size W w' from ev10 ▸ Sub_any W v8 v9)
  obtain ⟨u1, eu1⟩ : ∃ y, sub q.x q.z = y := ⟨_, rfl⟩
  have Ou1 := Lib.hid (show u1.ok from eu1 ▸ sub_ok _ _)
  have Cu1 := Lib.hid (fun W => show Calls Tryz.prog 41 #[.agg (u64s q.x.l), .agg (u64s q.z.l)] W fun e w' => e = .returned (.agg (u64s u1.l)) ∧ Below W.heap.size W w' from eu1 ▸ Sub_any W q.x q.z)
  obtain ⟨v11, ev11⟩ : ∃ y, mul u1 v6 = y := ⟨_, rfl⟩
  have O11 := Lib.hid (show v11.ok from ev11 ▸ mul_ok _ _)
  have Cv11 := Lib.hid (fun W => show Calls Tryz.prog 24 #[.agg (u64s u1.l), .agg (u64s v6.l)] W fun e w' => e = .returned (.agg (u64s v11.l)) ∧ Below W.heap.size W w' from ev11 ▸ Mul_any W u1 v6 Ou1.out O6.out)
  obtain ⟨u2, eu2⟩ : ∃ y, add q.x q.z = y := ⟨_, rfl⟩
  have Ou2 := Lib.hid (show u2.ok from eu2 ▸ add_ok _ _)
  have Cu2 := Lib.hid (fun W => show Calls Tryz.prog 40 #[.agg (u64s q.x.l), .agg (u64s q.z.l)] W fun e w' => e = .returned (.agg (u64s u2.l)) ∧ Below W.heap.size W w' from eu2 ▸ Add_any W q.x q.z)
  obtain ⟨v12, ev12⟩ : ∃ y, mul u2 v7 = y := ⟨_, rfl⟩
  have O12 := Lib.hid (show v12.ok from ev12 ▸ mul_ok _ _)
  have Cv12 := Lib.hid (fun W => show Calls Tryz.prog 24 #[.agg (u64s u2.l), .agg (u64s v7.l)] W fun e w' => e = .returned (.agg (u64s v12.l)) ∧ Below W.heap.size W w' from ev12 ▸ Mul_any W u2 v7 Ou2.out O7.out)
  obtain ⟨s1, es1⟩ : ∃ y, add v11 v12 = y := ⟨_, rfl⟩
  have Os1 := Lib.hid (show s1.ok from es1 ▸ add_ok _ _)
  have Cs1 := Lib.hid (fun W => show Calls Tryz.prog 40 #[.agg (u64s v11.l), .agg (u64s v12.l)] W fun e w' => e = .returned (.agg (u64s s1.l)) ∧ Below W.heap.size W w' from es1 ▸ Add_any W v11 v12)
  obtain ⟨xb, exb⟩ : ∃ y, sq s1 = y := ⟨_, rfl⟩
  have Oxb := Lib.hid (show xb.ok from exb ▸ mul_ok _ _)
  have Cxb := Lib.hid (fun W => show Calls Tryz.prog 42 #[.agg (u64s s1.l)] W fun e w' => e = .returned (.agg (u64s xb.l)) ∧ Below W.heap.size W w' from exb ▸ Square_any W s1 Os1.out)
  obtain ⟨s2, es2⟩ : ∃ y, sub v11 v12 = y := ⟨_, rfl⟩
  have Os2 := Lib.hid (show s2.ok from es2 ▸ sub_ok _ _)
  have Cs2 := Lib.hid (fun W => show Calls Tryz.prog 41 #[.agg (u64s v11.l), .agg (u64s v12.l)] W fun e w' => e = .returned (.agg (u64s s2.l)) ∧ Below W.heap.size W w' from es2 ▸ Sub_any W v11 v12)
  obtain ⟨s3, es3⟩ : ∃ y, sq s2 = y := ⟨_, rfl⟩
  have Os3 := Lib.hid (show s3.ok from es3 ▸ mul_ok _ _)
  have Cs3 := Lib.hid (fun W => show Calls Tryz.prog 42 #[.agg (u64s s2.l)] W fun e w' => e = .returned (.agg (u64s s3.l)) ∧ Below W.heap.size W w' from es3 ▸ Square_any W s2 Os2.out)
  obtain ⟨zb, ezb⟩ : ∃ y, mul x s3 = y := ⟨_, rfl⟩
  have Ozb := Lib.hid (show zb.ok from ezb ▸ mul_ok _ _)
  have Czb := Lib.hid (fun W => show Calls Tryz.prog 24 #[.agg (u64s x.l), .agg (u64s s3.l)] W fun e w' => e = .returned (.agg (u64s zb.l)) ∧ Below W.heap.size W w' from ezb ▸ Mul_any W x s3 HOX.out Os3.out)
  obtain ⟨xa, exa⟩ : ∃ y, mul v8 v9 = y := ⟨_, rfl⟩
  have Oxa := Lib.hid (show xa.ok from exa ▸ mul_ok _ _)
  have Cxa := Lib.hid (fun W => show Calls Tryz.prog 24 #[.agg (u64s v8.l), .agg (u64s v9.l)] W fun e w' => e = .returned (.agg (u64s xa.l)) ∧ Below W.heap.size W w' from exa ▸ Mul_any W v8 v9 O8.out O9.out)
  obtain ⟨m1, em1⟩ : ∃ y, small 121665 = y := ⟨_, rfl⟩
  have Om1 := Lib.hid (show m1.ok from em1 ▸ small_ok _ (by decide))
  have Cm1 := Lib.hid (fun W => show Calls Tryz.prog 21 #[.int .u64 121665] W fun e w' => e = .returned (.agg (u64s m1.l)) ∧ Below W.heap.size W w' from em1 ▸ Small_any W 121665 (by decide))
  obtain ⟨se, ese⟩ : ∃ y, mul m1 v10 = y := ⟨_, rfl⟩
  have Ose := Lib.hid (show se.ok from ese ▸ mul_ok _ _)
  have Cse := Lib.hid (fun W => show Calls Tryz.prog 24 #[.agg (u64s m1.l), .agg (u64s v10.l)] W fun e w' => e = .returned (.agg (u64s se.l)) ∧ Below W.heap.size W w' from ese ▸ Mul_any W m1 v10 Om1.out O10.out)
  obtain ⟨ae, eae⟩ : ∃ y, add v8 se = y := ⟨_, rfl⟩
  have Oae := Lib.hid (show ae.ok from eae ▸ add_ok _ _)
  have Cae := Lib.hid (fun W => show Calls Tryz.prog 40 #[.agg (u64s v8.l), .agg (u64s se.l)] W fun e w' => e = .returned (.agg (u64s ae.l)) ∧ Below W.heap.size W w' from eae ▸ Add_any W v8 se)
  obtain ⟨za, eza⟩ : ∃ y, mul v10 ae = y := ⟨_, rfl⟩
  have Oza := Lib.hid (show za.ok from eza ▸ mul_ok _ _)
  have Cza := Lib.hid (fun W => show Calls Tryz.prog 24 #[.agg (u64s v10.l), .agg (u64s ae.l)] W fun e w' => e = .returned (.agg (u64s za.l)) ∧ Below W.heap.size W w' from eza ▸ Mul_any W v10 ae O10.out Oae.out)
  have HRES := Lib.hid (show stepP x p q = (⟨xa, za⟩, ⟨xb, zb⟩) from by subst eza eae ese em1 exa ezb es3 es2 exb es1 ev12 eu2 ev11 eu1 ev10 ev9 ev8 ev7 ev6; rfl)
  clear ev6 ev7 ev8 ev9 ev10 eu1 ev11 eu2 ev12 es1 exb es2 es3 ezb exa em1 ese eae eza O6 O7 O8 O9 O10 Ou1 O11 Ou2 O12 Os1 Oxb Os2 Os3 Ozb Oxa Om1 Ose Oae Oza
  rw [HRES.out]
  clear HRES
  go_enter Tryz.func23, Tryz.ntmps23
  go_upto_region 1 with ((with_reducible refine gate_ ?_); refine Rg.box_fresh rfl 53 _ rfl (u64s x.l) rfl ?_; intro Y0 hX hbX hnX; have Rb3 := Lib.hid (show Row Y0 w.heap.size 53 x.l from hX); have HU := Lib.hid hbX; clear hX hbX hnX)
  obtain ⟨b3, hb3⟩ : ∃ n, w.heap.size = n := ⟨_, rfl⟩
  have Nb3 := Lib.hid (show ¬ b3 = pa ∧ ¬ b3 = pb from by have h1 := HPQ.out; omega)
  have Rb3 := Lib.hid (hb3 ▸ Rb3.out)
  rw [hb3]
  clear hb3
  have RP := Lib.hid (Row.below RP.out HU.out RP.out.lt)
  have RQ := Lib.hid (Row.below RQ.out HU.out RQ.out.lt)
  have HU0 := HU
  refine RL.start (RL.Aft Y0) (by kernel_rfl) (RL.Aft.drew (RL.Aft.refl Y0)) ?_
  refine' RL.takeV (i := 0) (v := _) rfl (by kernel_rfl) (by kernel_rfl) (by kernel_rfl) (fun _ _ _ h => h) (by rfl) ?hk1 ?_
  case hk1 => (intro W hSW; go_simp; try with_reducible rfl)
  (try simp only [Act.put, List.setIfInBounds_toArray, List.set_cons_zero, List.set_cons_succ])
  refine' RL.takeV (i := 1) (v := _) rfl (by kernel_rfl) (by kernel_rfl) (by kernel_rfl) (fun _ _ _ h => h) (by rfl) ?hk2 ?_
  case hk2 => (intro W hSW; go_simp; try with_reducible rfl)
  (try simp only [Act.put, List.setIfInBounds_toArray, List.set_cons_zero, List.set_cons_succ])
  refine' RL.takeV (i := 2) (v := _) rfl (by kernel_rfl) (by kernel_rfl) (by kernel_rfl) (fun _ _ _ h => h) (by rfl) ?hk3 ?_
  case hk3 => (intro W hSW; go_simp; try with_reducible rfl)
  (try simp only [Act.put, List.setIfInBounds_toArray, List.set_cons_zero, List.set_cons_succ])
  refine RL.takeV (i := 3) (v := .agg (u64s p.x.l)) rfl (by kernel_rfl) (by kernel_rfl) (by kernel_rfl) (fun _ _ _ h => h) (by rfl) (fun W hSW => run_at 53 _ rfl pa 0 rfl (u64s p.x.l) (pt_x (aft_row hSW RP.out)) Tryz.underlying53 rfl (by kernel_rfl)) ?_
  (try simp only [Act.put, List.setIfInBounds_toArray, List.set_cons_zero, List.set_cons_succ])
  refine' RL.takeV (i := 4) (v := _) rfl (by kernel_rfl) (by kernel_rfl) (by kernel_rfl) (fun _ _ _ h => h) (by rfl) ?hk4 ?_
  case hk4 => (intro W hSW; go_simp; try with_reducible rfl)
  (try simp only [Act.put, List.setIfInBounds_toArray, List.set_cons_zero, List.set_cons_succ])
  refine' RL.takeV (i := 5) (v := _) rfl (by kernel_rfl) (by kernel_rfl) (by kernel_rfl) (fun _ _ _ h => h) (by rfl) ?hk5 ?_
  case hk5 => (intro W hSW; go_simp; try with_reducible rfl)
  (try simp only [Act.put, List.setIfInBounds_toArray, List.set_cons_zero, List.set_cons_succ])
  refine' RL.takeV (i := 6) (v := _) rfl (by kernel_rfl) (by kernel_rfl) (by kernel_rfl) (fun _ _ _ h => h) (by rfl) ?hk6 ?_
  case hk6 => (intro W hSW; go_simp; try with_reducible rfl)
  (try simp only [Act.put, List.setIfInBounds_toArray, List.set_cons_zero, List.set_cons_succ])
  refine RL.takeV (i := 7) (v := .agg (u64s p.z.l)) rfl (by kernel_rfl) (by kernel_rfl) (by kernel_rfl) (fun _ _ _ h => h) (by rfl) (fun W hSW => run_at 53 _ rfl pa 5 rfl (u64s p.z.l) (pt_z (aft_row hSW RP.out)) Tryz.underlying53 rfl (by kernel_rfl)) ?_
  (try simp only [Act.put, List.setIfInBounds_toArray, List.set_cons_zero, List.set_cons_succ])
  refine' RL.takeC (i := 8) (v := .agg (u64s (v6).l)) 40 #[.agg (u64s p.x.l), .agg (u64s p.z.l)] rfl (by kernel_rfl) (by kernel_rfl) (by kernel_rfl) (fun _ _ _ h => h) (by rfl) ?hk7 ?hc7 ?_
  case hk7 => (intro W; go_simp; try with_reducible rfl)
  case hc7 => (intro W hSW; exact (Cv6.out W).mono (fun e w9 h9 => ⟨h9.1, h9.2, RL.Aft.lat hSW h9.2⟩))
  (try simp only [Act.put, List.setIfInBounds_toArray, List.set_cons_zero, List.set_cons_succ])
  refine' RL.takeV (i := 9) (v := _) rfl (by kernel_rfl) (by kernel_rfl) (by kernel_rfl) (fun _ _ _ h => h) (by rfl) ?hk8 ?_
  case hk8 => (intro W hSW; go_simp; try with_reducible rfl)
  (try simp only [Act.put, List.setIfInBounds_toArray, List.set_cons_zero, List.set_cons_succ])
  refine' RL.takeV (i := 10) (v := _) rfl (by kernel_rfl) (by kernel_rfl) (by kernel_rfl) (fun _ _ _ h => h) (by rfl) ?hk9 ?_
  case hk9 => (intro W hSW; go_simp; try with_reducible rfl)
  (try simp only [Act.put, List.setIfInBounds_toArray, List.set_cons_zero, List.set_cons_succ])
  refine' RL.takeV (i := 11) (v := _) rfl (by kernel_rfl) (by kernel_rfl) (by kernel_rfl) (fun _ _ _ h => h) (by rfl) ?hk10 ?_
  case hk10 => (intro W hSW; go_simp; try with_reducible rfl)
  (try simp only [Act.put, List.setIfInBounds_toArray, List.set_cons_zero, List.set_cons_succ])
  refine RL.takeV (i := 12) (v := .agg (u64s p.x.l)) rfl (by kernel_rfl) (by kernel_rfl) (by kernel_rfl) (fun _ _ _ h => h) (by rfl) (fun W hSW => run_at 53 _ rfl pa 0 rfl (u64s p.x.l) (pt_x (aft_row hSW RP.out)) Tryz.underlying53 rfl (by kernel_rfl)) ?_
  (try simp only [Act.put, List.setIfInBounds_toArray, List.set_cons_zero, List.set_cons_succ])
  refine' RL.takeV (i := 13) (v := _) rfl (by kernel_rfl) (by kernel_rfl) (by kernel_rfl) (fun _ _ _ h => h) (by rfl) ?hk11 ?_
  case hk11 => (intro W hSW; go_simp; try with_reducible rfl)
  (try simp only [Act.put, List.setIfInBounds_toArray, List.set_cons_zero, List.set_cons_succ])
  refine' RL.takeV (i := 14) (v := _) rfl (by kernel_rfl) (by kernel_rfl) (by kernel_rfl) (fun _ _ _ h => h) (by rfl) ?hk12 ?_
  case hk12 => (intro W hSW; go_simp; try with_reducible rfl)
  (try simp only [Act.put, List.setIfInBounds_toArray, List.set_cons_zero, List.set_cons_succ])
  refine' RL.takeV (i := 15) (v := _) rfl (by kernel_rfl) (by kernel_rfl) (by kernel_rfl) (fun _ _ _ h => h) (by rfl) ?hk13 ?_
  case hk13 => (intro W hSW; go_simp; try with_reducible rfl)
  (try simp only [Act.put, List.setIfInBounds_toArray, List.set_cons_zero, List.set_cons_succ])
  refine RL.takeV (i := 16) (v := .agg (u64s p.z.l)) rfl (by kernel_rfl) (by kernel_rfl) (by kernel_rfl) (fun _ _ _ h => h) (by rfl) (fun W hSW => run_at 53 _ rfl pa 5 rfl (u64s p.z.l) (pt_z (aft_row hSW RP.out)) Tryz.underlying53 rfl (by kernel_rfl)) ?_
  (try simp only [Act.put, List.setIfInBounds_toArray, List.set_cons_zero, List.set_cons_succ])
  refine' RL.takeC (i := 17) (v := .agg (u64s (v7).l)) 41 #[.agg (u64s p.x.l), .agg (u64s p.z.l)] rfl (by kernel_rfl) (by kernel_rfl) (by kernel_rfl) (fun _ _ _ h => h) (by rfl) ?hk14 ?hc14 ?_
  case hk14 => (intro W; go_simp; try with_reducible rfl)
  case hc14 => (intro W hSW; exact (Cv7.out W).mono (fun e w9 h9 => ⟨h9.1, h9.2, RL.Aft.lat hSW h9.2⟩))
  (try simp only [Act.put, List.setIfInBounds_toArray, List.set_cons_zero, List.set_cons_succ])
  refine RL.alloc2 (i := 18) (j := 19) 53 53 Z5 Z5 rfl rfl (by kernel_rfl) (by kernel_rfl) (by kernel_rfl) (by decide) (by decide) (fun _ => rfl) (fun _ => rfl) (fun _ _ => by go_simp; try rfl) (fun _ _ => by go_simp; try rfl) (fun _ _ h => RL.Aft.alloc h _) ?_
  intro b6 b7 wv hlwv hswv hnewv hz1wv hz2wv hB1 hB2
  have HNEwv := Lib.hid hnewv
  have Hb6 := Lib.hid (show Y0.heap.size ≤ b6 from by simpa using hz1wv)
  have Hb7 := Lib.hid (show Y0.heap.size ≤ b7 from by simpa using hz2wv)
  clear hnewv hz1wv hz2wv hlwv
  (try simp only [Act.put, List.setIfInBounds_toArray, List.set_cons_zero, List.set_cons_succ])
  refine RL.stepK (i := 20) rfl (by kernel_rfl) (by rfl) (fun va hlva hsva K hK => ?_)
  have hA := hB1.below hlva hB1.lt
  have hB := hB2.below hlva hB2.lt
  refine store_blk_op 53 _ _ rfl b6 (u64s (v6).l) Z5 53 rfl rfl hA (by kernel_rfl) rfl (u64s_one _) ?_
  intro Y hY hgY
  have hB := blk_other hB hgY HNEwv.out
  refine hK.out _ _ (Below.grown hsva hgY (Below.size hsva) (fun k hk => by cases hk; exact Hb6.out)) ?_
  clear hK
  (try simp only [Act.put, List.setIfInBounds_toArray, List.set_cons_zero, List.set_cons_succ])
  refine RL.stepK (i := 21) rfl (by kernel_rfl) (by rfl) (fun vb hlvb hsvb K hK => ?_)
  refine store_blk_op 53 _ _ rfl b7 (u64s (v7).l) Z5 53 rfl rfl (hB.below hlvb hB.lt) (by kernel_rfl) rfl (u64s_one _) ?_
  intro Y2 hY2 hgY2
  have hY := blk_other (hY.below hlvb hY.lt) hgY2 (fun e => HNEwv.out e.symm)
  refine hK.out _ _ (Below.grown hsvb hgY2 (Below.size hsvb) (fun k hk => by cases hk; exact Hb7.out)) ?_
  clear hK
  (try simp only [Act.put, List.setIfInBounds_toArray, List.set_cons_zero, List.set_cons_succ])
  refine RL.done (by kernel_rfl) (fun Y1 hlY1 hsY1 => ?_)
  have HA := Lib.hid (show RL.Aft Y0 Y1 from hsY1)
  have Rb6 := Lib.hid (show Row Y1 b6 53 (v6).l from hY.below hlY1 hY.lt)
  have Rb7 := Lib.hid (show Row Y1 b7 53 (v7).l from hY2.below hlY1 hY2.lt)
  clear hsY1 hlY1 hY hgY hsva hlva hsvb hlvb hB hA hY2 hgY2 hB1 hB2 HNEwv
  have RP := Lib.hid (aft_row HA.out RP.out)
  have RQ := Lib.hid (aft_row HA.out RQ.out)
  have Rb3 := Lib.hid (aft_row HA.out Rb3.out)
  have HU := Lib.hid (Below.trans HU.out (Below.mono HA.out (Below.size HU.out)))
  have Nb6 := Lib.hid (show ¬ b6 = pa ∧ ¬ b6 = pb from by have h1 := HPQ.out; have h2 := Hb6.out; have h3 := Below.size HU0.out; omega)
  have Nb7 := Lib.hid (show ¬ b7 = pa ∧ ¬ b7 = pb from by have h1 := HPQ.out; have h2 := Hb7.out; have h3 := Below.size HU0.out; omega)
  clear HA HU0 Hb6 Hb7
  go_upto_region 2 with fail
  have HU0 := HU
  refine RL.start (RL.Aft Y1) (by kernel_rfl) (RL.Aft.drew (RL.Aft.refl Y1)) ?_
  refine RL.takeV (i := 0) (v := .agg (u64s (v6).l)) rfl (by kernel_rfl) (by kernel_rfl) (by kernel_rfl) (fun _ _ _ h => h) (by rfl) (fun W hSW => run_at 53 _ rfl b6 0 rfl (u64s (v6).l) (el_at (aft_row hSW Rb6.out)) Tryz.underlying53 rfl (by kernel_rfl)) ?_
  (try simp only [Act.put, List.setIfInBounds_toArray, List.set_cons_zero, List.set_cons_succ])
  refine' RL.takeC (i := 1) (v := .agg (u64s (v8).l)) 42 #[.agg (u64s v6.l)] rfl (by kernel_rfl) (by kernel_rfl) (by kernel_rfl) (fun _ _ _ h => h) (by rfl) ?hk15 ?hc15 ?_
  case hk15 => (intro W; go_simp; try with_reducible rfl)
  case hc15 => (intro W hSW; exact (Cv8.out W).mono (fun e w9 h9 => ⟨h9.1, h9.2, RL.Aft.lat hSW h9.2⟩))
  (try simp only [Act.put, List.setIfInBounds_toArray, List.set_cons_zero, List.set_cons_succ])
  refine RL.takeV (i := 2) (v := .agg (u64s (v7).l)) rfl (by kernel_rfl) (by kernel_rfl) (by kernel_rfl) (fun _ _ _ h => h) (by rfl) (fun W hSW => run_at 53 _ rfl b7 0 rfl (u64s (v7).l) (el_at (aft_row hSW Rb7.out)) Tryz.underlying53 rfl (by kernel_rfl)) ?_
  (try simp only [Act.put, List.setIfInBounds_toArray, List.set_cons_zero, List.set_cons_succ])
  refine' RL.takeC (i := 3) (v := .agg (u64s (v9).l)) 42 #[.agg (u64s v7.l)] rfl (by kernel_rfl) (by kernel_rfl) (by kernel_rfl) (fun _ _ _ h => h) (by rfl) ?hk16 ?hc16 ?_
  case hk16 => (intro W; go_simp; try with_reducible rfl)
  case hc16 => (intro W hSW; exact (Cv9.out W).mono (fun e w9 h9 => ⟨h9.1, h9.2, RL.Aft.lat hSW h9.2⟩))
  (try simp only [Act.put, List.setIfInBounds_toArray, List.set_cons_zero, List.set_cons_succ])
  refine RL.alloc2 (i := 4) (j := 5) 53 53 Z5 Z5 rfl rfl (by kernel_rfl) (by kernel_rfl) (by kernel_rfl) (by decide) (by decide) (fun _ => rfl) (fun _ => rfl) (fun _ _ => by go_simp; try rfl) (fun _ _ => by go_simp; try rfl) (fun _ _ h => RL.Aft.alloc h _) ?_
  intro b8 b9 wv hlwv hswv hnewv hz1wv hz2wv hB1 hB2
  have HNEwv := Lib.hid hnewv
  have Hb8 := Lib.hid (show Y1.heap.size ≤ b8 from by simpa using hz1wv)
  have Hb9 := Lib.hid (show Y1.heap.size ≤ b9 from by simpa using hz2wv)
  clear hnewv hz1wv hz2wv hlwv
  (try simp only [Act.put, List.setIfInBounds_toArray, List.set_cons_zero, List.set_cons_succ])
  refine RL.stepK (i := 6) rfl (by kernel_rfl) (by rfl) (fun va hlva hsva K hK => ?_)
  have hA := hB1.below hlva hB1.lt
  have hB := hB2.below hlva hB2.lt
  refine store_blk_op 53 _ _ rfl b8 (u64s (v8).l) Z5 53 rfl rfl hA (by kernel_rfl) rfl (u64s_one _) ?_
  intro Y hY hgY
  have hB := blk_other hB hgY HNEwv.out
  refine hK.out _ _ (Below.grown hsva hgY (Below.size hsva) (fun k hk => by cases hk; exact Hb8.out)) ?_
  clear hK
  (try simp only [Act.put, List.setIfInBounds_toArray, List.set_cons_zero, List.set_cons_succ])
  refine RL.stepK (i := 7) rfl (by kernel_rfl) (by rfl) (fun vb hlvb hsvb K hK => ?_)
  refine store_blk_op 53 _ _ rfl b9 (u64s (v9).l) Z5 53 rfl rfl (hB.below hlvb hB.lt) (by kernel_rfl) rfl (u64s_one _) ?_
  intro Y2 hY2 hgY2
  have hY := blk_other (hY.below hlvb hY.lt) hgY2 (fun e => HNEwv.out e.symm)
  refine hK.out _ _ (Below.grown hsvb hgY2 (Below.size hsvb) (fun k hk => by cases hk; exact Hb9.out)) ?_
  clear hK
  (try simp only [Act.put, List.setIfInBounds_toArray, List.set_cons_zero, List.set_cons_succ])
  refine RL.done (by kernel_rfl) (fun Y2 hlY2 hsY2 => ?_)
  have HA := Lib.hid (show RL.Aft Y1 Y2 from hsY2)
  have Rb8 := Lib.hid (show Row Y2 b8 53 (v8).l from hY.below hlY2 hY.lt)
  have Rb9 := Lib.hid (show Row Y2 b9 53 (v9).l from hY2.below hlY2 hY2.lt)
  clear hsY2 hlY2 hY hgY hsva hlva hsvb hlvb hB hA hY2 hgY2 hB1 hB2 HNEwv
  have RP := Lib.hid (aft_row HA.out RP.out)
  have RQ := Lib.hid (aft_row HA.out RQ.out)
  have Rb3 := Lib.hid (aft_row HA.out Rb3.out)
  have Rb6 := Lib.hid (aft_row HA.out Rb6.out)
  have Rb7 := Lib.hid (aft_row HA.out Rb7.out)
  have HU := Lib.hid (Below.trans HU.out (Below.mono HA.out (Below.size HU.out)))
  have Nb8 := Lib.hid (show ¬ b8 = pa ∧ ¬ b8 = pb from by have h1 := HPQ.out; have h2 := Hb8.out; have h3 := Below.size HU0.out; omega)
  have Nb9 := Lib.hid (show ¬ b9 = pa ∧ ¬ b9 = pb from by have h1 := HPQ.out; have h2 := Hb9.out; have h3 := Below.size HU0.out; omega)
  clear HA HU0 Hb8 Hb9
  go_upto_region 4 with (first
    | ((with_reducible refine gate_ ?_); refine Cv.load_cells rfl 53 _ rfl b8 0 rfl (u64s v8.l) _ (fun j v hv => by rw [Nat.zero_add]; exact Rg.Blk.cell (row_blk Rb8.out) j hv) Tryz.underlying53 rfl (by rw [u64s_size]; kernel_rfl) ?_; skip)
    | ((with_reducible refine gate_ ?_); refine Cv.load_cells rfl 53 _ rfl b9 0 rfl (u64s v9.l) _ (fun j v hv => by rw [Nat.zero_add]; exact Rg.Blk.cell (row_blk Rb9.out) j hv) Tryz.underlying53 rfl (by rw [u64s_size]; kernel_rfl) ?_; skip)
    | (go_at_call 41; refine (Cv10.out _).mono ?_; rintro e w9 ⟨rfl, hb9⟩; skip; have HB9 := Lib.hid hb9; clear hb9)
    | (refine Rg.store_fresh rfl 53 _ _ rfl (u64s v10.l) _ 53 rfl rfl (by rw [u64s_size]; kernel_rfl) rfl (u64s_one _) ?_; intro Y3 hX hbX; have HX3 := Lib.hid hX; have HA := Lib.hid (show RL.Aft Y2 Y3 from Below.trans HB9.out (Below.mono hbX HB9.out.size)); clear hX hbX))
  obtain ⟨b10, hb10⟩ : ∃ n, w9.heap.size = n := ⟨_, rfl⟩
  have Hb10 := Lib.hid (show Y2.heap.size ≤ b10 from hb10 ▸ HB9.out.size)
  have Rb10 := Lib.hid (show Row Y3 b10 53 v10.l from hb10 ▸ HX3.out)
  rw [hb10]
  clear hb10 HX3 HB9
  have HU0 := HU
  have RP := Lib.hid (aft_row HA.out RP.out)
  have RQ := Lib.hid (aft_row HA.out RQ.out)
  have Rb3 := Lib.hid (aft_row HA.out Rb3.out)
  have Rb6 := Lib.hid (aft_row HA.out Rb6.out)
  have Rb7 := Lib.hid (aft_row HA.out Rb7.out)
  have Rb8 := Lib.hid (aft_row HA.out Rb8.out)
  have Rb9 := Lib.hid (aft_row HA.out Rb9.out)
  have HU := Lib.hid (Below.trans HU.out (Below.mono HA.out (Below.size HU.out)))
  have Nb10 := Lib.hid (show ¬ b10 = pa ∧ ¬ b10 = pb from by have h1 := HPQ.out; have h2 := Hb10.out; have h3 := Below.size HU0.out; omega)
  clear HA HU0 Hb10
  go_upto_region 4 with fail
  have HU0 := HU
  refine RL.start (RL.Aft Y3) (by kernel_rfl) (RL.Aft.drew (RL.Aft.refl Y3)) ?_
  refine' RL.takeV (i := 0) (v := _) rfl (by kernel_rfl) (by kernel_rfl) (by kernel_rfl) (fun _ _ _ h => h) (by rfl) ?hk17 ?_
  case hk17 => (intro W hSW; go_simp; try with_reducible rfl)
  (try simp only [Act.put, List.setIfInBounds_toArray, List.set_cons_zero, List.set_cons_succ])
  refine' RL.takeV (i := 1) (v := _) rfl (by kernel_rfl) (by kernel_rfl) (by kernel_rfl) (fun _ _ _ h => h) (by rfl) ?hk18 ?_
  case hk18 => (intro W hSW; go_simp; try with_reducible rfl)
  (try simp only [Act.put, List.setIfInBounds_toArray, List.set_cons_zero, List.set_cons_succ])
  refine' RL.takeV (i := 2) (v := _) rfl (by kernel_rfl) (by kernel_rfl) (by kernel_rfl) (fun _ _ _ h => h) (by rfl) ?hk19 ?_
  case hk19 => (intro W hSW; go_simp; try with_reducible rfl)
  (try simp only [Act.put, List.setIfInBounds_toArray, List.set_cons_zero, List.set_cons_succ])
  refine RL.takeV (i := 3) (v := .agg (u64s q.x.l)) rfl (by kernel_rfl) (by kernel_rfl) (by kernel_rfl) (fun _ _ _ h => h) (by rfl) (fun W hSW => run_at 53 _ rfl pb 0 rfl (u64s q.x.l) (pt_x (aft_row hSW RQ.out)) Tryz.underlying53 rfl (by kernel_rfl)) ?_
  (try simp only [Act.put, List.setIfInBounds_toArray, List.set_cons_zero, List.set_cons_succ])
  refine' RL.takeV (i := 4) (v := _) rfl (by kernel_rfl) (by kernel_rfl) (by kernel_rfl) (fun _ _ _ h => h) (by rfl) ?hk20 ?_
  case hk20 => (intro W hSW; go_simp; try with_reducible rfl)
  (try simp only [Act.put, List.setIfInBounds_toArray, List.set_cons_zero, List.set_cons_succ])
  refine' RL.takeV (i := 5) (v := _) rfl (by kernel_rfl) (by kernel_rfl) (by kernel_rfl) (fun _ _ _ h => h) (by rfl) ?hk21 ?_
  case hk21 => (intro W hSW; go_simp; try with_reducible rfl)
  (try simp only [Act.put, List.setIfInBounds_toArray, List.set_cons_zero, List.set_cons_succ])
  refine' RL.takeV (i := 6) (v := _) rfl (by kernel_rfl) (by kernel_rfl) (by kernel_rfl) (fun _ _ _ h => h) (by rfl) ?hk22 ?_
  case hk22 => (intro W hSW; go_simp; try with_reducible rfl)
  (try simp only [Act.put, List.setIfInBounds_toArray, List.set_cons_zero, List.set_cons_succ])
  refine RL.takeV (i := 7) (v := .agg (u64s q.z.l)) rfl (by kernel_rfl) (by kernel_rfl) (by kernel_rfl) (fun _ _ _ h => h) (by rfl) (fun W hSW => run_at 53 _ rfl pb 5 rfl (u64s q.z.l) (pt_z (aft_row hSW RQ.out)) Tryz.underlying53 rfl (by kernel_rfl)) ?_
  (try simp only [Act.put, List.setIfInBounds_toArray, List.set_cons_zero, List.set_cons_succ])
  refine' RL.takeC (i := 8) (v := .agg (u64s (u1).l)) 41 #[.agg (u64s q.x.l), .agg (u64s q.z.l)] rfl (by kernel_rfl) (by kernel_rfl) (by kernel_rfl) (fun _ _ _ h => h) (by rfl) ?hk23 ?hc23 ?_
  case hk23 => (intro W; go_simp; try with_reducible rfl)
  case hc23 => (intro W hSW; exact (Cu1.out W).mono (fun e w9 h9 => ⟨h9.1, h9.2, RL.Aft.lat hSW h9.2⟩))
  (try simp only [Act.put, List.setIfInBounds_toArray, List.set_cons_zero, List.set_cons_succ])
  refine RL.takeV (i := 9) (v := .agg (u64s (v6).l)) rfl (by kernel_rfl) (by kernel_rfl) (by kernel_rfl) (fun _ _ _ h => h) (by rfl) (fun W hSW => run_at 53 _ rfl b6 0 rfl (u64s (v6).l) (el_at (aft_row hSW Rb6.out)) Tryz.underlying53 rfl (by kernel_rfl)) ?_
  (try simp only [Act.put, List.setIfInBounds_toArray, List.set_cons_zero, List.set_cons_succ])
  refine' RL.takeC (i := 10) (v := .agg (u64s (v11).l)) 24 #[.agg (u64s u1.l), .agg (u64s v6.l)] rfl (by kernel_rfl) (by kernel_rfl) (by kernel_rfl) (fun _ _ _ h => h) (by rfl) ?hk24 ?hc24 ?_
  case hk24 => (intro W; go_simp; try with_reducible rfl)
  case hc24 => (intro W hSW; exact (Cv11.out W).mono (fun e w9 h9 => ⟨h9.1, h9.2, RL.Aft.lat hSW h9.2⟩))
  (try simp only [Act.put, List.setIfInBounds_toArray, List.set_cons_zero, List.set_cons_succ])
  refine RL.stepK (i := 11) rfl (by kernel_rfl) (by rfl) (fun wa hlwa hswa K hK => ?_)
  go_simp
  obtain ⟨b11, hb11⟩ : ∃ n, wa.heap.size = n := ⟨_, rfl⟩
  have hZ := Rg.Blk.newAt hb11.symm Z5 53
  have Hb11 := Lib.hid (show Y3.heap.size ≤ b11 from hb11 ▸ Below.size hswa)
  refine hK.out _ _ (RL.Aft.alloc hswa _) ?_
  try rw [hb11]
  clear hK
  (try simp only [Act.put, List.setIfInBounds_toArray, List.set_cons_zero, List.set_cons_succ])
  refine RL.stepK (i := 12) rfl (by kernel_rfl) (by rfl) (fun va hlva hsva K hK => ?_)
  refine store_blk_op 53 _ _ rfl b11 (u64s (v11).l) Z5 53 rfl rfl (hZ.below hlva hZ.lt) (by kernel_rfl) rfl (u64s_one _) ?_
  intro Y hY hgY
  refine hK.out _ _ (Below.grown hsva hgY (Below.size hsva) (fun k hk => by cases hk; exact Hb11.out)) ?_
  clear hK
  (try simp only [Act.put, List.setIfInBounds_toArray, List.set_cons_zero, List.set_cons_succ])
  refine RL.done (by kernel_rfl) (fun Y4 hlY4 hsY4 => ?_)
  have HA := Lib.hid (show RL.Aft Y3 Y4 from hsY4)
  have Rb11 := Lib.hid (show Row Y4 b11 53 (v11).l from hY.below hlY4 hY.lt)
  clear hsY4 hlY4 hY hgY hsva hlva hZ hswa hlwa hb11
  have RP := Lib.hid (aft_row HA.out RP.out)
  have RQ := Lib.hid (aft_row HA.out RQ.out)
  have Rb3 := Lib.hid (aft_row HA.out Rb3.out)
  have Rb6 := Lib.hid (aft_row HA.out Rb6.out)
  have Rb7 := Lib.hid (aft_row HA.out Rb7.out)
  have Rb8 := Lib.hid (aft_row HA.out Rb8.out)
  have Rb9 := Lib.hid (aft_row HA.out Rb9.out)
  have Rb10 := Lib.hid (aft_row HA.out Rb10.out)
  have HU := Lib.hid (Below.trans HU.out (Below.mono HA.out (Below.size HU.out)))
  have Nb11 := Lib.hid (show ¬ b11 = pa ∧ ¬ b11 = pb from by have h1 := HPQ.out; have h2 := Hb11.out; have h3 := Below.size HU0.out; omega)
  clear HA HU0 Hb11
  go_upto_region 5 with fail
  have HU0 := HU
  refine RL.start (RL.Aft Y4) (by kernel_rfl) (RL.Aft.drew (RL.Aft.refl Y4)) ?_
  refine' RL.takeV (i := 0) (v := _) rfl (by kernel_rfl) (by kernel_rfl) (by kernel_rfl) (fun _ _ _ h => h) (by rfl) ?hk25 ?_
  case hk25 => (intro W hSW; go_simp; try with_reducible rfl)
  (try simp only [Act.put, List.setIfInBounds_toArray, List.set_cons_zero, List.set_cons_succ])
  refine' RL.takeV (i := 1) (v := _) rfl (by kernel_rfl) (by kernel_rfl) (by kernel_rfl) (fun _ _ _ h => h) (by rfl) ?hk26 ?_
  case hk26 => (intro W hSW; go_simp; try with_reducible rfl)
  (try simp only [Act.put, List.setIfInBounds_toArray, List.set_cons_zero, List.set_cons_succ])
  refine' RL.takeV (i := 2) (v := _) rfl (by kernel_rfl) (by kernel_rfl) (by kernel_rfl) (fun _ _ _ h => h) (by rfl) ?hk27 ?_
  case hk27 => (intro W hSW; go_simp; try with_reducible rfl)
  (try simp only [Act.put, List.setIfInBounds_toArray, List.set_cons_zero, List.set_cons_succ])
  refine RL.takeV (i := 3) (v := .agg (u64s q.x.l)) rfl (by kernel_rfl) (by kernel_rfl) (by kernel_rfl) (fun _ _ _ h => h) (by rfl) (fun W hSW => run_at 53 _ rfl pb 0 rfl (u64s q.x.l) (pt_x (aft_row hSW RQ.out)) Tryz.underlying53 rfl (by kernel_rfl)) ?_
  (try simp only [Act.put, List.setIfInBounds_toArray, List.set_cons_zero, List.set_cons_succ])
  refine' RL.takeV (i := 4) (v := _) rfl (by kernel_rfl) (by kernel_rfl) (by kernel_rfl) (fun _ _ _ h => h) (by rfl) ?hk28 ?_
  case hk28 => (intro W hSW; go_simp; try with_reducible rfl)
  (try simp only [Act.put, List.setIfInBounds_toArray, List.set_cons_zero, List.set_cons_succ])
  refine' RL.takeV (i := 5) (v := _) rfl (by kernel_rfl) (by kernel_rfl) (by kernel_rfl) (fun _ _ _ h => h) (by rfl) ?hk29 ?_
  case hk29 => (intro W hSW; go_simp; try with_reducible rfl)
  (try simp only [Act.put, List.setIfInBounds_toArray, List.set_cons_zero, List.set_cons_succ])
  refine' RL.takeV (i := 6) (v := _) rfl (by kernel_rfl) (by kernel_rfl) (by kernel_rfl) (fun _ _ _ h => h) (by rfl) ?hk30 ?_
  case hk30 => (intro W hSW; go_simp; try with_reducible rfl)
  (try simp only [Act.put, List.setIfInBounds_toArray, List.set_cons_zero, List.set_cons_succ])
  refine RL.takeV (i := 7) (v := .agg (u64s q.z.l)) rfl (by kernel_rfl) (by kernel_rfl) (by kernel_rfl) (fun _ _ _ h => h) (by rfl) (fun W hSW => run_at 53 _ rfl pb 5 rfl (u64s q.z.l) (pt_z (aft_row hSW RQ.out)) Tryz.underlying53 rfl (by kernel_rfl)) ?_
  (try simp only [Act.put, List.setIfInBounds_toArray, List.set_cons_zero, List.set_cons_succ])
  refine' RL.takeC (i := 8) (v := .agg (u64s (u2).l)) 40 #[.agg (u64s q.x.l), .agg (u64s q.z.l)] rfl (by kernel_rfl) (by kernel_rfl) (by kernel_rfl) (fun _ _ _ h => h) (by rfl) ?hk31 ?hc31 ?_
  case hk31 => (intro W; go_simp; try with_reducible rfl)
  case hc31 => (intro W hSW; exact (Cu2.out W).mono (fun e w9 h9 => ⟨h9.1, h9.2, RL.Aft.lat hSW h9.2⟩))
  (try simp only [Act.put, List.setIfInBounds_toArray, List.set_cons_zero, List.set_cons_succ])
  refine RL.takeV (i := 9) (v := .agg (u64s (v7).l)) rfl (by kernel_rfl) (by kernel_rfl) (by kernel_rfl) (fun _ _ _ h => h) (by rfl) (fun W hSW => run_at 53 _ rfl b7 0 rfl (u64s (v7).l) (el_at (aft_row hSW Rb7.out)) Tryz.underlying53 rfl (by kernel_rfl)) ?_
  (try simp only [Act.put, List.setIfInBounds_toArray, List.set_cons_zero, List.set_cons_succ])
  refine' RL.takeC (i := 10) (v := .agg (u64s (v12).l)) 24 #[.agg (u64s u2.l), .agg (u64s v7.l)] rfl (by kernel_rfl) (by kernel_rfl) (by kernel_rfl) (fun _ _ _ h => h) (by rfl) ?hk32 ?hc32 ?_
  case hk32 => (intro W; go_simp; try with_reducible rfl)
  case hc32 => (intro W hSW; exact (Cv12.out W).mono (fun e w9 h9 => ⟨h9.1, h9.2, RL.Aft.lat hSW h9.2⟩))
  (try simp only [Act.put, List.setIfInBounds_toArray, List.set_cons_zero, List.set_cons_succ])
  refine RL.stepK (i := 11) rfl (by kernel_rfl) (by rfl) (fun wa hlwa hswa K hK => ?_)
  go_simp
  obtain ⟨b12, hb12⟩ : ∃ n, wa.heap.size = n := ⟨_, rfl⟩
  have hZ := Rg.Blk.newAt hb12.symm Z5 53
  have Hb12 := Lib.hid (show Y4.heap.size ≤ b12 from hb12 ▸ Below.size hswa)
  refine hK.out _ _ (RL.Aft.alloc hswa _) ?_
  try rw [hb12]
  clear hK
  (try simp only [Act.put, List.setIfInBounds_toArray, List.set_cons_zero, List.set_cons_succ])
  refine RL.stepK (i := 12) rfl (by kernel_rfl) (by rfl) (fun va hlva hsva K hK => ?_)
  refine store_blk_op 53 _ _ rfl b12 (u64s (v12).l) Z5 53 rfl rfl (hZ.below hlva hZ.lt) (by kernel_rfl) rfl (u64s_one _) ?_
  intro Y hY hgY
  refine hK.out _ _ (Below.grown hsva hgY (Below.size hsva) (fun k hk => by cases hk; exact Hb12.out)) ?_
  clear hK
  (try simp only [Act.put, List.setIfInBounds_toArray, List.set_cons_zero, List.set_cons_succ])
  refine RL.done (by kernel_rfl) (fun Y5 hlY5 hsY5 => ?_)
  have HA := Lib.hid (show RL.Aft Y4 Y5 from hsY5)
  have Rb12 := Lib.hid (show Row Y5 b12 53 (v12).l from hY.below hlY5 hY.lt)
  clear hsY5 hlY5 hY hgY hsva hlva hZ hswa hlwa hb12
  have RP := Lib.hid (aft_row HA.out RP.out)
  have RQ := Lib.hid (aft_row HA.out RQ.out)
  have Rb3 := Lib.hid (aft_row HA.out Rb3.out)
  have Rb6 := Lib.hid (aft_row HA.out Rb6.out)
  have Rb7 := Lib.hid (aft_row HA.out Rb7.out)
  have Rb8 := Lib.hid (aft_row HA.out Rb8.out)
  have Rb9 := Lib.hid (aft_row HA.out Rb9.out)
  have Rb10 := Lib.hid (aft_row HA.out Rb10.out)
  have Rb11 := Lib.hid (aft_row HA.out Rb11.out)
  have HU := Lib.hid (Below.trans HU.out (Below.mono HA.out (Below.size HU.out)))
  have Nb12 := Lib.hid (show ¬ b12 = pa ∧ ¬ b12 = pb from by have h1 := HPQ.out; have h2 := Hb12.out; have h3 := Below.size HU0.out; omega)
  clear HA HU0 Hb12
  go_upto_region 6 with fail
  refine RL.start (fun W => Sp.Upd Y5 W [pa, pb]) (by kernel_rfl) (Sp.Upd.trans (Sp.Upd.refl _ _) (Sp.Upd.of_below (Below.drew (Below.refl _ _))) (by simp)) ?_
  refine' RL.takeV (i := 0) (v := _) rfl (by kernel_rfl) (by kernel_rfl) (by kernel_rfl) (fun _ _ _ h => h) (by rfl) ?hk33 ?_
  case hk33 => (intro W hSW; go_simp; try with_reducible rfl)
  (try simp only [Act.put, List.setIfInBounds_toArray, List.set_cons_zero, List.set_cons_succ])
  refine RL.takeV (i := 1) (v := .agg (u64s (v11).l)) rfl (by kernel_rfl) (by kernel_rfl) (by kernel_rfl) (fun _ _ _ h => h) (by rfl) (fun W hSW => run_at 53 _ rfl b11 0 rfl (u64s (v11).l) (el_at (upd_row hSW Rb11.out (by simp; exact Nb11.out))) Tryz.underlying53 rfl (by kernel_rfl)) ?_
  (try simp only [Act.put, List.setIfInBounds_toArray, List.set_cons_zero, List.set_cons_succ])
  refine RL.takeV (i := 2) (v := .agg (u64s (v12).l)) rfl (by kernel_rfl) (by kernel_rfl) (by kernel_rfl) (fun _ _ _ h => h) (by rfl) (fun W hSW => run_at 53 _ rfl b12 0 rfl (u64s (v12).l) (el_at (upd_row hSW Rb12.out (by simp; exact Nb12.out))) Tryz.underlying53 rfl (by kernel_rfl)) ?_
  (try simp only [Act.put, List.setIfInBounds_toArray, List.set_cons_zero, List.set_cons_succ])
  refine' RL.takeC (i := 3) (v := .agg (u64s (s1).l)) 40 #[.agg (u64s v11.l), .agg (u64s v12.l)] rfl (by kernel_rfl) (by kernel_rfl) (by kernel_rfl) (fun _ _ _ h => h) (by rfl) ?hk34 ?hc34 ?_
  case hk34 => (intro W; go_simp; try with_reducible rfl)
  case hc34 => (intro W hSW; exact (Cs1.out W).mono (fun e w9 h9 => ⟨h9.1, h9.2, Sp.Upd.trans hSW (Sp.Upd.of_below h9.2) (by simp)⟩))
  (try simp only [Act.put, List.setIfInBounds_toArray, List.set_cons_zero, List.set_cons_succ])
  refine' RL.takeC (i := 4) (v := .agg (u64s (xb).l)) 42 #[.agg (u64s s1.l)] rfl (by kernel_rfl) (by kernel_rfl) (by kernel_rfl) (fun _ _ _ h => h) (by rfl) ?hk35 ?hc35 ?_
  case hk35 => (intro W; go_simp; try with_reducible rfl)
  case hc35 => (intro W hSW; exact (Cxb.out W).mono (fun e w9 h9 => ⟨h9.1, h9.2, Sp.Upd.trans hSW (Sp.Upd.of_below h9.2) (by simp)⟩))
  (try simp only [Act.put, List.setIfInBounds_toArray, List.set_cons_zero, List.set_cons_succ])
  refine RL.takeV (i := 5) (v := .agg (u64s (x).l)) rfl (by kernel_rfl) (by kernel_rfl) (by kernel_rfl) (fun _ _ _ h => h) (by rfl) (fun W hSW => run_at 53 _ rfl b3 0 rfl (u64s (x).l) (el_at (upd_row hSW Rb3.out (by simp; exact Nb3.out))) Tryz.underlying53 rfl (by kernel_rfl)) ?_
  (try simp only [Act.put, List.setIfInBounds_toArray, List.set_cons_zero, List.set_cons_succ])
  refine RL.takeV (i := 6) (v := .agg (u64s (v11).l)) rfl (by kernel_rfl) (by kernel_rfl) (by kernel_rfl) (fun _ _ _ h => h) (by rfl) (fun W hSW => run_at 53 _ rfl b11 0 rfl (u64s (v11).l) (el_at (upd_row hSW Rb11.out (by simp; exact Nb11.out))) Tryz.underlying53 rfl (by kernel_rfl)) ?_
  (try simp only [Act.put, List.setIfInBounds_toArray, List.set_cons_zero, List.set_cons_succ])
  refine RL.takeV (i := 7) (v := .agg (u64s (v12).l)) rfl (by kernel_rfl) (by kernel_rfl) (by kernel_rfl) (fun _ _ _ h => h) (by rfl) (fun W hSW => run_at 53 _ rfl b12 0 rfl (u64s (v12).l) (el_at (upd_row hSW Rb12.out (by simp; exact Nb12.out))) Tryz.underlying53 rfl (by kernel_rfl)) ?_
  (try simp only [Act.put, List.setIfInBounds_toArray, List.set_cons_zero, List.set_cons_succ])
  refine' RL.takeC (i := 8) (v := .agg (u64s (s2).l)) 41 #[.agg (u64s v11.l), .agg (u64s v12.l)] rfl (by kernel_rfl) (by kernel_rfl) (by kernel_rfl) (fun _ _ _ h => h) (by rfl) ?hk36 ?hc36 ?_
  case hk36 => (intro W; go_simp; try with_reducible rfl)
  case hc36 => (intro W hSW; exact (Cs2.out W).mono (fun e w9 h9 => ⟨h9.1, h9.2, Sp.Upd.trans hSW (Sp.Upd.of_below h9.2) (by simp)⟩))
  (try simp only [Act.put, List.setIfInBounds_toArray, List.set_cons_zero, List.set_cons_succ])
  refine' RL.takeC (i := 9) (v := .agg (u64s (s3).l)) 42 #[.agg (u64s s2.l)] rfl (by kernel_rfl) (by kernel_rfl) (by kernel_rfl) (fun _ _ _ h => h) (by rfl) ?hk37 ?hc37 ?_
  case hk37 => (intro W; go_simp; try with_reducible rfl)
  case hc37 => (intro W hSW; exact (Cs3.out W).mono (fun e w9 h9 => ⟨h9.1, h9.2, Sp.Upd.trans hSW (Sp.Upd.of_below h9.2) (by simp)⟩))
  (try simp only [Act.put, List.setIfInBounds_toArray, List.set_cons_zero, List.set_cons_succ])
  refine' RL.takeC (i := 10) (v := .agg (u64s (zb).l)) 24 #[.agg (u64s x.l), .agg (u64s s3.l)] rfl (by kernel_rfl) (by kernel_rfl) (by kernel_rfl) (fun _ _ _ h => h) (by rfl) ?hk38 ?hc38 ?_
  case hk38 => (intro W; go_simp; try with_reducible rfl)
  case hc38 => (intro W hSW; exact (Czb.out W).mono (fun e w9 h9 => ⟨h9.1, h9.2, Sp.Upd.trans hSW (Sp.Upd.of_below h9.2) (by simp)⟩))
  (try simp only [Act.put, List.setIfInBounds_toArray, List.set_cons_zero, List.set_cons_succ])
  refine RL.takeV (i := 11) (v := .agg (u64s ((xb).l ++ (zb).l))) rfl (by kernel_rfl) (by kernel_rfl) (by kernel_rfl) (fun _ _ _ h => h) (by rfl) (fun W hSW => run_build_op 57 _ rfl #[(0, .agg (u64s (xb).l)), (1, .agg (u64s (zb).l))] (by go_simp) _ (built_pt _ _)) ?_
  (try simp only [Act.put, List.setIfInBounds_toArray, List.set_cons_zero, List.set_cons_succ])
  refine' RL.takeV (i := 12) (v := _) rfl (by kernel_rfl) (by kernel_rfl) (by kernel_rfl) (fun _ _ _ h => h) (by rfl) ?hk39 ?_
  case hk39 => (intro W hSW; go_simp; try with_reducible rfl)
  (try simp only [Act.put, List.setIfInBounds_toArray, List.set_cons_zero, List.set_cons_succ])
  refine RL.stepK (i := 13) rfl (by kernel_rfl) (by rfl) (fun va hlva hsva K hK => ?_)
  refine store_blk_op 57 _ _ rfl pb (u64s ((xb).l ++ (zb).l)) (u64s q.l) 57 rfl rfl (row_blk ((RQ.out.below (Below.drew (Below.refl _ _)) RQ.out.lt).below hlva (by have := RQ.out.lt; simpa using this))) (by kernel_rfl) rfl (u64s_one _) ?_
  intro Y hY hgY
  have hsY : Sp.Upd Y5 Y [pa, pb] := Sp.Upd.trans hsva (Sp.Upd.of_grown1 hgY) (fun k hk => .inl (by simp at hk; simp [hk]))
  have hother := row_other ((RP.out.below (Below.drew (Below.refl _ _)) RP.out.lt).below hlva (by have := RP.out.lt; simpa using this)) hgY (fun e => HNE.out e.symm)
  refine hK.out _ _ hsY ?_
  clear hK
  (try simp only [Act.put, List.setIfInBounds_toArray, List.set_cons_zero, List.set_cons_succ])
  refine RL.done (by kernel_rfl) (fun Y6 hlY6 hsY6 => ?_)
  have RQ := Lib.hid (show Row Y6 pb 57 (P.mk (xb) (zb)).l from Row.below hY hlY6 hY.lt)
  have RP := Lib.hid (Row.below hother hlY6 hother.lt)
  have HV := Lib.hid hsY6
  clear hother hsY hY hgY hlva hsva hlY6 hsY6
  have Rb8 := Lib.hid (upd_row HV.out Rb8.out (by simp; exact Nb8.out))
  have Rb9 := Lib.hid (upd_row HV.out Rb9.out (by simp; exact Nb9.out))
  have Rb10 := Lib.hid (upd_row HV.out Rb10.out (by simp; exact Nb10.out))
  have HU1 := Lib.hid (Sp.Upd.trans (Sp.Upd.trans (Sp.Upd.refl w [pa, pb]) (Sp.Upd.of_below HU.out) (by simp)) HV.out (fun k hk => .inl hk))
  clear HV HU
  go_upto_region 7 with fail
  refine RL.start (fun W => Sp.Upd Y6 W [pa, pb]) (by kernel_rfl) (Sp.Upd.trans (Sp.Upd.refl _ _) (Sp.Upd.of_below (Below.drew (Below.refl _ _))) (by simp)) ?_
  refine' RL.takeV (i := 0) (v := _) rfl (by kernel_rfl) (by kernel_rfl) (by kernel_rfl) (fun _ _ _ h => h) (by rfl) ?hk40 ?_
  case hk40 => (intro W hSW; go_simp; try with_reducible rfl)
  (try simp only [Act.put, List.setIfInBounds_toArray, List.set_cons_zero, List.set_cons_succ])
  refine RL.takeV (i := 1) (v := .agg (u64s (v8).l)) rfl (by kernel_rfl) (by kernel_rfl) (by kernel_rfl) (fun _ _ _ h => h) (by rfl) (fun W hSW => run_at 53 _ rfl b8 0 rfl (u64s (v8).l) (el_at (upd_row hSW Rb8.out (by simp; exact Nb8.out))) Tryz.underlying53 rfl (by kernel_rfl)) ?_
  (try simp only [Act.put, List.setIfInBounds_toArray, List.set_cons_zero, List.set_cons_succ])
  refine RL.takeV (i := 2) (v := .agg (u64s (v9).l)) rfl (by kernel_rfl) (by kernel_rfl) (by kernel_rfl) (fun _ _ _ h => h) (by rfl) (fun W hSW => run_at 53 _ rfl b9 0 rfl (u64s (v9).l) (el_at (upd_row hSW Rb9.out (by simp; exact Nb9.out))) Tryz.underlying53 rfl (by kernel_rfl)) ?_
  (try simp only [Act.put, List.setIfInBounds_toArray, List.set_cons_zero, List.set_cons_succ])
  refine' RL.takeC (i := 3) (v := .agg (u64s (xa).l)) 24 #[.agg (u64s v8.l), .agg (u64s v9.l)] rfl (by kernel_rfl) (by kernel_rfl) (by kernel_rfl) (fun _ _ _ h => h) (by rfl) ?hk41 ?hc41 ?_
  case hk41 => (intro W; go_simp; try with_reducible rfl)
  case hc41 => (intro W hSW; exact (Cxa.out W).mono (fun e w9 h9 => ⟨h9.1, h9.2, Sp.Upd.trans hSW (Sp.Upd.of_below h9.2) (by simp)⟩))
  (try simp only [Act.put, List.setIfInBounds_toArray, List.set_cons_zero, List.set_cons_succ])
  refine RL.takeV (i := 4) (v := .agg (u64s (v10).l)) rfl (by kernel_rfl) (by kernel_rfl) (by kernel_rfl) (fun _ _ _ h => h) (by rfl) (fun W hSW => run_at 53 _ rfl b10 0 rfl (u64s (v10).l) (el_at (upd_row hSW Rb10.out (by simp; exact Nb10.out))) Tryz.underlying53 rfl (by kernel_rfl)) ?_
  (try simp only [Act.put, List.setIfInBounds_toArray, List.set_cons_zero, List.set_cons_succ])
  refine RL.takeV (i := 5) (v := .agg (u64s (v8).l)) rfl (by kernel_rfl) (by kernel_rfl) (by kernel_rfl) (fun _ _ _ h => h) (by rfl) (fun W hSW => run_at 53 _ rfl b8 0 rfl (u64s (v8).l) (el_at (upd_row hSW Rb8.out (by simp; exact Nb8.out))) Tryz.underlying53 rfl (by kernel_rfl)) ?_
  (try simp only [Act.put, List.setIfInBounds_toArray, List.set_cons_zero, List.set_cons_succ])
  refine' RL.takeC (i := 6) (v := .agg (u64s (m1).l)) 21 #[.int .u64 121665] rfl (by kernel_rfl) (by kernel_rfl) (by kernel_rfl) (fun _ _ _ h => h) (by rfl) ?hk42 ?hc42 ?_
  case hk42 => (intro W; go_simp; try with_reducible rfl)
  case hc42 => (intro W hSW; exact (Cm1.out W).mono (fun e w9 h9 => ⟨h9.1, h9.2, Sp.Upd.trans hSW (Sp.Upd.of_below h9.2) (by simp)⟩))
  (try simp only [Act.put, List.setIfInBounds_toArray, List.set_cons_zero, List.set_cons_succ])
  refine RL.takeV (i := 7) (v := .agg (u64s (v10).l)) rfl (by kernel_rfl) (by kernel_rfl) (by kernel_rfl) (fun _ _ _ h => h) (by rfl) (fun W hSW => run_at 53 _ rfl b10 0 rfl (u64s (v10).l) (el_at (upd_row hSW Rb10.out (by simp; exact Nb10.out))) Tryz.underlying53 rfl (by kernel_rfl)) ?_
  (try simp only [Act.put, List.setIfInBounds_toArray, List.set_cons_zero, List.set_cons_succ])
  refine' RL.takeC (i := 8) (v := .agg (u64s (se).l)) 24 #[.agg (u64s m1.l), .agg (u64s v10.l)] rfl (by kernel_rfl) (by kernel_rfl) (by kernel_rfl) (fun _ _ _ h => h) (by rfl) ?hk43 ?hc43 ?_
  case hk43 => (intro W; go_simp; try with_reducible rfl)
  case hc43 => (intro W hSW; exact (Cse.out W).mono (fun e w9 h9 => ⟨h9.1, h9.2, Sp.Upd.trans hSW (Sp.Upd.of_below h9.2) (by simp)⟩))
  (try simp only [Act.put, List.setIfInBounds_toArray, List.set_cons_zero, List.set_cons_succ])
  refine' RL.takeC (i := 9) (v := .agg (u64s (ae).l)) 40 #[.agg (u64s v8.l), .agg (u64s se.l)] rfl (by kernel_rfl) (by kernel_rfl) (by kernel_rfl) (fun _ _ _ h => h) (by rfl) ?hk44 ?hc44 ?_
  case hk44 => (intro W; go_simp; try with_reducible rfl)
  case hc44 => (intro W hSW; exact (Cae.out W).mono (fun e w9 h9 => ⟨h9.1, h9.2, Sp.Upd.trans hSW (Sp.Upd.of_below h9.2) (by simp)⟩))
  (try simp only [Act.put, List.setIfInBounds_toArray, List.set_cons_zero, List.set_cons_succ])
  refine' RL.takeC (i := 10) (v := .agg (u64s (za).l)) 24 #[.agg (u64s v10.l), .agg (u64s ae.l)] rfl (by kernel_rfl) (by kernel_rfl) (by kernel_rfl) (fun _ _ _ h => h) (by rfl) ?hk45 ?hc45 ?_
  case hk45 => (intro W; go_simp; try with_reducible rfl)
  case hc45 => (intro W hSW; exact (Cza.out W).mono (fun e w9 h9 => ⟨h9.1, h9.2, Sp.Upd.trans hSW (Sp.Upd.of_below h9.2) (by simp)⟩))
  (try simp only [Act.put, List.setIfInBounds_toArray, List.set_cons_zero, List.set_cons_succ])
  refine RL.takeV (i := 11) (v := .agg (u64s ((xa).l ++ (za).l))) rfl (by kernel_rfl) (by kernel_rfl) (by kernel_rfl) (fun _ _ _ h => h) (by rfl) (fun W hSW => run_build_op 57 _ rfl #[(0, .agg (u64s (xa).l)), (1, .agg (u64s (za).l))] (by go_simp) _ (built_pt _ _)) ?_
  (try simp only [Act.put, List.setIfInBounds_toArray, List.set_cons_zero, List.set_cons_succ])
  refine' RL.takeV (i := 12) (v := _) rfl (by kernel_rfl) (by kernel_rfl) (by kernel_rfl) (fun _ _ _ h => h) (by rfl) ?hk46 ?_
  case hk46 => (intro W hSW; go_simp; try with_reducible rfl)
  (try simp only [Act.put, List.setIfInBounds_toArray, List.set_cons_zero, List.set_cons_succ])
  refine RL.stepK (i := 13) rfl (by kernel_rfl) (by rfl) (fun va hlva hsva K hK => ?_)
  refine store_blk_op 57 _ _ rfl pa (u64s ((xa).l ++ (za).l)) (u64s p.l) 57 rfl rfl (row_blk ((RP.out.below (Below.drew (Below.refl _ _)) RP.out.lt).below hlva (by have := RP.out.lt; simpa using this))) (by kernel_rfl) rfl (u64s_one _) ?_
  intro Y hY hgY
  have hsY : Sp.Upd Y6 Y [pa, pb] := Sp.Upd.trans hsva (Sp.Upd.of_grown1 hgY) (fun k hk => .inl (by simp at hk; simp [hk]))
  have hother := row_other ((RQ.out.below (Below.drew (Below.refl _ _)) RQ.out.lt).below hlva (by have := RQ.out.lt; simpa using this)) hgY HNE.out
  refine hK.out _ _ hsY ?_
  clear hK
  (try simp only [Act.put, List.setIfInBounds_toArray, List.set_cons_zero, List.set_cons_succ])
  refine RL.done (by kernel_rfl) (fun Y7 hlY7 hsY7 => ?_)
  have RP := Lib.hid (show Row Y7 pa 57 (P.mk (xa) (za)).l from Row.below hY hlY7 hY.lt)
  have RQ := Lib.hid (Row.below hother hlY7 hother.lt)
  have HV := Lib.hid hsY7
  clear hother hsY hY hgY hlva hsva hlY7 hsY7
  go_wp2_with fail
  go_end0
  exact ⟨⟨_, rfl⟩, RP.out, RQ.out, Sp.Upd.trans HU1.out HV.out (fun k hk => .inl hk)⟩
end Go.Proofs.YtfaeigbfnjkojaaGreatDoor.Kx
namespace Go.Proofs.YtfaeigbfnjkojaaGreatDoor.Kx
open Go.RowKit Go.Proofs.YtfaeigbfnjkojaaGreatDoor.Cl
/-- a scalar's bytes, as Mult takes them -/
def clampB (l : List UInt8) : List UInt8 :=
  let m := l.set 0 (l.getD 0 0 &&& 248)
  m.set 31 (m.getD 31 0 &&& 63 ||| 64)
theorem clampB_len (l : List UInt8) : (clampB l).length = l.length := by unfold clampB; simp
/-- what Mult makes of a scalar and a point -/
def mulK (k p : List UInt8) : E := finK (lad ((clampB k).map UInt8.toNat) (ofB p) 255)
theorem andNot7 (x : UInt8) : bits .andNot .u8 (x.toNat : Int) 7 = ((x &&& 248).toNat : Int) := by
  have h := u8_andNot_nat x.toNat 7 x.toNat_lt (by decide)
  rw [show ((7 : Nat) : Int) = 7 from rfl] at h
  rw [h, UInt8.toNat_and]; rfl
theorem and63 (x : UInt8) : bits .and .u8 (x.toNat : Int) 63 = ((x &&& 63).toNat : Int) := by
  have h := u8_and_nat x.toNat 63 x.toNat_lt (by decide)
  rw [show ((63 : Nat) : Int) = 63 from rfl] at h
  rw [h, UInt8.toNat_and]; rfl
theorem or64 (x : UInt8) : bits .or .u8 (x.toNat : Int) 64 = ((x ||| 64).toNat : Int) := by
  have h := u8_or_nat x.toNat 64 x.toNat_lt (by decide)
  rw [show ((64 : Nat) : Int) = 64 from rfl] at h
  rw [h, UInt8.toNat_or]; rfl
def P.z1 : P := ⟨small 1, ⟨0, 0, 0, 0, 0⟩⟩
theorem lad_zero (ks : List Nat) (x : E) : lad ks x 0 = ⟨⟨small 1, ⟨0, 0, 0, 0, 0⟩⟩, ⟨x, small 1⟩, false⟩ := rfl
theorem lad_succ (ks : List Nat) (x : E) (k : Nat) (s : St) (hs : lad ks x k = s) (is : Bool) (hi : bitK ks (254 - k) = is) :
    lad ks x (k + 1) = ⟨(stepP x (if (is != s.was) = true then s.b else s.a) (if (is != s.was) = true then s.a else s.b)).1, (stepP x (if (is != s.was) = true then s.b else s.a) (if (is != s.was) = true then s.a else s.b)).2, is⟩ := by
  subst hs hi
  rw [lad]
  cases lad ks x k with
  | mk a b was =>
  cases h1 : bitK ks (254 - k) <;> cases was <;> simp
theorem sq_ok (x : E) : (sq x).ok := mul_ok x x
theorem bit_is (cl : List UInt8) (m : Nat) (h : m / 8 < cl.length) : bitK (cl.map UInt8.toNat) m = ((((cl.getD (m / 8) 0).toNat / 2 ^ (m % 8) % 2 : Nat) : Int) == 1) := by
  unfold bitK
  have e : (cl.map UInt8.toNat).getD (m / 8) 0 = (cl.getD (m / 8) 0).toNat := by
    rw [List.getD_eq_getElem?_getD, List.getD_eq_getElem?_getD, List.getElem?_map, List.getElem?_eq_getElem h]; rfl
  rw [e]
  generalize (cl.getD (m / 8) 0).toNat / 2 ^ (m % 8) % 2 = z
  rw [Bool.eq_iff_iff, beq_iff_eq, beq_iff_eq]
  omega
def St.ok (s : St) : Prop := s.a.ok ∧ s.b.ok
theorem stepP_ok (x : E) (p q : P) : (stepP x p q).1.ok ∧ (stepP x p q).2.ok := by
  simp only [stepP, P.ok]
  exact ⟨⟨mul_ok _ _, mul_ok _ _⟩, ⟨sq_ok _, mul_ok _ _⟩⟩
theorem lad_ok (ks : List Nat) (x : E) (hx : x.ok) : ∀ k, (lad ks x k).ok
  | 0 => ⟨⟨small_ok 1 (by decide), E.ok5 (by decide) (by decide) (by decide) (by decide) (by decide)⟩, ⟨hx, small_ok 1 (by decide)⟩⟩
  | k + 1 => by
    rw [lad_succ ks x k _ rfl _ rfl]
    exact stepP_ok _ _ _
theorem results_cell_slot {P : Program} {fn : Func} {p q : Tmp} {ty : TypeId} (h : fn.results = #[.cell p ty, .tmp q]) (tmps : Array Value) (w : World) (g : Nat) (t : TypeId) (cs : Array Value) (fr : Nat × Nat) (d : TypeDesc) (v : Value)
    (hp : tmps.getD p undef = .pointer (some ⟨g, 0, none⟩)) (hv : tmps.getD q undef = v) (hg : w.heap[g]? = some (.cells cs t fr))
    (hu : P.underlying ty = some d) (hd : (match d with | .struct _ | .array _ _ => true | _ => false) = true) (hi : (P.info? ty).map (·.size) = some cs.size) :
    (results fn tmps).run P w = .ok (.tuple #[.agg cs, v]) w := by
  have hp' : tmps[p]?.getD undef = .pointer (some ⟨g, 0, none⟩) := by simpa using hp
  have hv' : tmps[q]?.getD undef = v := by simpa using hv
  simp [results, h, hp', hv', asAddr, run_loadVar_row w g t ty cs fr d hg hu hd hi]
theorem below_upd {B : Nat} {w X Y : World} {s : List Nat} (h : Below B w X) (hu : Sp.Upd X Y s) (hs : ∀ k ∈ s, B ≤ k) (hB : B ≤ X.heap.size) : Below B w Y :=
  h.trans ⟨hu.os, hu.tape, hu.output, hu.size, fun k hk => hu.block k (by omega) (fun hm => by have := hs k hm; omega)⟩
theorem upd_blk {X W : World} {s : List Nat} {b T : Nat} {cs : Array Value} (h : Sp.Upd X W s) (hr : Rg.Blk X b T cs) (hb : b ∉ s) : Rg.Blk W b T cs := by
  have hl := hr.lt
  unfold Rg.Blk at *
  rw [h.block b hl hb]; exact hr
theorem aft_blk {X W : World} {b T : Nat} {cs : Array Value} (h : RL.Aft X W) (hr : Rg.Blk X b T cs) : Rg.Blk W b T cs := hr.below h hr.lt
set_option maxRecDepth 20000 in
set_option maxHeartbeats 2000000 in
theorem Mult_any (w : World) (k p : List UInt8) (hk : k.length = 32) (hp : p.length = 32) :
    Calls Tryz.prog 9 #[.agg (Cv.bytesV k), .agg (Cv.bytesV p)] w fun e w' => e = .returned (.tuple #[.agg (Cv.bytesV (bytesE (mulK k p))), .bool (!zero (mulK k p))]) ∧ Below w.heap.size w w' := by
  obtain ⟨x, ex⟩ : ∃ x, ofB p = x := ⟨_, rfl⟩
  have HOX := Lib.hid (show x.ok from ex ▸ ofB_ok p)
  have HCO := Lib.hid (fun W => show Calls Tryz.prog 20 #[.string ⟨p.toArray⟩] W fun e w' => e = .returned (.agg (u64s x.l)) ∧ Below W.heap.size W w' from ex ▸ Of_any W ⟨p.toArray⟩ (by show p.toArray.size = 32; simp [hp]))
  obtain ⟨k0, hk0⟩ : ∃ v, k.getD 0 0 = v := ⟨_, rfl⟩
  obtain ⟨k1, hk1⟩ : ∃ v, k0 &&& 248 = v := ⟨_, rfl⟩
  obtain ⟨j0, hj0⟩ : ∃ v, (k.set 0 k1).getD 31 0 = v := ⟨_, rfl⟩
  obtain ⟨j1, hj1⟩ : ∃ v, j0 &&& 63 = v := ⟨_, rfl⟩
  obtain ⟨j2, hj2⟩ : ∃ v, j1 ||| 64 = v := ⟨_, rfl⟩
  have EK := Lib.hid (show bits .andNot .u8 (k0.toNat : Int) 7 = (k1.toNat : Int) from hk1 ▸ andNot7 k0)
  have EJ := Lib.hid (show bits .and .u8 (j0.toNat : Int) 63 = (j1.toNat : Int) from hj1 ▸ and63 j0)
  have EJ2 := Lib.hid (show bits .or .u8 (j1.toNat : Int) 64 = (j2.toNat : Int) from hj2 ▸ or64 j1)
  have HCK := Lib.hid (show (Cv.bytesV k)[0]? = some (.int .u8 (k0.toNat : Int)) from Cv.bytesV_get _ _ _ (by rw [← hk0, List.getD_eq_getElem?_getD, List.getElem?_eq_getElem (by omega)]; rfl))
  have HCJ := Lib.hid (show (Cv.bytesV (k.set 0 k1))[31]? = some (.int .u8 (j0.toNat : Int)) from Cv.bytesV_get _ _ _ (by rw [← hj0, List.getD_eq_getElem?_getD, List.getElem?_eq_getElem (by rw [List.length_set]; omega)]; rfl))
  have HLEN := Lib.hid (show ∀ v, (k.set 0 v).length = 32 from fun v => by rw [List.length_set, hk])
  have HLEN0 := Lib.hid hk
  obtain ⟨cl, hcl⟩ : ∃ c, (k.set 0 k1).set 31 j2 = c := ⟨_, rfl⟩
  have HCL := Lib.hid hcl
  have HCLL := Lib.hid (show cl.length = 32 from by rw [← hcl, List.length_set, List.length_set, hk])
  have HRES := Lib.hid (show mulK k p = finK (lad (cl.map UInt8.toNat) x 255) from by rw [mulK, ex, ← hcl, ← hj2, ← hj1, ← hj0, ← hk1, ← hk0]; rfl)
  have HPS := Lib.hid (show (Cv.bytesV p).size = 32 by rw [Cv.bytesV_size, hp])
  have HKS := Lib.hid (show (Cv.bytesV k).size = 32 by rw [Cv.bytesV_size, hk])
  have HPL := Lib.hid hp
  clear ex hk0 hk1 hj0 hj1 hj2 hcl hp hk
  go_enter Tryz.func9, Tryz.ntmps9
  have tok1 := True.intro
  go_upto_region 1 with (first
    | (have _t := tok1; (with_reducible refine gate_ ?_); refine Rg.box_fresh rfl 22 _ rfl (Cv.bytesV k) rfl ?_; intro X hX hbX hnX; have HX := Lib.hid hX; have HBX := Lib.hid hbX; have HNX := Lib.hid hnX; clear hX hbX hnX; have tok2 := True.intro; clear _t tok1)
    | (have _t := tok2; (with_reducible refine gate_ ?_); refine Rg.box_fresh rfl 22 _ rfl (Cv.bytesV p) rfl ?_; intro X2 hX hbX hnX; have HX2 := Lib.hid hX; have HBX2 := Lib.hid hbX; have HNX2 := Lib.hid hnX; clear hX hbX hnX; clear _t tok2))
  obtain ⟨kb, hkb⟩ : ∃ n, w.heap.size = n := ⟨_, rfl⟩
  obtain ⟨pp, hpp⟩ : ∃ n, X.heap.size = n := ⟨_, rfl⟩
  obtain ⟨rb, hrb⟩ : ∃ n, X2.heap.size = n := ⟨_, rfl⟩
  rw [← zero32]
  have HK := Lib.hid (show Rg.Blk (X2.alloc (.cells (Cv.bytesV (toLe 32 (0 % 2 ^ 0))) 22)) kb 22 (Cv.bytesV k) from ((hkb ▸ HX.out).below HBX2.out (by rw [← hkb]; exact HX.out.lt)).alloc _)
  have HPp := Lib.hid (show Rg.Blk (X2.alloc (.cells (Cv.bytesV (toLe 32 (0 % 2 ^ 0))) 22)) pp 22 (Cv.bytesV p) from (hpp ▸ HX2.out).alloc _)
  have HZ := Lib.hid (show Rg.Blk (X2.alloc (.cells (Cv.bytesV (toLe 32 (0 % 2 ^ 0))) 22)) rb 22 (Cv.bytesV (toLe 32 (0 % 2 ^ 0))) from Rg.Blk.newAt hrb.symm _ _)
  have HB := Lib.hid (show Below kb w (X2.alloc (.cells (Cv.bytesV (toLe 32 (0 % 2 ^ 0))) 22)) from hkb ▸ (HBX.out.trans (HBX2.out.mono HBX.out.size)).alloc (Nat.le_trans HBX.out.size HBX2.out.size) _)
  have HN := Lib.hid (show kb ≠ pp ∧ kb ≠ rb ∧ pp ≠ rb ∧ kb ≤ pp ∧ kb ≤ rb from by have h1 := HNX.out; have h2 := HNX2.out; refine ⟨?_, ?_, ?_, ?_, ?_⟩ <;> omega)
  have HKB := Lib.hid hkb
  try rw [hkb]
  try rw [hpp]
  try rw [hrb]
  generalize X2.alloc (.cells (Cv.bytesV (toLe 32 (0 % 2 ^ 0))) 22) = Y at *
  clear HX HBX HNX HX2 HBX2 HNX2 hkb hpp hrb
  have c0 := HK.out.cell 0 HCK.out
  have ek := EK.out
  go_upto_region 2 with ((with_reducible refine gate_ ?_); refine Cv.store_byte rfl 5 _ _ rfl (b := kb) (j := 0) (l := k) (v := k1) rfl rfl Tryz.underlying5 (by kernel_rfl) HK.out (by rw [HLEN0.out]; decide) ?_; intro Y1 hV hgV; have HVY1 := Lib.hid hV; have HGY1 := Lib.hid hgV; clear hV hgV)
  have HB := Lib.hid (HB.out.grown HGY1.out (HB.out.size_le HKB.out) (fun j e => by cases e; exact Nat.le_refl _))
  have HPp := Lib.hid (blk_other HPp.out HGY1.out HN.out.1)
  have HZ := Lib.hid (blk_other HZ.out HGY1.out HN.out.2.1)
  clear c0 ek HK
  have c1 := HVY1.out.cell 31 HCJ.out
  have ek := EJ.out
  have ek2 := EJ2.out
  go_upto_region 3 with ((with_reducible refine gate_ ?_); refine Cv.store_byte rfl 5 _ _ rfl (b := kb) (j := 31) (l := k.set 0 k1) (v := j2) rfl rfl Tryz.underlying5 (by kernel_rfl) HVY1.out (by rw [HLEN.out]; decide) ?_; intro Y2 hV hgV; have HVY2 := Lib.hid hV; have HGY2 := Lib.hid hgV; clear hV hgV)
  have HB := Lib.hid (HB.out.grown HGY2.out (HB.out.size_le HKB.out) (fun j e => by cases e; exact Nat.le_refl _))
  have HPp := Lib.hid (blk_other HPp.out HGY2.out HN.out.1)
  have HZ := Lib.hid (blk_other HZ.out HGY2.out HN.out.2.1)
  have HK := Lib.hid (show Rg.Blk Y2 kb 22 (Cv.bytesV cl) from by rw [← HCL.out]; exact HVY2.out)
  clear c1 ek ek2 HVY1 HVY2 HGY1 HGY2 EK EJ EJ2 HCK HCJ HCL
  go_upto_region 4 with (first
    | ((with_reducible refine gate_ ?_); refine Cv.conv_string rfl 36 5 9 _ rfl Tryz.underlying36 Tryz.underlying5 Tryz.underlying9 pp 0 32 32 p rfl HPL.out (Cv.Bytes.of_blk HPp.out) ?_; skip)
    | (go_at_call 20; refine (HCO.out _).mono ?_; rintro e w9 ⟨rfl, hb9⟩; skip; have HB9 := Lib.hid hb9; clear hb9)
    | (refine Rg.store_fresh rfl 53 _ _ rfl (u64s x.l) _ 53 rfl rfl (by rw [u64s_size]; kernel_rfl) rfl (u64s_one _) ?_; intro Y3 hX hbX; have HX3 := Lib.hid hX; have HA := Lib.hid (show RL.Aft Y2 Y3 from Below.trans HB9.out (Below.mono hbX HB9.out.size)); clear hX hbX))
  obtain ⟨b6, hb6⟩ : ∃ n, w9.heap.size = n := ⟨_, rfl⟩
  have Hb6 := Lib.hid (show kb ≤ b6 ∧ rb < b6 from by have h1 := HB9.out.size; have h2 := HB.out.size_le HKB.out; have h3 := HZ.out.lt; omega)
  have Rb6 := Lib.hid (show Row Y3 b6 53 x.l from hb6 ▸ HX3.out)
  try rw [hb6]
  clear hb6 HX3 HB9 HPp
  have HK := Lib.hid (aft_blk HA.out HK.out)
  have HZ := Lib.hid (aft_blk HA.out HZ.out)
  have HB := Lib.hid (Below.trans HB.out (Below.mono HA.out (HB.out.size_le HKB.out)))
  clear HA
  obtain ⟨m1, em1⟩ : ∃ y, small 1 = y := ⟨_, rfl⟩
  have Cm1 := Lib.hid (fun W => show Calls Tryz.prog 21 #[.int .u64 1] W fun e w' => e = .returned (.agg (u64s m1.l)) ∧ Below W.heap.size W w' from em1 ▸ Small_any W 1 (by decide))
  have EM1 := Lib.hid em1
  clear em1
  go_upto_region 4 with fail
  refine RL.start (RL.Aft Y3) (by kernel_rfl) (RL.Aft.drew (RL.Aft.refl Y3)) ?_
  refine' RL.takeC (i := 0) (v := .agg (u64s (m1).l)) 21 #[.int .u64 1] rfl (by kernel_rfl) (by kernel_rfl) (by kernel_rfl) (fun _ _ _ h => h) (by rfl) ?hk1 ?hc1 ?_
  case hk1 => (intro W; go_simp; try with_reducible rfl)
  case hc1 => (intro W hSW; exact (Cm1.out W).mono (fun e w9 h9 => ⟨h9.1, h9.2, RL.Aft.lat hSW h9.2⟩))
  (try simp only [Act.put, List.setIfInBounds_toArray, List.set_cons_zero, List.set_cons_succ])
  refine RL.takeV (i := 1) (v := .agg (u64s (E.mk 0 0 0 0 0).l)) rfl (by kernel_rfl) (by kernel_rfl) (by kernel_rfl) (fun _ _ _ h => h) (by rfl) (fun W hSW => by go_simp; rfl) ?_
  (try simp only [Act.put, List.setIfInBounds_toArray, List.set_cons_zero, List.set_cons_succ])
  refine RL.takeV (i := 2) (v := .agg (u64s ((m1).l ++ ((E.mk 0 0 0 0 0)).l))) rfl (by kernel_rfl) (by kernel_rfl) (by kernel_rfl) (fun _ _ _ h => h) (by rfl) (fun W hSW => run_build_op 57 _ rfl #[(0, .agg (u64s (m1).l)), (1, .agg (u64s ((E.mk 0 0 0 0 0)).l))] (by go_simp) _ (built_pt _ _)) ?_
  (try simp only [Act.put, List.setIfInBounds_toArray, List.set_cons_zero, List.set_cons_succ])
  refine RL.takeV (i := 3) (v := .agg (u64s (x).l)) rfl (by kernel_rfl) (by kernel_rfl) (by kernel_rfl) (fun _ _ _ h => h) (by rfl) (fun W hSW => run_at 53 _ rfl b6 0 rfl (u64s (x).l) (el_at (aft_row hSW Rb6.out)) Tryz.underlying53 rfl (by kernel_rfl)) ?_
  (try simp only [Act.put, List.setIfInBounds_toArray, List.set_cons_zero, List.set_cons_succ])
  refine' RL.takeC (i := 4) (v := .agg (u64s (m1).l)) 21 #[.int .u64 1] rfl (by kernel_rfl) (by kernel_rfl) (by kernel_rfl) (fun _ _ _ h => h) (by rfl) ?hk2 ?hc2 ?_
  case hk2 => (intro W; go_simp; try with_reducible rfl)
  case hc2 => (intro W hSW; exact (Cm1.out W).mono (fun e w9 h9 => ⟨h9.1, h9.2, RL.Aft.lat hSW h9.2⟩))
  (try simp only [Act.put, List.setIfInBounds_toArray, List.set_cons_zero, List.set_cons_succ])
  refine RL.takeV (i := 5) (v := .agg (u64s ((x).l ++ (m1).l))) rfl (by kernel_rfl) (by kernel_rfl) (by kernel_rfl) (fun _ _ _ h => h) (by rfl) (fun W hSW => run_build_op 57 _ rfl #[(0, .agg (u64s (x).l)), (1, .agg (u64s (m1).l))] (by go_simp) _ (built_pt _ _)) ?_
  (try simp only [Act.put, List.setIfInBounds_toArray, List.set_cons_zero, List.set_cons_succ])
  refine RL.alloc2 (i := 6) (j := 7) 57 57 (#[.int .u64 0, .int .u64 0, .int .u64 0, .int .u64 0, .int .u64 0, .int .u64 0, .int .u64 0, .int .u64 0, .int .u64 0, .int .u64 0] : Array Value) (#[.int .u64 0, .int .u64 0, .int .u64 0, .int .u64 0, .int .u64 0, .int .u64 0, .int .u64 0, .int .u64 0, .int .u64 0, .int .u64 0] : Array Value) rfl rfl (by kernel_rfl) (by kernel_rfl) (by kernel_rfl) (by decide) (by decide) (fun _ => rfl) (fun _ => rfl) (fun _ _ => by go_simp; try rfl) (fun _ _ => by go_simp; try rfl) (fun _ _ h => RL.Aft.alloc h _) ?_
  intro b7 b8 wv hlwv hswv hnewv hz1wv hz2wv hB1 hB2
  have HNEwv := Lib.hid hnewv
  have Hb7 := Lib.hid (show Y3.heap.size ≤ b7 from by simpa using hz1wv)
  have Hb8 := Lib.hid (show Y3.heap.size ≤ b8 from by simpa using hz2wv)
  clear hnewv hz1wv hz2wv hlwv
  (try simp only [Act.put, List.setIfInBounds_toArray, List.set_cons_zero, List.set_cons_succ])
  refine RL.stepK (i := 8) rfl (by kernel_rfl) (by rfl) (fun va hlva hsva K hK => ?_)
  have hA := hB1.below hlva hB1.lt
  have hB := hB2.below hlva hB2.lt
  refine store_blk_op 57 _ _ rfl b7 (u64s (P.mk m1 ⟨0, 0, 0, 0, 0⟩).l) (#[.int .u64 0, .int .u64 0, .int .u64 0, .int .u64 0, .int .u64 0, .int .u64 0, .int .u64 0, .int .u64 0, .int .u64 0, .int .u64 0] : Array Value) 57 rfl rfl hA (by kernel_rfl) rfl (u64s_one _) ?_
  intro Y hY hgY
  have hB := blk_other hB hgY HNEwv.out
  refine hK.out _ _ (Below.grown hsva hgY (Below.size hsva) (fun k hk => by cases hk; exact Hb7.out)) ?_
  clear hK
  (try simp only [Act.put, List.setIfInBounds_toArray, List.set_cons_zero, List.set_cons_succ])
  refine RL.stepK (i := 9) rfl (by kernel_rfl) (by rfl) (fun vb hlvb hsvb K hK => ?_)
  refine store_blk_op 57 _ _ rfl b8 (u64s (P.mk x m1).l) (#[.int .u64 0, .int .u64 0, .int .u64 0, .int .u64 0, .int .u64 0, .int .u64 0, .int .u64 0, .int .u64 0, .int .u64 0, .int .u64 0] : Array Value) 57 rfl rfl (hB.below hlvb hB.lt) (by kernel_rfl) rfl (u64s_one _) ?_
  intro Y2 hY2 hgY2
  have hY := blk_other (hY.below hlvb hY.lt) hgY2 (fun e => HNEwv.out e.symm)
  refine hK.out _ _ (Below.grown hsvb hgY2 (Below.size hsvb) (fun k hk => by cases hk; exact Hb8.out)) ?_
  clear hK
  (try simp only [Act.put, List.setIfInBounds_toArray, List.set_cons_zero, List.set_cons_succ])
  refine RL.done (by kernel_rfl) (fun Y4 hlY4 hsY4 => ?_)
  have HA := Lib.hid (show RL.Aft Y3 Y4 from hsY4)
  have Rb7 := Lib.hid (show Row Y4 b7 57 (P.mk m1 ⟨0, 0, 0, 0, 0⟩).l from hY.below hlY4 hY.lt)
  have Rb8 := Lib.hid (show Row Y4 b8 57 (P.mk x m1).l from hY2.below hlY4 hY2.lt)
  clear hsY4 hlY4 hY hgY hsva hlva hsvb hlvb hB hA hY2 hgY2 hB1 hB2
  have N7 := Lib.hid (show b7 ≠ b8 ∧ b7 ≠ b6 ∧ b8 ≠ b6 ∧ b7 ≠ kb ∧ b8 ≠ kb ∧ b7 ≠ rb ∧ b8 ≠ rb ∧ kb ≤ b7 ∧ kb ≤ b8 from by
    have h1 := Hb7.out; have h2 := Hb8.out; have h3 := HK.out.lt; have h4 := HZ.out.lt; have h5 := Rb6.out.lt; have h6 := HNEwv.out; have h7 := HB.out.size_le HKB.out
    refine ⟨h6, ?_, ?_, ?_, ?_, ?_, ?_, ?_, ?_⟩ <;> omega)
  have HK := Lib.hid (aft_blk HA.out HK.out)
  have HZ := Lib.hid (aft_blk HA.out HZ.out)
  have Rb6 := Lib.hid (aft_row HA.out Rb6.out)
  have HB := Lib.hid (Below.trans HB.out (Below.mono HA.out (HB.out.size_le HKB.out)))
  clear HA Hb7 Hb8 Hb6 HNEwv
  obtain ⟨ks, eks⟩ : ∃ l, cl.map UInt8.toNat = l := ⟨_, rfl⟩
  rw [eks] at HRES
  have HKS := Lib.hid eks
  clear eks
  have Rb7 := Lib.hid (show Row Y4 b7 57 (lad ks x 0).a.l from by rw [lad_zero, EM1.out]; exact Rb7.out)
  have Rb8 := Lib.hid (show Row Y4 b8 57 (lad ks x 0).b.l from by rw [lad_zero, EM1.out]; exact Rb8.out)
  go_upto_region 7 with fail
  clear hY hswv
  go_loopw [9, 10] (fun ww i wr => ∃ k : Nat, k ≤ 255 ∧ i = .int .i64 (254 - (k : Int)) ∧ ww = .bool (lad ks x k).was ∧ Row wr b7 57 (lad ks x k).a.l ∧ Row wr b8 57 (lad ks x k).b.l ∧ Row wr b6 53 x.l ∧ Rg.Blk wr kb 22 (Cv.bytesV cl) ∧ Rg.Blk wr rb 22 (Cv.bytesV (toLe 32 (0 % 2 ^ 0))) ∧ Below kb w wr) (fun _ i _ => (intOf i + 1).toNat)
  case atStart => exact ⟨0, Nat.zero_le _, rfl, rfl, Rb7.out, Rb8.out, Rb6.out, HK.out, HZ.out, HB.out⟩
  case round =>
    obtain ⟨k, hk, rfl, rfl, ha, hb, hx, hkk, hz, hbb⟩ := hrel
    clear Rb7 Rb8 Rb6 HK HZ HB
    have Rb7 := Lib.hid ha
    have Rb8 := Lib.hid hb
    have Rb6 := Lib.hid hx
    have HK := Lib.hid hkk
    have HZ := Lib.hid hz
    have HB := Lib.hid hbb
    clear ha hb hx hkk hz hbb
    have HSO := Lib.hid (lad_ok ks x HOX.out k)
    have HSU := Lib.hid (lad_succ ks x k)
    by_cases hk5 : k < 255
    · obtain ⟨m, hm⟩ : ∃ m, 254 - k = m := ⟨_, rfl⟩
      have hmz : (254 : Int) - (k : Int) = (m : Int) := by omega
      obtain ⟨st, hst⟩ : ∃ s, lad ks x k = s := ⟨_, rfl⟩
      have HSU := Lib.hid (HSU.out st hst)
      rw [hst] at Rb7 Rb8 HSO
      rw [hst, hmz]
      have HM := Lib.hid (show k + 1 ≤ 255 ∧ (m : Int) - 1 = 254 - ((k + 1 : Nat) : Int) from by omega)
      rw [hm] at HSU
      have HMZ := Lib.hid hmz
      clear hst hmz
      have hd : decide ((0 : Int) ≤ (m : Int)) = true := by simp
      have hm0 : (0 : Int) ≤ (m : Int) := by omega
      obtain ⟨q, hq⟩ : ∃ q, m / 8 = q := ⟨_, rfl⟩
      obtain ⟨r, hr⟩ : ∃ r, m % 8 = r := ⟨_, rfl⟩
      have hq32 : q < 32 := by omega
      have hq0 : (0 : Int) ≤ (q : Int) := by omega
      have hqz : (q : Int) < 32 := by omega
      have hr0 : (0 : Int) ≤ (r : Int) := by omega
      have hr64 : min r 8 = r := by omega
      have eq1 : IntKind.i64.wrap ((m : Int) / 8) = (q : Int) := by rw [show (m : Int) / 8 = (q : Int) by omega]; exact wrapI (by omega)
      have er : (m : Int).tmod 8 = (r : Int) := by rw [Int.tmod_eq_emod_of_nonneg (by omega)]; omega
      obtain ⟨b, hb⟩ : ∃ b : UInt8, cl.getD q 0 = b := ⟨_, rfl⟩
      have cb := HK.out.cell q (Cv.bytesV_get cl q b (by rw [← hb, List.getD_eq_getElem?_getD, List.getElem?_eq_getElem (by rw [HCLL.out]; exact hq32)]; rfl))
      obtain ⟨bn, hbn⟩ : ∃ n, b.toNat = n := ⟨_, rfl⟩
      have hb256 : bn < 256 := by rw [← hbn]; exact b.toNat_lt
      rw [hbn] at cb
      obtain ⟨c, hc⟩ : ∃ c, bn / 2 ^ r = c := ⟨_, rfl⟩
      have hc256 : c < 256 := by rw [← hc]; exact Nat.lt_of_le_of_lt (Nat.div_le_self _ _) hb256
      have esr : (bn : Int) / 2 ^ r = (c : Int) := by rw [← hc]; simp
      obtain ⟨d, hd2⟩ : ∃ d, c % 2 = d := ⟨_, rfl⟩
      have ean : bits .and .u8 (c : Int) 1 = (d : Int) := by rw [← hd2, ← Nat.and_one_is_mod]; exact u8_and_nat c 1 hc256 (by decide)
      obtain ⟨is, his⟩ : ∃ t, ((d : Int) == 1) = t := ⟨_, rfl⟩
      have HBI := Lib.hid (show bitK ks m = is from by
        rw [← his, ← hd2, ← hc, ← hbn, ← hb, ← hq, ← hr, ← HKS.out]
        exact bit_is cl m (by rw [HCLL.out]; omega))
      have HSU := Lib.hid (HSU.out is HBI.out)
      obtain ⟨st2, hst2⟩ : ∃ s, lad ks x (k + 1) = s := ⟨_, rfl⟩
      rw [hst2] at HSU
      have HST2 := Lib.hid hst2
      clear hst2 hb hbn hb256 hc hc256 hd2 hq hr hq32
      go_upto_region 10 with fail
      clear cb esr ean eq1 er hr64 hqz hq0 hr0
      go_upto_region 11 with (go_at_call 22; refine (swap_any _ _ b7 b8 st.a st.b Rb7.out Rb8.out N7.out.1).mono ?_; rintro e W1 ⟨⟨v1, rfl⟩, ha, hb, hu⟩; skip; have Ra := Lib.hid ha; have Rb := Lib.hid hb; have HU1 := Lib.hid hu; clear ha hb hu)
      clear hd
      have HB1 := Lib.hid (below_upd HB.out HU1.out (by intro z hz; have := N7.out; simp at hz; omega) (HB.out.size_le HKB.out))
      have Rb6 := Lib.hid (upd_row HU1.out Rb6.out (by have := N7.out; simp; omega))
      have HK := Lib.hid (upd_blk HU1.out HK.out (by have := N7.out; simp; omega))
      have HZ := Lib.hid (upd_blk HU1.out HZ.out (by have := N7.out; simp; omega))
      have HSU := Lib.hid (show lad ks x (k + 1) = ⟨(stepP x (if (!is == st.was) = true then st.b else st.a) (if (!is == st.was) = true then st.a else st.b)).1, (stepP x (if (!is == st.was) = true then st.b else st.a) (if (!is == st.was) = true then st.a else st.b)).2, is⟩ from HST2.out.trans HSU.out)
      obtain ⟨fa, hfa⟩ : ∃ z : P, (if (!is == st.was) = true then st.b else st.a) = z := ⟨_, rfl⟩
      obtain ⟨fb, hfb⟩ : ∃ z : P, (if (!is == st.was) = true then st.a else st.b) = z := ⟨_, rfl⟩
      rw [hfa] at Ra HSU
      rw [hfb] at Rb HSU
      clear hfa hfb Rb7 Rb8 HB HU1 HST2 HBI
      go_wp2_with (first
        | ((with_reducible refine gate_ ?_); refine Cv.load_cells rfl 53 _ rfl b6 0 rfl (u64s x.l) _ (fun j v hv => by rw [Nat.zero_add]; exact Rg.Blk.cell (row_blk Rb6.out) j hv) Tryz.underlying53 rfl (by rw [u64s_size]; kernel_rfl) ?_; skip)
        | (go_at_call 23; refine (step_any _ x HOX.out b7 b8 fa fb Ra.out Rb.out N7.out.1).mono ?_; rintro e W2 ⟨⟨v2, rfl⟩, ha, hb, hu⟩; skip; have Ra2 := Lib.hid ha; have Rb2 := Lib.hid hb; have HU2 := Lib.hid hu; clear ha hb hu))
      have HB2 := Lib.hid (below_upd HB1.out HU2.out (by intro z hz; have := N7.out; simp at hz; omega) (HB1.out.size_le HKB.out))
      have Rb6 := Lib.hid (upd_row HU2.out Rb6.out (by have := N7.out; simp; omega))
      have HK := Lib.hid (upd_blk HU2.out HK.out (by have := N7.out; simp; omega))
      have HZ := Lib.hid (upd_blk HU2.out HZ.out (by have := N7.out; simp; omega))
      go_roundw
      case rel =>
        have REL := Lib.hid (show ∃ k' : Nat, k' ≤ 255 ∧ Value.int .i64 ((m : Int) - 1) = .int .i64 (254 - (k' : Int)) ∧ Value.bool is = .bool (lad ks x k').was ∧ Row W2 b7 57 (lad ks x k').a.l ∧ Row W2 b8 57 (lad ks x k').b.l ∧ Row W2 b6 53 x.l ∧ Rg.Blk W2 kb 22 (Cv.bytesV cl) ∧ Rg.Blk W2 rb 22 (Cv.bytesV (toLe 32 (0 % 2 ^ 0))) ∧ Below kb w W2 from ⟨k + 1, HM.out.1, congrArg _ HM.out.2, by rw [HSU.out], by rw [HSU.out]; exact Ra2.out, by rw [HSU.out]; exact Rb2.out, Rb6.out, HK.out, HZ.out, HB2.out⟩)
        first
          | exact REL.out
          | ((repeat apply Exists.intro); refine ⟨?_, rfl⟩; exact REL.out)
      case measure => (first | (simp [intOf]; done) | (simp [intOf]; omega))
    · obtain rfl : k = 255 := by omega
      clear HSU
      obtain ⟨st, hst⟩ : ∃ s, lad ks x 255 = s := ⟨_, rfl⟩
      rw [hst] at Rb7 Rb8 HSO HRES
      rw [hst]
      clear hst
      obtain ⟨g, hg⟩ : ∃ z : P, (if st.was = true then st.b else st.a) = z := ⟨_, rfl⟩
      have HGO := Lib.hid (show g.ok from by rw [← hg]; cases st.was; exact HSO.out.1; exact HSO.out.2)
      obtain ⟨iz, eiz⟩ : ∃ z, inv g.z = z := ⟨_, rfl⟩
      obtain ⟨o, eo⟩ : ∃ z, mul g.x iz = z := ⟨_, rfl⟩
      have HRES2 := Lib.hid (show finK st = o from by unfold finK; rw [hg, ← eo, ← eiz])
      have Ciz := Lib.hid (fun W => show Calls Tryz.prog 25 #[.agg (u64s g.z.l)] W fun e w' => e = .returned (.agg (u64s iz.l)) ∧ Below W.heap.size W w' from eiz ▸ Invert_any W g.z HGO.out.2)
      have Co := Lib.hid (fun W => show Calls Tryz.prog 24 #[.agg (u64s g.x.l), .agg (u64s iz.l)] W fun e w' => e = .returned (.agg (u64s o.l)) ∧ Below W.heap.size W w' from eo ▸ Mul_any W g.x iz HGO.out.1 (eiz ▸ inv_ok _))
      clear eo eiz
      have hd : decide ((0 : Int) ≤ 254 - ((255 : Nat) : Int)) = false := by simp
      rw [HRES2.out] at HRES
      clear HRES2
      go_upto_region 14 with (go_at_call 22; refine (swap_any _ _ b7 b8 st.a st.b Rb7.out Rb8.out N7.out.1).mono ?_; rintro e Y5 ⟨⟨v1, rfl⟩, ha, hb, hu⟩; skip; have RB7 := Lib.hid (show Row Y5 b7 57 g.l from hg ▸ ha); have HU1 := Lib.hid hu; clear ha hb hu)
      clear hg
      have HB5 := Lib.hid (below_upd HB.out HU1.out (by intro z hz; have := N7.out; simp at hz; omega) (HB.out.size_le HKB.out))
      have HZ := Lib.hid (upd_blk HU1.out HZ.out (by have := N7.out; simp; omega))
      clear HU1 Rb7 Rb8 Rb6 HK HB
      have HZ5 := HZ
      refine RL.start (RL.Aft Y5) (by kernel_rfl) (RL.Aft.drew (RL.Aft.refl Y5)) ?_
      refine' RL.takeV (i := 0) (v := _) rfl (by kernel_rfl) (by kernel_rfl) (by kernel_rfl) (fun _ _ _ h => h) (by rfl) ?hk3 ?_
      case hk3 => (intro W hSW; go_simp; try with_reducible rfl)
      (try simp only [Act.put, List.setIfInBounds_toArray, List.set_cons_zero, List.set_cons_succ])
      refine RL.takeV (i := 1) (v := .agg (u64s g.x.l)) rfl (by kernel_rfl) (by kernel_rfl) (by kernel_rfl) (fun _ _ _ h => h) (by rfl) (fun W hSW => run_at 53 _ rfl b7 0 rfl (u64s g.x.l) (pt_x (aft_row hSW RB7.out)) Tryz.underlying53 rfl (by kernel_rfl)) ?_
      (try simp only [Act.put, List.setIfInBounds_toArray, List.set_cons_zero, List.set_cons_succ])
      refine' RL.takeV (i := 2) (v := _) rfl (by kernel_rfl) (by kernel_rfl) (by kernel_rfl) (fun _ _ _ h => h) (by rfl) ?hk4 ?_
      case hk4 => (intro W hSW; go_simp; try with_reducible rfl)
      (try simp only [Act.put, List.setIfInBounds_toArray, List.set_cons_zero, List.set_cons_succ])
      refine RL.takeV (i := 3) (v := .agg (u64s g.z.l)) rfl (by kernel_rfl) (by kernel_rfl) (by kernel_rfl) (fun _ _ _ h => h) (by rfl) (fun W hSW => run_at 53 _ rfl b7 5 rfl (u64s g.z.l) (pt_z (aft_row hSW RB7.out)) Tryz.underlying53 rfl (by kernel_rfl)) ?_
      (try simp only [Act.put, List.setIfInBounds_toArray, List.set_cons_zero, List.set_cons_succ])
      refine' RL.takeC (i := 4) (v := .agg (u64s (iz).l)) 25 #[.agg (u64s g.z.l)] rfl (by kernel_rfl) (by kernel_rfl) (by kernel_rfl) (fun _ _ _ h => h) (by rfl) ?hk5 ?hc5 ?_
      case hk5 => (intro W; go_simp; try with_reducible rfl)
      case hc5 => (intro W hSW; exact (Ciz.out W).mono (fun e w9 h9 => ⟨h9.1, h9.2, RL.Aft.lat hSW h9.2⟩))
      (try simp only [Act.put, List.setIfInBounds_toArray, List.set_cons_zero, List.set_cons_succ])
      refine' RL.takeC (i := 5) (v := .agg (u64s (o).l)) 24 #[.agg (u64s g.x.l), .agg (u64s iz.l)] rfl (by kernel_rfl) (by kernel_rfl) (by kernel_rfl) (fun _ _ _ h => h) (by rfl) ?hk6 ?hc6 ?_
      case hk6 => (intro W; go_simp; try with_reducible rfl)
      case hc6 => (intro W hSW; exact (Co.out W).mono (fun e w9 h9 => ⟨h9.1, h9.2, RL.Aft.lat hSW h9.2⟩))
      (try simp only [Act.put, List.setIfInBounds_toArray, List.set_cons_zero, List.set_cons_succ])
      refine RL.stepK (i := 6) rfl (by kernel_rfl) (by rfl) (fun wa hlwa hswa K hK => ?_)
      go_simp
      obtain ⟨b12, hb12⟩ : ∃ n, wa.heap.size = n := ⟨_, rfl⟩
      have hZ := Rg.Blk.newAt hb12.symm Z5 53
      have Hb12 := Lib.hid (show Y5.heap.size ≤ b12 from hb12 ▸ Below.size hswa)
      refine hK.out _ _ (RL.Aft.alloc hswa _) ?_
      try rw [hb12]
      clear hK
      (try simp only [Act.put, List.setIfInBounds_toArray, List.set_cons_zero, List.set_cons_succ])
      refine RL.stepK (i := 7) rfl (by kernel_rfl) (by rfl) (fun va hlva hsva K hK => ?_)
      refine store_blk_op 53 _ _ rfl b12 (u64s (o).l) Z5 53 rfl rfl (hZ.below hlva hZ.lt) (by kernel_rfl) rfl (u64s_one _) ?_
      intro Y hY hgY
      refine hK.out _ _ (Below.grown hsva hgY (Below.size hsva) (fun k hk => by cases hk; exact Hb12.out)) ?_
      clear hK
      (try simp only [Act.put, List.setIfInBounds_toArray, List.set_cons_zero, List.set_cons_succ])
      refine RL.done (by kernel_rfl) (fun Y6 hlY6 hsY6 => ?_)
      have HA := Lib.hid (show RL.Aft Y5 Y6 from hsY6)
      have Rb12 := Lib.hid (show Row Y6 b12 53 (o).l from hY.below hlY6 hY.lt)
      clear hsY6 hlY6 hY hgY hsva hlva hZ hswa hlwa hb12
      have HZ := Lib.hid (aft_blk HA.out HZ.out)
      have HB6 := Lib.hid (Below.trans HB5.out (Below.mono HA.out (HB5.out.size_le HKB.out)))
      have N12 := Lib.hid (show ¬ b12 = rb from by have h1 := Hb12.out; have h2 := HZ5.out.lt; omega)
      have H32 := Lib.hid (show (Cv.bytesV (bytesE o)).size = 32 from by rw [Cv.bytesV_size, bytesE_len])
      have H320 := Lib.hid (show (Cv.bytesV (toLe 32 (0 % 2 ^ 0))).size = 32 from by rw [Cv.bytesV_size, toLe_len])
      clear HA HB5 Hb12 HZ5
      go_upto_region 15 with fail
      refine RL.start (fun W => Sp.Upd Y6 W [rb]) (by kernel_rfl) (Sp.Upd.trans (Sp.Upd.refl _ _) (Sp.Upd.of_below (Below.drew (Below.refl _ _))) (by simp)) ?_
      refine RL.takeV (i := 0) (v := .agg (u64s (o).l)) rfl (by kernel_rfl) (by kernel_rfl) (by kernel_rfl) (fun _ _ _ h => h) (by rfl) (fun W hSW => run_at 53 _ rfl b12 0 rfl (u64s (o).l) (el_at (upd_row hSW Rb12.out (by simp; exact N12.out))) Tryz.underlying53 rfl (by kernel_rfl)) ?_
      (try simp only [Act.put, List.setIfInBounds_toArray, List.set_cons_zero, List.set_cons_succ])
      refine' RL.takeC (i := 1) (v := .agg (Cv.bytesV (bytesE o))) 26 #[.agg (u64s o.l)] rfl (by kernel_rfl) (by kernel_rfl) (by kernel_rfl) (fun _ _ _ h => h) (by rfl) ?hk7 ?hc7 ?_
      case hk7 => (intro W; go_simp; try with_reducible rfl)
      case hc7 => (intro W hSW; exact (Bytes_any W o).mono (fun e w9 h9 => ⟨h9.1, h9.2, Sp.Upd.trans hSW (Sp.Upd.of_below h9.2) (by simp)⟩))
      (try simp only [Act.put, List.setIfInBounds_toArray, List.set_cons_zero, List.set_cons_succ])
      refine RL.takeV (i := 2) (v := .agg (u64s (o).l)) rfl (by kernel_rfl) (by kernel_rfl) (by kernel_rfl) (fun _ _ _ h => h) (by rfl) (fun W hSW => run_at 53 _ rfl b12 0 rfl (u64s (o).l) (el_at (upd_row hSW Rb12.out (by simp; exact N12.out))) Tryz.underlying53 rfl (by kernel_rfl)) ?_
      (try simp only [Act.put, List.setIfInBounds_toArray, List.set_cons_zero, List.set_cons_succ])
      refine' RL.takeC (i := 3) (v := .bool (zero o)) 27 #[.agg (u64s o.l)] rfl (by kernel_rfl) (by kernel_rfl) (by kernel_rfl) (fun _ _ _ h => h) (by rfl) ?hk8 ?hc8 ?_
      case hk8 => (intro W; go_simp; try with_reducible rfl)
      case hc8 => (intro W hSW; exact (Zero_any W o).mono (fun e w9 h9 => ⟨h9.1, h9.2, Sp.Upd.trans hSW (Sp.Upd.of_below h9.2) (by simp)⟩))
      (try simp only [Act.put, List.setIfInBounds_toArray, List.set_cons_zero, List.set_cons_succ])
      refine' RL.takeV (i := 4) (v := _) rfl (by kernel_rfl) (by kernel_rfl) (by kernel_rfl) (fun _ _ _ h => h) (by rfl) ?hk9 ?_
      case hk9 => (intro W hSW; go_simp; try with_reducible rfl)
      (try simp only [Act.put, List.setIfInBounds_toArray, List.set_cons_zero, List.set_cons_succ])
      refine RL.stepK (i := 5) rfl (by kernel_rfl) (by rfl) (fun va hlva hsva K hK => ?_)
      refine store_blk_op 22 _ _ rfl rb (Cv.bytesV (bytesE o)) (Cv.bytesV (toLe 32 (0 % 2 ^ 0))) 22 rfl rfl ((HZ.out.below (Below.drew (Below.refl _ _)) HZ.out.lt).below hlva (by have := HZ.out.lt; simpa using this)) (by rw [H32.out]; kernel_rfl) (by rw [H32.out, H320.out]) (Cv.bytesV_one _) ?_
      intro Y hY hgY
      have hsY : Sp.Upd Y6 Y [rb] := Sp.Upd.trans hsva (Sp.Upd.of_grown1 hgY) (fun k hk => .inl hk)
      refine hK.out _ _ hsY ?_
      clear hK
      (try simp only [Act.put, List.setIfInBounds_toArray, List.set_cons_zero, List.set_cons_succ])
      refine RL.stepK (i := 6) rfl (by kernel_rfl) (by rfl) (fun vb hlvb hsvb K hK => ?_)
      have hYb := hY.below hlvb hY.lt
      go_simp
      refine hK.out _ _ hsvb ?_
      clear hK
      (try simp only [Act.put, List.setIfInBounds_toArray, List.set_cons_zero, List.set_cons_succ])
      refine RL.done (by kernel_rfl) (fun wd hlwd hswd => ?_)
      have HZZ := Lib.hid (show Rg.Blk wd rb 22 (Cv.bytesV (bytesE o)) from Rg.Blk.below hYb hlwd hYb.lt)
      have HBZ := Lib.hid (below_upd HB6.out hswd (by intro z hz; have := HN.out; simp at hz; omega) (HB6.out.size_le HKB.out))
      clear hYb hY hgY hsY hlwd hswd hlva hsva hlvb hsvb
      go_wp2_with fail
      refine bodyPost_ret (v := .tuple #[.agg (Cv.bytesV (bytesE o)), .bool (!zero o)])
        (results_cell_slot Tryz.results9 _ _ rb 22 _ (0, 0) _ _ rfl rfl HZZ.out Tryz.underlying22 rfl (by rw [H32.out]; kernel_rfl)) rfl ?_
      exact ⟨by rw [HRES.out], HKB.out ▸ HBZ.out⟩
end Go.Proofs.YtfaeigbfnjkojaaGreatDoor.Kx
