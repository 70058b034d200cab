/- KfC, NtA, NtB, NtC, EdF, EdG, EdH, EdI, EdB, EdC, FeA, EdL, FeB, EdR, PeA, PeB, PeC, PeD, PeE, EdX, RegC, RegE: what the claims need of them. -/
import Derived.Test.YtfpcelmekfdafaaGreatDoorVaA
set_option linter.unusedVariables false
set_option linter.unusedSimpArgs false
set_option maxRecDepth 20000
set_option maxHeartbeats 16000000
namespace Go.Proofs.YtfpcelmekfdafaaGreatDoor.Kx
open Go.RowKit Go.Proofs.YtfpcelmekfdafaaGreatDoor.Cl
/-- x, as a quotient -/
structure P where
 x : E
 z : E
deriving DecidableEq
def P.l (p : P) : List Nat := p.x.l ++ p.z.l
def P.ok (p : P) : Prop := p.x.ok ∧ p.z.ok
theorem P.len (p : P) : p.l.length = 10 := rfl
/-- a part of a row, loaded as a struct or an array -/
theorem run_at {Pr : Program} {o : Oper} {a : Act} {w : World} (ty : TypeId) (x : Operand) (ho : o.op = .load ty x) (g off : Nat) (hx : a.eval x = .pointer (some ⟨g, off, none⟩)) (cs : Array Value) (hc : ∀ j v, cs[j]? = some v → w.cell? ⟨g, off + j, none⟩ = some v) {d : TypeDesc}
 (hu : Pr.underlying ty = some d) (hd : (match d with | .struct _ | .array _ _ => true | _ => false) = true) (hi : (Pr.info? ty).map (·.size) = some cs.size) : (execOp a.eval o).run Pr w = .ok (.value (.agg cs)) w := by
 unfold execOp
 simp only [ho, hx, Instr.loadAt, Instr.sureAddr, Sem.run_bind, Sem.run_pure, Result.andThen_ok, Cv.run_loadVar_cells w g off ty cs d hc hu hd hi]
structure St where
 a : P
 b : P
 was : Bool
/-- bytes as a number, the lowest first -/
def leN : List UInt8 → Nat
 | [] => 0
 | b :: l => b.toNat + 256 * leN l
theorem leN_lt : ∀ l : List UInt8, leN l < 256 ^ l.length
 | [] => by simp [leN]
 | b :: l => by
  have := leN_lt l
  have hb := b.toNat_lt
  rw [leN, List.length_cons, Nat.pow_succ]
  omega
theorem leN_byte : ∀ (l : List UInt8) (i : Nat) (h : i < l.length), leN l / 256 ^ i % 256 = l[i].toNat
 | b :: l, 0, _ => by
  have hb := b.toNat_lt
  rw [leN, Nat.pow_zero, Nat.div_one, List.getElem_cons_zero]
  omega
 | b :: l, i + 1, h => by
  have hb := b.toNat_lt
  have h1 := leN_byte l i (by simpa using h)
  rw [List.getElem_cons_succ, ← h1, leN, Nat.pow_succ, Nat.mul_comm (256 ^ i) 256, ← Nat.div_div_eq_div_mul]
  congr 2
  omega
/-- n bytes of a number, the lowest first -/
def toLe : Nat → Nat → List UInt8
 | 0, _ => []
 | n + 1, x => UInt8.ofNat (x % 256) :: toLe n (x / 256)
theorem toLe_len : ∀ n x, (toLe n x).length = n
 | 0, _ => rfl
 | n + 1, x => by rw [toLe, List.length_cons, toLe_len]
theorem leN_toLe : ∀ n x, leN (toLe n x) = x % 256 ^ n
 | 0, x => by rw [toLe, leN, Nat.pow_zero, Nat.mod_one]
 | n + 1, x => by
  rw [toLe, leN, leN_toLe n, Nat.pow_succ, Nat.mul_comm (256 ^ n) 256, Nat.mod_mul]
  congr 1
  simp [UInt8.toNat_ofNat']
theorem toLe_get : ∀ (n x i : Nat) (h : i < n), (toLe n x)[i]? = some (UInt8.ofNat (x / 256 ^ i % 256))
 | n + 1, x, 0, _ => by rw [toLe, List.getElem?_cons_zero, Nat.pow_zero, Nat.div_one]
 | n + 1, x, i + 1, h => by
  rw [toLe, List.getElem?_cons_succ, toLe_get n _ i (by omega), Nat.div_div_eq_div_mul, Nat.pow_succ, Nat.mul_comm 256]
/-- a number's five limbs -/
def spl (n : Nat) : E := ⟨n % W, n / W % W, n / (W * W) % W, n / (W * W * W) % W, n / (W * W * W * W) % W⟩
/-- the number of five limbs -/
def E.val (x : E) : Nat := x.a + W * x.b + W * W * x.c + W * W * W * x.d + W * W * W * W * x.e
def lim (n j : Nat) : Nat := n / 2 ^ (51 * j) % 2 ^ 51
theorem spl_nth (n j : Nat) (h : j < 5) : nth (spl n).l j = lim n j := by
 match j, h with
 | 0, _ => show n % W = _; rw [lim, Nat.mul_zero, Nat.pow_zero, Nat.div_one]; rfl
 | 1, _ => rfl
 | 2, _ => rfl
 | 3, _ => rfl
 | 4, _ => rfl
theorem spl_len (n : Nat) : (spl n).l.length = 5 := rfl
theorem eq_of_nth5 {l m : List Nat} (hl : l.length = 5) (hm : m.length = 5) (h : ∀ j, j < 5 → nth l j = nth m j) : l = m := by
 apply List.ext_getElem (by omega)
 intro j h1 h2
 have := h j (by omega)
 simpa [nth, List.getD_eq_getElem?_getD, h1, h2] using this
theorem testBit_low (x i : Nat) : (x % 2).testBit i = (decide (i = 0) && x.testBit 0) := by
 have := Nat.testBit_mod_two_pow x 1 i
 rw [Nat.pow_one] at this
 rw [this]
 cases i with
 | zero => simp
 | succ i => simp
theorem lim_same (N m j : Nat) (h : j ≠ m / 51) : lim (N % 2 ^ (m + 1)) j = lim (N % 2 ^ m) j := by
 apply Nat.eq_of_testBit_eq
 intro i
 unfold lim
 simp only [Nat.testBit_mod_two_pow, Nat.testBit_div_two_pow]
 by_cases hi : i < 51
 · rw [show decide (i + 51 * j < m + 1) = decide (i + 51 * j < m) from decide_eq_decide.2 (by omega)]
 · simp [hi]
theorem lim_next (N m : Nat) : lim (N % 2 ^ (m + 1)) (m / 51) = lim (N % 2 ^ m) (m / 51) ||| (N / 2 ^ m % 2) * 2 ^ (m % 51) := by
 apply Nat.eq_of_testBit_eq
 intro i
 rw [← Nat.shiftLeft_eq]
 unfold lim
 simp only [Nat.testBit_mod_two_pow, Nat.testBit_div_two_pow, Nat.testBit_or, Nat.testBit_shiftLeft, testBit_low]
 have hq : 51 * (m / 51) + m % 51 = m := Nat.div_add_mod m 51
 have hr : m % 51 < 51 := Nat.mod_lt _ (by decide)
 by_cases hi : i < 51
 · by_cases h1 : i = m % 51
   · subst h1
     have : m % 51 + 51 * (m / 51) = m := by omega
     simp [this, hr]
   · by_cases h2 : i < m % 51
     · simp [hi, show i + 51 * (m / 51) < m + 1 by omega, show i + 51 * (m / 51) < m by omega, show ¬ m % 51 ≤ i by omega]
     · simp [show ¬ i + 51 * (m / 51) < m + 1 by omega, show ¬ i + 51 * (m / 51) < m by omega, show ¬ i - m % 51 = 0 by omega]
 · simp [hi, show ¬ i - m % 51 = 0 by omega]
theorem spl_step (N m : Nat) (h : m < 255) : (spl (N % 2 ^ (m + 1))).l = (spl (N % 2 ^ m)).l.set (m / 51) (nth (spl (N % 2 ^ m)).l (m / 51) ||| (N / 2 ^ m % 2) * 2 ^ (m % 51)) := by
 have hq : m / 51 < 5 := by omega
 refine eq_of_nth5 (spl_len _) (by rw [List.length_set]; rfl) (fun j hj => ?_)
 rw [spl_nth _ _ hj]
 by_cases e : m / 51 = j
 · subst e
   rw [nth_set (by rw [spl_len]; exact hj), spl_nth _ _ hj, lim_next]
 · rw [nth_set_ne e, spl_nth _ _ hj, lim_same _ _ _ (fun h => e h.symm)]
theorem spl_lt (n j : Nat) : nth (spl n).l j < W := by
 match j with
 | 0 => exact mod_lt_W _
 | 1 => exact mod_lt_W _
 | 2 => exact mod_lt_W _
 | 3 => exact mod_lt_W _
 | 4 => exact mod_lt_W _
 | j + 5 => simp [E.l, nth, W]
theorem spl_ok (n : Nat) : (spl n).ok := fun j => Nat.lt_trans (spl_lt n j) W_lt_M
/-- bit m of bytes -/
theorem leN_bit (l : List UInt8) (i k : Nat) (h : i < l.length) (hk : k < 8) : leN l / 2 ^ (8 * i + k) % 2 = l[i].toNat / 2 ^ k % 2 := by
 rw [← leN_byte l i h, show (256 : Nat) = 2 ^ 8 from rfl, ← Nat.pow_mul]
 have h1 : ∀ x : Nat, x % 2 = (x.testBit 0).toNat := fun x => by rw [Nat.testBit_zero]; rcases Nat.mod_two_eq_zero_or_one x with h | h <;> simp [h]
 rw [h1, h1]
 congr 1
 simp only [Nat.testBit_div_two_pow, Nat.testBit_mod_two_pow]
 simp [hk, Nat.add_comm]
/-- the number whose limbs x has -/
theorem val_spl (n : Nat) (h : n < 2 ^ 255) : (spl n).val = n := by
 unfold spl E.val W
 simp only [Nat.reduceMul]
 omega
theorem spl_val (x : E) (h : ∀ j, nth x.l j < W) : spl x.val = x := by
 cases x with
 | mk a b c d e =>
 have h0 : a < W := h 0
 have h1 : b < W := h 1
 have h2 : c < W := h 2
 have h3 : d < W := h 3
 have h4 : e < W := h 4
 unfold W at h0 h1 h2 h3 h4
 unfold spl E.val W
 simp only [Nat.reduceMul]
 congr 1 <;> omega
theorem val_lt (x : E) (h : ∀ j, nth x.l j < W) : x.val < 2 ^ 255 := by
 cases x with
 | mk a b c d e =>
 have h0 : a < W := h 0
 have h1 : b < W := h 1
 have h2 : c < W := h 2
 have h3 : d < W := h 3
 have h4 : e < W := h 4
 unfold W at h0 h1 h2 h3 h4
 unfold E.val W
 simp only
 omega
/-- of bytes: 255 bits -/
def ofB (l : List UInt8) : E := spl (leN l % 2 ^ 255)
/-- the bytes of the number below p -/
def bytesE (x : E) : List UInt8 := toLe 32 (least x).val
/-- bytes after m bits -/
theorem bytes_same (N m i : Nat) (h : i ≠ m / 8) : (N % 2 ^ (m + 1)) / 256 ^ i % 256 = (N % 2 ^ m) / 256 ^ i % 256 := by
 rw [show (256 : Nat) = 2 ^ 8 from rfl, ← Nat.pow_mul]
 apply Nat.eq_of_testBit_eq
 intro k
 simp only [Nat.testBit_mod_two_pow, Nat.testBit_div_two_pow]
 by_cases hi : k < 8
 · rw [show decide (k + 8 * i < m + 1) = decide (k + 8 * i < m) from decide_eq_decide.2 (by omega)]
 · simp [hi]
theorem bytes_next (N m : Nat) : (N % 2 ^ (m + 1)) / 256 ^ (m / 8) % 256 = (N % 2 ^ m) / 256 ^ (m / 8) % 256 ||| (N / 2 ^ m % 2) * 2 ^ (m % 8) := by
 rw [← Nat.shiftLeft_eq, show (256 : Nat) = 2 ^ 8 from rfl, ← Nat.pow_mul]
 apply Nat.eq_of_testBit_eq
 intro i
 simp only [Nat.testBit_mod_two_pow, Nat.testBit_div_two_pow, Nat.testBit_or, Nat.testBit_shiftLeft, testBit_low]
 have hq : 8 * (m / 8) + m % 8 = m := Nat.div_add_mod m 8
 have hr : m % 8 < 8 := Nat.mod_lt _ (by decide)
 by_cases hi : i < 8
 · by_cases h1 : i = m % 8
   · subst h1
     have : m % 8 + 8 * (m / 8) = m := by omega
     simp [this, hr]
   · by_cases h2 : i < m % 8
     · simp [hi, show i + 8 * (m / 8) < m + 1 by omega, show i + 8 * (m / 8) < m by omega, show ¬ m % 8 ≤ i by omega]
     · simp [show ¬ i + 8 * (m / 8) < m + 1 by omega, show ¬ i + 8 * (m / 8) < m by omega, show ¬ i - m % 8 = 0 by omega]
 · simp [hi, show ¬ i - m % 8 = 0 by omega]
theorem toLe_step (N m : Nat) (h : m < 256) : toLe 32 (N % 2 ^ (m + 1)) = (toLe 32 (N % 2 ^ m)).set (m / 8) (UInt8.ofNat ((N % 2 ^ m) / 256 ^ (m / 8) % 256 ||| (N / 2 ^ m % 2) * 2 ^ (m % 8))) := by
 apply List.ext_getElem?
 intro i
 rw [List.getElem?_set]
 by_cases hi : i < 32
 · by_cases e : m / 8 = i
   · subst e
     rw [if_pos rfl, if_pos (by rw [toLe_len]; exact hi), toLe_get _ _ _ hi, bytes_next]
   · rw [if_neg e, toLe_get _ _ _ hi, toLe_get _ _ _ hi, bytes_same _ _ _ (fun h => e h.symm)]
 · rw [if_neg (by omega), List.getElem?_eq_none (by rw [toLe_len]; omega), List.getElem?_eq_none (by rw [toLe_len]; omega)]
/-- a bit of a number in limbs -/
theorem lim_bit (N m : Nat) : lim N (m / 51) / 2 ^ (m % 51) % 2 = N / 2 ^ m % 2 := by
 have h1 : ∀ x : Nat, x % 2 = (x.testBit 0).toNat := fun x => by rw [Nat.testBit_zero]; rcases Nat.mod_two_eq_zero_or_one x with h | h <;> simp [h]
 rw [h1, h1]
 congr 1
 unfold lim
 simp only [Nat.testBit_mod_two_pow, Nat.testBit_div_two_pow]
 have hr : m % 51 < 51 := Nat.mod_lt _ (by decide)
 simp [hr, show m % 51 + 51 * (m / 51) = m by omega]
theorem wrapI {x : Nat} (h : x < 1000000) : IntKind.i64.wrap (x : Int) = (x : Int) := by simp [IntKind.wrap, IntKind.bits, IntKind.signed]; omega
theorem shl_lt {d r : Nat} (hd : d ≤ 1) (hr : r < 51) : d * 2 ^ r < 18446744073709551616 := by
 have h1 : 2 ^ r ≤ 2 ^ 51 := Nat.pow_le_pow_right (by decide) (by omega)
 have h2 : d * 2 ^ r ≤ 1 * 2 ^ r := Nat.mul_le_mul_right _ hd
 have h3 : (2 : Nat) ^ 51 < 18446744073709551616 := by decide
 omega
theorem Of_any (w : World) (t : ByteArray) (ht : t.size = 32) : Calls Tryz.prog 60 #[.string t] w fun e w' => e = .returned (.agg (u64s (ofB t.data.toList).l)) ∧ Below w.heap.size w w' := by
 have HT := ϕ (show t.data.toList.length = 32 by rw [Array.length_toList]; exact ht)
 obtain ⟨N, hN⟩ : ∃ N, leN t.data.toList = N := ⟨_, rfl⟩
 have HNN := ϕ hN
 unfold ofB
 rw [hN]
 clear hN
 obtain ⟨rb, hrb⟩ : ∃ rb, w.heap.size = rb := ⟨_, rfl⟩
 obtain ⟨ab, hab⟩ : ∃ ab, rb + 1 = ab := ⟨_, rfl⟩
 go_enter Tryz.func60, Tryz.ntmps60
 go_upto_region 3 with fail
 rw [show (#[.int .u64 0, .int .u64 0, .int .u64 0, .int .u64 0, .int .u64 0] : Array Value) = Z5 from rfl]
 have HZ := ϕ (show Rg.Blk ((w.alloc (.cells Z5 49)).alloc (.cells Z5 49)) rb 49 Z5 from (hrb ▸ Rg.Blk.new w Z5 49).alloc _)
 have HR := ϕ (show Row ((w.alloc (.cells Z5 49)).alloc (.cells Z5 49)) ab 49 (spl (N % 2 ^ (min 0 255))).l from by
  rw [show (spl (N % 2 ^ min 0 255)).l = [0, 0, 0, 0, 0] from by rw [Nat.zero_min, Nat.pow_zero, Nat.mod_one]; decide]
  exact Rg.Blk.newAt (by simp; omega) _ _)
 have HB := ϕ (show Below rb w ((w.alloc (.cells Z5 49)).alloc (.cells Z5 49)) from hrb ▸ ((Below.refl _ _).alloc (Nat.le_refl _) _).alloc (by simp) _)
 have HNE := ϕ (show ab ≠ rb ∧ rb ≤ ab from by omega)
 have HXB := ϕ hrb
 try rw [hrb]
 try rw [hab]
 generalize ((w.alloc (.cells Z5 49)).alloc (.cells Z5 49)) = Y at *
 clear hrb hab
 go_loopw [10] (fun i wr => ∃ k : Nat, k ≤ 32 ∧ i = .int .i64 k ∧ Row wr ab 49 (spl (N % 2 ^ (min (8 * k) 255))).l ∧ Rg.Blk wr rb 49 Z5 ∧ Below rb w wr) (fun i _ => 32 - (intOf i).toNat)
 case atStart => exact ⟨0, Nat.zero_le _, rfl, HR.out, HZ.out, HB.out⟩
 case round =>
  obtain ⟨k, hk, rfl, hr, hz, hb⟩ := hrel
  clear HR HZ HB
  have HR := ϕ hr
  have HZ := ϕ hz
  have HB := ϕ hb
  clear hr hz hb
  by_cases hk5 : k < 32
  · have hk32 : k < t.size := by omega
    have hk0 : (0 : Int) ≤ k := by omega
    have hdk : decide ((k : Int) < 32) = true := by simp; omega
    go_upto_region 6 with fail
    go_loopw [13] (fun jj ws => ∃ j : Nat, j ≤ 8 ∧ jj = .int .i64 j ∧ Row ws ab 49 (spl (N % 2 ^ (min (8 * k + j) 255))).l ∧ Rg.Blk ws rb 49 Z5 ∧ Below rb w ws) (fun jj _ => 8 - (intOf jj).toNat)
    case atStart => exact ⟨0, Nat.zero_le _, rfl, HR.out, HZ.out, HB.out⟩
    case round =>
     obtain ⟨j, hj, rfl, hr, hz, hb⟩ := hrel
     clear HR HZ HB
     have HR := ϕ hr
     have HZ := ϕ hz
     have HB := ϕ hb
     clear hr hz hb
     by_cases hj8 : j < 8
     · have hj0 : (0 : Int) ≤ j := by omega
       have hdj : decide ((j : Int) < 8) = true := by simp; omega
       obtain ⟨m, hm⟩ : ∃ m, 8 * k + j = m := ⟨_, rfl⟩
       have hmz : 8 * (k : Int) + (j : Int) = (m : Int) := by omega
       by_cases hm255 : m < 255
       · have hdm : decide ((m : Int) < 255) = true := by simp; omega
         rw [show min (8 * k + j) 255 = m by omega] at HR
         obtain ⟨q, hq⟩ : ∃ q, m / 51 = q := ⟨_, rfl⟩
         obtain ⟨r, hr⟩ : ∃ r, m % 51 = r := ⟨_, rfl⟩
         have hq5 : q < 5 := by omega
         have hr51 : r < 51 := by omega
         have HLM := ϕ (show q < (spl (N % 2 ^ m)).l.length from hq5)
         have hq0 : (0 : Int) ≤ (q : Int) := by omega
         have hr0 : (0 : Int) ≤ (r : Int) := by omega
         have hqz : (q : Int) < 5 := by omega
         obtain ⟨b, hb⟩ : ∃ b, t[k].toNat = b := ⟨_, rfl⟩
         have hb256 : b < 256 := by rw [← hb]; exact t[k].toNat_lt
         have EB := ϕ hb
         obtain ⟨c, hc⟩ : ∃ c, b / 2 ^ j = c := ⟨_, rfl⟩
         have hc256 : c < 256 := by rw [← hc]; exact Nat.lt_of_le_of_lt (Nat.div_le_self _ _) hb256
         have ESR := ϕ (show (b : Int) / 2 ^ j = (c : Int) from by rw [← hc]; simp)
         obtain ⟨d, hd2⟩ : ∃ d, c % 2 = d := ⟨_, rfl⟩
         have hd1 : d ≤ 1 := by omega
         have EAN := ϕ (show bits .and .u8 (c : Int) 1 = (d : Int) from by rw [← hd2, ← Nat.and_one_is_mod]; exact u8_and_nat c 1 hc256 (by decide))
         obtain ⟨g, hg⟩ : ∃ g, d * 2 ^ r = g := ⟨_, rfl⟩
         have ESL := ϕ (show IntKind.u64.wrap ((d : Int) * 2 ^ r) = (g : Int) from by rw [show (d : Int) * 2 ^ r = ((d * 2 ^ r : Nat) : Int) by simp, wrapM, hg]; congr 1; rw [← hg]; exact Nat.mod_eq_of_lt (shl_lt hd1 hr51))
         obtain ⟨n1, hn1⟩ : ∃ n1, nth (spl (N % 2 ^ m)).l q = n1 := ⟨_, rfl⟩
         have EOR := ϕ (show bits .or .u64 (n1 : Int) (g : Int) = ((n1 ||| g : Nat) : Int) from u64_or_nat n1 g (by rw [← hn1]; exact spl_ok _ q) (by rw [← hg]; exact shl_lt hd1 hr51))
         have HN1 := ϕ hn1
         have hj64 : min j 8 = j := by omega
         have hr64 : min r 64 = r := by omega
         have EQ := ϕ (show IntKind.i64.wrap ((m : Int) / 51) = (q : Int) from by rw [show (m : Int) / 51 = (q : Int) by omega]; exact wrapI (by omega))
         have ER := ϕ (show (m : Int).tmod 51 = (r : Int) from by rw [Int.tmod_eq_emod_of_nonneg (by omega)]; omega)
         have EC := ϕ (show IntKind.u64.wrap (d : Int) = (d : Int) from by rw [wrapM]; congr 1; exact Nat.mod_eq_of_lt (by unfold M; omega))
         go_upto_region 10 with fail
         refine RT.start (fun W => Below wr.heap.size wr W) 18 1 (by kernel_rfl) (by decide) rfl (by kernel_rfl) (by kernel_rfl) (Below.drew (Below.refl _ _)) ?_
         refine' RT.takeV (i := 0) (v := _) rfl (by kernel_rfl) (by kernel_rfl) (by kernel_rfl) (by decide) (fun _ _ _ h => h) (by rfl) ?hk1 ?_
         case hk1 => (intro W hSW; go_simp; try with_reducible rfl)
         try go_frame
         refine' RT.takeV (i := 1) (v := _) rfl (by kernel_rfl) (by kernel_rfl) (by kernel_rfl) (by decide) (fun _ _ _ h => h) (by rfl) ?hk2 ?_
         case hk2 => (intro W hSW; have x1 := EQ.out; go_simp; try with_reducible rfl)
         try go_frame
         refine' RT.takeV (i := 2) (v := _) rfl (by kernel_rfl) (by kernel_rfl) (by kernel_rfl) (by decide) (fun _ _ _ h => h) (by rfl) ?hk3 ?_
         case hk3 => (intro W hSW; go_simp; try with_reducible rfl)
         try go_frame
         refine' RT.takeV (i := 3) (v := _) rfl (by kernel_rfl) (by kernel_rfl) (by kernel_rfl) (by decide) (fun _ _ _ h => h) (by rfl) ?hk4 ?_
         case hk4 => (intro W hSW; go_simp; try with_reducible rfl)
         try go_frame
         refine' RT.takeV (i := 4) (v := _) rfl (by kernel_rfl) (by kernel_rfl) (by kernel_rfl) (by decide) (fun _ _ _ h => h) (by rfl) ?hk5 ?_
         case hk5 => (intro W hSW; have x1 := (HR.out.below hSW HR.out.lt).cell q HLM.out; rw [HN1.out] at x1; have x2 := hq0; go_simp; try with_reducible rfl)
         try go_frame
         refine' RT.takeV (i := 5) (v := _) rfl (by kernel_rfl) (by kernel_rfl) (by kernel_rfl) (by decide) (fun _ _ _ h => h) (by rfl) ?hk6 ?_
         case hk6 => (intro W hSW; go_simp; try with_reducible rfl)
         try go_frame
         refine' RT.takeV (i := 6) (v := _) rfl (by kernel_rfl) (by kernel_rfl) (by kernel_rfl) (by decide) (fun _ _ _ h => h) (by rfl) ?hk7 ?_
         case hk7 => (intro W hSW; go_simp; try with_reducible rfl)
         try go_frame
         refine' RT.takeV (i := 7) (v := _) rfl (by kernel_rfl) (by kernel_rfl) (by kernel_rfl) (by decide) (fun _ _ _ h => h) (by rfl) ?hk8 ?_
         case hk8 => (intro W hSW; have x1 := EB.out; have x4 : (k : Int) < 32 := (by omega); have x2 := hk32; have x3 := hk0; go_simp; try with_reducible rfl)
         try go_frame
         refine' RT.takeV (i := 8) (v := _) rfl (by kernel_rfl) (by kernel_rfl) (by kernel_rfl) (by decide) (fun _ _ _ h => h) (by rfl) ?hk9 ?_
         case hk9 => (intro W hSW; go_simp; try with_reducible rfl)
         try go_frame
         refine' RT.takeV (i := 9) (v := _) rfl (by kernel_rfl) (by kernel_rfl) (by kernel_rfl) (by decide) (fun _ _ _ h => h) (by rfl) ?hk10 ?_
         case hk10 => (intro W hSW; have x1 := ESR.out; have x2 := hj0; go_simp; try with_reducible rfl)
         try go_frame
         refine' RT.takeV (i := 10) (v := _) rfl (by kernel_rfl) (by kernel_rfl) (by kernel_rfl) (by decide) (fun _ _ _ h => h) (by rfl) ?hk11 ?_
         case hk11 => (intro W hSW; have x1 := EAN.out; go_simp; try with_reducible rfl)
         try go_frame
         refine' RT.takeV (i := 11) (v := _) rfl (by kernel_rfl) (by kernel_rfl) (by kernel_rfl) (by decide) (fun _ _ _ h => h) (by rfl) ?hk12 ?_
         case hk12 => (intro W hSW; have x1 := EC.out; go_simp; try with_reducible rfl)
         try go_frame
         refine' RT.takeV (i := 12) (v := _) rfl (by kernel_rfl) (by kernel_rfl) (by kernel_rfl) (by decide) (fun _ _ _ h => h) (by rfl) ?hk13 ?_
         case hk13 => (intro W hSW; go_simp; try with_reducible rfl)
         try go_frame
         refine' RT.takeV (i := 13) (v := _) rfl (by kernel_rfl) (by kernel_rfl) (by kernel_rfl) (by decide) (fun _ _ _ h => h) (by rfl) ?hk14 ?_
         case hk14 => (intro W hSW; have x1 := ER.out; go_simp; try with_reducible rfl)
         try go_frame
         refine' RT.takeV (i := 14) (v := _) rfl (by kernel_rfl) (by kernel_rfl) (by kernel_rfl) (by decide) (fun _ _ _ h => h) (by rfl) ?hk15 ?_
         case hk15 => (intro W hSW; have x1 := ESL.out; have x2 := hr0; have x3 := hr64; go_simp; try with_reducible rfl)
         try go_frame
         refine' RT.takeV (i := 15) (v := _) rfl (by kernel_rfl) (by kernel_rfl) (by kernel_rfl) (by decide) (fun _ _ _ h => h) (by rfl) ?hk16 ?_
         case hk16 => (intro W hSW; have x1 := EOR.out; go_simp; try with_reducible rfl)
         try go_frame
         refine' RT.takeV (i := 16) (v := _) rfl (by kernel_rfl) (by kernel_rfl) (by kernel_rfl) (by decide) (fun _ _ _ h => h) (by rfl) ?hk17 ?_
         case hk17 => (intro W hSW; go_simp; try with_reducible rfl)
         try go_frame
         refine' RT.takeV (i := 17) (v := _) rfl (by kernel_rfl) (by kernel_rfl) (by kernel_rfl) (by decide) (fun _ _ _ h => h) (by rfl) ?hk18 ?_
         case hk18 => (intro W hSW; have x2 := hq0; have x3 := hqz; go_simp; try with_reducible rfl)
         try go_frame
         refine RT.tail (by kernel_rfl) rfl rfl ?_
         intro wd hlwd hswd
         have hlx : Below wr.heap.size wr wd := (Below.drew (Below.refl _ _)).trans hlwd
         have HRd := ϕ (HR.out.below hlx HR.out.lt)
         have HZd := ϕ (HZ.out.below hlx HZ.out.lt)
         have HBd := ϕ (HB.out.trans (hlx.mono (HB.out.size_le HXB.out)))
         clear hlwd hswd hlx
         refine store_cell rfl 46 _ _ rfl (b := ab) (j := q) (v := n1 ||| g) rfl rfl Tryz.underlying46 (by kernel_rfl) HRd.out HLM.out ?_
         intro V hV hgV
         have HBIT := ϕ (show N / 2 ^ m % 2 = d from by rw [← HNN.out, ← hm, leN_bit _ k j (by rw [HT.out]; exact hk5) hj8, ← hd2, ← hc, ← hb]; rfl)
         have hst := spl_step N m hm255
         rw [HBIT.out, hr, hq, hn1, hg] at hst
         have HRV := ϕ (show Row V ab 49 (spl (N % 2 ^ (m + 1))).l from by rw [hst]; exact hV)
         have HZV := ϕ (blk_other HZd.out hgV HNE.out.1)
         have HBV := ϕ (HBd.out.grown hgV (HBd.out.size_le HXB.out) (fun j e => by cases e; exact HNE.out.2))
         clear hst hV hgV
         go_wp2_with fail
         go_roundw
         case rel =>
          have REL := ϕ (show ∃ j' : Nat, j' ≤ 8 ∧ Value.int .i64 ((j : Int) + 1) = .int .i64 j' ∧ Row V ab 49 (spl (N % 2 ^ (min (8 * k + j') 255))).l ∧ Rg.Blk V rb 49 Z5 ∧ Below rb w V from ⟨j + 1, hj8, rfl, by rw [show min (8 * k + (j + 1)) 255 = m + 1 by omega]; exact HRV.out, HZV.out, HBV.out⟩)
          first
           | exact REL.out
           | ((repeat apply Exists.intro); refine ⟨?_, rfl⟩; exact REL.out)
         case measure => (first | (simp [intOf]; done) | (simp [intOf]; omega))
       · have hdm : decide ((m : Int) < 255) = false := by simp; omega
         go_wp2
         refine ⟨⟨j + 1, hj8, rfl, ?_, HZ.out, HB.out⟩, by simp [intOf]; omega⟩
         rw [show min (8 * k + (j + 1)) 255 = min (8 * k + j) 255 by omega]; exact HR.out
     · obtain rfl : j = 8 := by omega
       go_wp2
       refine ⟨⟨k + 1, hk5, rfl, ?_, HZ.out, HB.out⟩, by simp [intOf]; omega⟩
       rw [show min (8 * (k + 1)) 255 = min (8 * k + 8) 255 by omega]; exact HR.out
  · obtain rfl : k = 32 := by omega
    go_wp2_with (first
     | ((with_reducible refine gate_ ?_); refine Cv.load_cells rfl 49 _ rfl ab 0 rfl (u64s (spl (N % 2 ^ 255)).l) _ (fun j v hv => by rw [Nat.zero_add]; exact Rg.Blk.cell (row_blk HR.out) j hv) Tryz.underlying49 rfl (by rw [u64s_size]; kernel_rfl) ?_; skip)
     | ((with_reducible refine gate_ ?_); refine Cv.store_blk rfl 49 _ _ rfl rb (u64s (spl (N % 2 ^ 255)).l) Z5 49 rfl rfl HZ.out (by rw [u64s_size]; kernel_rfl) (by rw [u64s_size]; first | rfl | rw [u64s_size]) (u64s_one _) ?_; intro V3 hV hgV; have HZZ := ϕ hV; have HBZ := ϕ (HB.out.grown hgV (HB.out.size_le HXB.out) (fun j e => by cases e; exact Nat.le_refl _)); clear hV hgV))
    refine bodyPost_ret (v := .agg (u64s (spl (N % 2 ^ 255)).l))
     (results_cell_row Tryz.results60 _ _ rb 49 _ (0, 0) _ rfl HZZ.out Tryz.underlying49 rfl (by rw [u64s_size]; kernel_rfl)) rfl ?_
    exact ⟨rfl, HXB.out ▸ HBZ.out⟩
end Go.Proofs.YtfpcelmekfdafaaGreatDoor.Kx
namespace Go.Proofs.YtfpcelmekfdafaaGreatDoor.Cv
open Go.RowKit Go.Proofs.YtfpcelmekfdafaaGreatDoor.Cl Go.Proofs.YtfpcelmekfdafaaGreatDoor.Cv
variable {P : Program}
theorem bytesV_set (l : List UInt8) (j : Nat) (v : UInt8) : (bytesV l).setIfInBounds j (.int .u8 (v.toNat : Int)) = bytesV (l.set j v) := by
 unfold bytesV
 simp [Lib.byteCells, List.map_set]
/-- a byte stored into a block of bytes: the world behind it has a name -/
theorem store_byte {ops : Array Oper} {rest : List Oper} {o : Oper} {a : Act} {w : World} {Q : Exit → Act → World → Prop} (hgd : o.guard = none) (ty : TypeId) (x y : Operand) (ho : o.op = .store ty x y)
 {b j T : Nat} {l : List UInt8} {v : UInt8} (hx : a.eval x = .pointer (some ⟨b, j, none⟩)) (hy : a.eval y = .int .u8 (v.toNat : Int)) (hu : P.underlying ty = some (.int .u8)) (hi : (P.info? ty).map (·.size) = some 1) (hR : Rg.Blk w b T (bytesV l)) (hj : j < l.length)
 (h : ∀ w', Rg.Blk w' b T (bytesV (l.set j v)) → w.grownBy w' (some b) → wpList P ops Q rest (a.put o.dst undef) w') : wpList P ops Q (o :: rest) a w :=
 wpList_plain hgd fun _ hK => by
  have hx' := hx
  have hy' := hy
  have hc := hR.cell j (bytesV_get l j l[j] (List.getElem?_eq_getElem hj))
  have hf := hR.frozen j
  simp [go_sem] at hx' hy'
  unfold Oper.wp execOp
  cases hq : P.info? ty with
  | none => simp [hq] at hi
  | some i =>
  have hs : i.size = 1 := by simpa [hq] using hi
  simp [ho, hx', hy', go_sem, hc, hf, hu, sizeOf, typeInfo, hq, hs]
  have hB : Rg.Blk (w.setCell ⟨b, j, none⟩ (.int .u8 (v.toNat : Int))) b T (bytesV (l.set j v)) := by
   have h2 := hR
   unfold Rg.Blk at *
   rw [heap_setCell_same w b j _ _ _ h2, bytesV_set]
  have := hK _ _ (h _ hB (grown_setCell w b j _))
  simpa [go_sem] using this
end Go.Proofs.YtfpcelmekfdafaaGreatDoor.Cv
namespace Go.Proofs.YtfpcelmekfdafaaGreatDoor.Kx
open Go.RowKit Go.Proofs.YtfpcelmekfdafaaGreatDoor.Cl
theorem zero32 : Cv.bytesV (toLe 32 (0 % 2 ^ 0)) = #[.int .u8 0, .int .u8 0, .int .u8 0, .int .u8 0, .int .u8 0, .int .u8 0, .int .u8 0, .int .u8 0, .int .u8 0, .int .u8 0, .int .u8 0, .int .u8 0, .int .u8 0, .int .u8 0, .int .u8 0, .int .u8 0, .int .u8 0, .int .u8 0, .int .u8 0, .int .u8 0, .int .u8 0, .int .u8 0, .int .u8 0, .int .u8 0, .int .u8 0, .int .u8 0, .int .u8 0, .int .u8 0, .int .u8 0, .int .u8 0, .int .u8 0, .int .u8 0] := by
 unfold Cv.bytesV
 rfl
theorem shl8_lt {d r : Nat} (hd : d ≤ 1) (hr : r < 8) : d * 2 ^ r < 256 := by
 have h1 : 2 ^ r ≤ 2 ^ 7 := Nat.pow_le_pow_right (by decide) (by omega)
 have h2 : d * 2 ^ r ≤ 1 * 2 ^ r := Nat.mul_le_mul_right _ hd
 have h3 : (2 : Nat) ^ 7 < 256 := by decide
 omega
theorem wrap8 (x : Nat) (h : x < 256) : IntKind.u8.wrap (x : Int) = (x : Int) := by simp [IntKind.wrap, IntKind.bits, IntKind.signed]; omega
theorem or8_lt {a b : Nat} (ha : a < 256) (hb : b < 256) : a ||| b < 256 := Nat.or_lt_two_pow (n := 8) ha hb
theorem Bytes_any (w : World) (x : E) : Calls Tryz.prog 55 #[.agg (u64s x.l)] w fun e w' => e = .returned (.agg (Cv.bytesV (bytesE x))) ∧ Below w.heap.size w w' := by
 obtain ⟨y, hy⟩ : ∃ y, least x = y := ⟨_, rfl⟩
 have HF := ϕ (show ∀ j, nth y.l j < W from hy ▸ least_fit x)
 obtain ⟨N, hN⟩ : ∃ N, y.val = N := ⟨_, rfl⟩
 have HNN := ϕ (show y = spl N by rw [← hN, spl_val _ HF.out])
 have HLT := ϕ (show N < 2 ^ 255 by rw [← hN]; exact val_lt _ HF.out)
 have HLE := ϕ (fun W => show Calls Tryz.prog 89 #[.agg (u64s x.l)] W fun e w' => e = .returned (.agg (u64s y.l)) ∧ Below W.heap.size W w' from hy ▸ least_any W x)
 unfold bytesE
 rw [hy, hN]
 clear hN hy
 go_enter Tryz.func55, Tryz.ntmps55
 go_upto_region 1 with ((with_reducible refine gate_ ?_); refine Rg.box_fresh rfl 49 _ rfl (u64s x.l) rfl ?_; intro X hX hbX hnX; have HX := ϕ hX; have HBX := ϕ hbX; have HNX := ϕ hnX; clear hX hbX hnX)
 obtain ⟨xb, hxb⟩ : ∃ xb, w.heap.size = xb := ⟨_, rfl⟩
 obtain ⟨rb, hrb⟩ : ∃ rb, X.heap.size = rb := ⟨_, rfl⟩
 rw [← zero32]
 have HR := ϕ (show Row (X.alloc (.cells (Cv.bytesV (toLe 32 (0 % 2 ^ 0))) 22)) xb 49 x.l from (hxb ▸ HX.out).alloc _)
 have HZ := ϕ (show Rg.Blk (X.alloc (.cells (Cv.bytesV (toLe 32 (0 % 2 ^ 0))) 22)) rb 22 (Cv.bytesV (toLe 32 (0 % 2 ^ 0))) from Rg.Blk.newAt hrb.symm _ _)
 have HB := ϕ (show Below xb w (X.alloc (.cells (Cv.bytesV (toLe 32 (0 % 2 ^ 0))) 22)) from hxb ▸ HBX.out.alloc HBX.out.size _)
 have HNE := ϕ (show xb ≠ rb ∧ xb ≤ rb from by have h1 := HX.out.lt; constructor <;> omega)
 have HXB := ϕ hxb
 rw [hxb, hrb]
 generalize X.alloc (.cells (Cv.bytesV (toLe 32 (0 % 2 ^ 0))) 22) = Y at *
 clear HX HBX HNX hxb hrb
 go_upto_region 2 with (first
  | ((with_reducible refine gate_ ?_); refine Cv.load_cells rfl 49 _ rfl xb 0 rfl (u64s x.l) _ (fun j v hv => by rw [Nat.zero_add]; exact Rg.Blk.cell (row_blk HR.out) j hv) Tryz.underlying49 rfl (by rw [u64s_size]; kernel_rfl) ?_; skip)
  | (go_at_call 89; refine (HLE.out _).mono ?_; rintro e w9 ⟨rfl, hb9⟩; have HR9 := ϕ (HR.out.below hb9 HR.out.lt); have HZ9 := ϕ (HZ.out.below hb9 HZ.out.lt); have HB9 := ϕ (HB.out.trans (hb9.mono (HB.out.size_le HXB.out))); clear hb9)
  | ((with_reducible refine gate_ ?_); refine Cv.store_blk rfl 49 _ _ rfl xb (u64s y.l) (u64s x.l) 49 rfl rfl HR9.out (by rw [u64s_size]; kernel_rfl) (by rw [u64s_size]; first | rfl | rw [u64s_size]) (u64s_one _) ?_; intro V3 hV hgV; have HRV := ϕ (show Row V3 xb 49 y.l from hV); have HZV := ϕ (blk_other HZ9.out hgV HNE.out.1); have HBV := ϕ (HB9.out.grown hgV (HB9.out.size_le HXB.out) (fun j e => by cases e; exact Nat.le_refl _)); clear hV hgV))
 obtain ⟨ob, hob⟩ : ∃ ob, V3.heap.size = ob := ⟨_, rfl⟩
 go_upto_region 4 with fail
 rw [← zero32, show (0 % 2 ^ 0 : Nat) = N % 2 ^ 0 by rw [Nat.pow_zero, Nat.mod_one, Nat.mod_one]]
 clear HR HZ HB HR9 HZ9 HB9
 have HR := ϕ (show Row (V3.alloc (.cells (Cv.bytesV (toLe 32 (N % 2 ^ 0))) 22)) xb 49 y.l from HRV.out.alloc _)
 have HZ := ϕ (show Rg.Blk (V3.alloc (.cells (Cv.bytesV (toLe 32 (N % 2 ^ 0))) 22)) rb 22 (Cv.bytesV (toLe 32 (0 % 2 ^ 0))) from HZV.out.alloc _)
 have HO := ϕ (show Rg.Blk (V3.alloc (.cells (Cv.bytesV (toLe 32 (N % 2 ^ 0))) 22)) ob 22 (Cv.bytesV (toLe 32 (N % 2 ^ 0))) from Rg.Blk.newAt hob.symm _ _)
 have HB := ϕ (show Below xb w (V3.alloc (.cells (Cv.bytesV (toLe 32 (N % 2 ^ 0))) 22)) from HBV.out.alloc (HBV.out.size_le HXB.out) _)
 have HNO := ϕ (show ob ≠ xb ∧ ob ≠ rb ∧ xb ≤ ob from by have h1 := HRV.out.lt; have h2 := HZV.out.lt; refine ⟨?_, ?_, ?_⟩ <;> omega)
 try rw [hob]
 generalize V3.alloc (.cells (Cv.bytesV (toLe 32 (N % 2 ^ 0))) 22) = Y2 at *
 clear HRV HZV HBV hob
 go_loopw [7] (fun i wr => ∃ m : Nat, m ≤ 255 ∧ i = .int .i64 m ∧ Rg.Blk wr ob 22 (Cv.bytesV (toLe 32 (N % 2 ^ m))) ∧ Row wr xb 49 y.l ∧ Rg.Blk wr rb 22 (Cv.bytesV (toLe 32 (0 % 2 ^ 0))) ∧ Below xb w wr) (fun i _ => 255 - (intOf i).toNat)
 case atStart => exact ⟨0, Nat.zero_le _, rfl, HO.out, HR.out, HZ.out, HB.out⟩
 case round =>
  obtain ⟨m, hm, rfl, ho, hr, hz, hb⟩ := hrel
  clear HR HZ HB HO
  have HO := ϕ ho
  have HR := ϕ hr
  have HZ := ϕ hz
  have HB := ϕ hb
  clear ho hr hz hb
  by_cases hm255 : m < 255
  · have hdm : decide ((m : Int) < 255) = true := by simp; omega
    have hm0 : (0 : Int) ≤ m := by omega
    obtain ⟨q, hq⟩ : ∃ q, m / 51 = q := ⟨_, rfl⟩
    obtain ⟨r, hr⟩ : ∃ r, m % 51 = r := ⟨_, rfl⟩
    obtain ⟨p, hp⟩ : ∃ p, m / 8 = p := ⟨_, rfl⟩
    obtain ⟨s, hs⟩ : ∃ s, m % 8 = s := ⟨_, rfl⟩
    have hq5 : q < 5 := by omega
    have hr51 : r < 51 := by omega
    have hp32 : p < 32 := by omega
    have hs8 : s < 8 := by omega
    have HLM := ϕ (show q < y.l.length from hq5)
    have HLP := ϕ (show p < (toLe 32 (N % 2 ^ m)).length from by rw [toLe_len]; exact hp32)
    have hq0 : (0 : Int) ≤ (q : Int) := by omega
    have hr0 : (0 : Int) ≤ (r : Int) := by omega
    have hqz : (q : Int) < 5 := by omega
    have hp0 : (0 : Int) ≤ (p : Int) := by omega
    have hs0 : (0 : Int) ≤ (s : Int) := by omega
    have hpz : (p : Int) < 32 := by omega
    obtain ⟨n1, hn1⟩ : ∃ n1, nth y.l q = n1 := ⟨_, rfl⟩
    have hn1W : n1 < M := by rw [← hn1]; exact Nat.lt_trans (HF.out q) W_lt_M
    have HN1 := ϕ hn1
    obtain ⟨c, hc⟩ : ∃ c, n1 / 2 ^ r = c := ⟨_, rfl⟩
    have hcM : c < M := by rw [← hc]; exact Nat.lt_of_le_of_lt (Nat.div_le_self _ _) hn1W
    have ESR := ϕ (show (n1 : Int) / 2 ^ r = (c : Int) from by rw [← hc]; simp)
    obtain ⟨d, hd2⟩ : ∃ d, c % 2 = d := ⟨_, rfl⟩
    have hd1 : d ≤ 1 := by omega
    have EAN := ϕ (show bits .and .u64 (c : Int) 1 = (d : Int) from by rw [← hd2, ← Nat.and_one_is_mod]; exact u64_and_nat c 1 hcM (by decide))
    have EC := ϕ (show IntKind.u8.wrap (d : Int) = (d : Int) from wrap8 d (by omega))
    obtain ⟨g, hg⟩ : ∃ g, d * 2 ^ s = g := ⟨_, rfl⟩
    have hg256 : g < 256 := by rw [← hg]; exact shl8_lt hd1 hs8
    have ESL := ϕ (show IntKind.u8.wrap ((d : Int) * 2 ^ s) = (g : Int) from by rw [show (d : Int) * 2 ^ s = ((d * 2 ^ s : Nat) : Int) by simp, hg]; exact wrap8 g hg256)
    obtain ⟨o, ho⟩ : ∃ o, (N % 2 ^ m) / 256 ^ p % 256 = o := ⟨_, rfl⟩
    have ho256 : o < 256 := by rw [← ho]; exact Nat.mod_lt _ (by decide)
    have HOC := ϕ (show (Cv.bytesV (toLe 32 (N % 2 ^ m)))[p]? = some (.int .u8 (o : Int)) from by rw [Cv.bytesV_get _ p _ (toLe_get 32 _ p hp32), ho]; congr 3; rw [UInt8.toNat_ofNat']; exact Nat.mod_eq_of_lt ho256)
    obtain ⟨vb, hvb⟩ : ∃ v : UInt8, UInt8.ofNat (o ||| g) = v := ⟨_, rfl⟩
    have HTN := ϕ (show (vb.toNat : Int) = ((o ||| g : Nat) : Int) from by rw [← hvb, UInt8.toNat_ofNat']; exact congrArg _ (Nat.mod_eq_of_lt (or8_lt ho256 hg256)))
    have EOR := ϕ (show bits .or .u8 (o : Int) (g : Int) = (vb.toNat : Int) from by rw [HTN.out]; exact u8_or_nat o g ho256 hg256)
    have hr64 : min r 64 = r := by omega
    have hs64 : min s 8 = s := by omega
    have EQ := ϕ (show IntKind.i64.wrap ((m : Int) / 51) = (q : Int) from by rw [show (m : Int) / 51 = (q : Int) by omega]; exact wrapI (by omega))
    have EQ8 := ϕ (show IntKind.i64.wrap ((m : Int) / 8) = (p : Int) from by rw [show (m : Int) / 8 = (p : Int) by omega]; exact wrapI (by omega))
    have ER := ϕ (show (m : Int).tmod 51 = (r : Int) from by rw [Int.tmod_eq_emod_of_nonneg (by omega)]; omega)
    have ER8 := ϕ (show (m : Int).tmod 8 = (s : Int) from by rw [Int.tmod_eq_emod_of_nonneg (by omega)]; omega)
    have HLT2 := ϕ (show d = N / 2 ^ m % 2 from by rw [← hd2, ← hc, ← hn1, ← hr, ← hq, HNN.out, spl_nth _ _ (by omega), lim_bit])
    have hst := toLe_step N m (by omega)
    rw [hp, hs, ho, ← HLT2.out, hg, hvb] at hst
    have HST := ϕ hst
    clear hst hcM hn1W hvb
    go_upto_region 6 with fail
    refine RT.start (fun W => Below wr.heap.size wr W) 19 1 (by kernel_rfl) (by decide) rfl (by kernel_rfl) (by kernel_rfl) (Below.drew (Below.refl _ _)) ?_
    refine' RT.takeV (i := 0) (v := _) rfl (by kernel_rfl) (by kernel_rfl) (by kernel_rfl) (by decide) (fun _ _ _ h => h) (by rfl) ?hk1 ?_
    case hk1 => (intro W hSW; go_simp; try with_reducible rfl)
    try go_frame
    refine' RT.takeV (i := 1) (v := _) rfl (by kernel_rfl) (by kernel_rfl) (by kernel_rfl) (by decide) (fun _ _ _ h => h) (by rfl) ?hk2 ?_
    case hk2 => (intro W hSW; have x1 := EQ8.out; go_simp; try with_reducible rfl)
    try go_frame
    refine' RT.takeV (i := 2) (v := _) rfl (by kernel_rfl) (by kernel_rfl) (by kernel_rfl) (by decide) (fun _ _ _ h => h) (by rfl) ?hk3 ?_
    case hk3 => (intro W hSW; have x2 := hp0; have x3 := hpz; go_simp; try with_reducible rfl)
    try go_frame
    refine' RT.takeV (i := 3) (v := _) rfl (by kernel_rfl) (by kernel_rfl) (by kernel_rfl) (by decide) (fun _ _ _ h => h) (by rfl) ?hk4 ?_
    case hk4 => (intro W hSW; have x1 := (HO.out.below hSW HO.out.lt).cell p HOC.out; have x2 := hp0; go_simp; try with_reducible rfl)
    try go_frame
    refine' RT.takeV (i := 4) (v := _) rfl (by kernel_rfl) (by kernel_rfl) (by kernel_rfl) (by decide) (fun _ _ _ h => h) (by rfl) ?hk5 ?_
    case hk5 => (intro W hSW; go_simp; try with_reducible rfl)
    try go_frame
    refine' RT.takeV (i := 5) (v := _) rfl (by kernel_rfl) (by kernel_rfl) (by kernel_rfl) (by decide) (fun _ _ _ h => h) (by rfl) ?hk6 ?_
    case hk6 => (intro W hSW; have x1 := EQ.out; go_simp; try with_reducible rfl)
    try go_frame
    refine' RT.takeV (i := 6) (v := _) rfl (by kernel_rfl) (by kernel_rfl) (by kernel_rfl) (by decide) (fun _ _ _ h => h) (by rfl) ?hk7 ?_
    case hk7 => (intro W hSW; go_simp; try with_reducible rfl)
    try go_frame
    refine' RT.takeV (i := 7) (v := _) rfl (by kernel_rfl) (by kernel_rfl) (by kernel_rfl) (by decide) (fun _ _ _ h => h) (by rfl) ?hk8 ?_
    case hk8 => (intro W hSW; have x2 := hq0; have x3 := hqz; go_simp; try with_reducible rfl)
    try go_frame
    refine' RT.takeV (i := 8) (v := _) rfl (by kernel_rfl) (by kernel_rfl) (by kernel_rfl) (by decide) (fun _ _ _ h => h) (by rfl) ?hk9 ?_
    case hk9 => (intro W hSW; have x1 := (HR.out.below hSW HR.out.lt).cell q HLM.out; rw [HN1.out] at x1; have x2 := hq0; go_simp; try with_reducible rfl)
    try go_frame
    refine' RT.takeV (i := 9) (v := _) rfl (by kernel_rfl) (by kernel_rfl) (by kernel_rfl) (by decide) (fun _ _ _ h => h) (by rfl) ?hk10 ?_
    case hk10 => (intro W hSW; go_simp; try with_reducible rfl)
    try go_frame
    refine' RT.takeV (i := 10) (v := _) rfl (by kernel_rfl) (by kernel_rfl) (by kernel_rfl) (by decide) (fun _ _ _ h => h) (by rfl) ?hk11 ?_
    case hk11 => (intro W hSW; have x1 := ER.out; go_simp; try with_reducible rfl)
    try go_frame
    refine' RT.takeV (i := 11) (v := _) rfl (by kernel_rfl) (by kernel_rfl) (by kernel_rfl) (by decide) (fun _ _ _ h => h) (by rfl) ?hk12 ?_
    case hk12 => (intro W hSW; have x1 := ESR.out; have x2 := hr0; have x3 := hr64; go_simp; try with_reducible rfl)
    try go_frame
    refine' RT.takeV (i := 12) (v := _) rfl (by kernel_rfl) (by kernel_rfl) (by kernel_rfl) (by decide) (fun _ _ _ h => h) (by rfl) ?hk13 ?_
    case hk13 => (intro W hSW; have x1 := EAN.out; go_simp; try with_reducible rfl)
    try go_frame
    refine' RT.takeV (i := 13) (v := _) rfl (by kernel_rfl) (by kernel_rfl) (by kernel_rfl) (by decide) (fun _ _ _ h => h) (by rfl) ?hk14 ?_
    case hk14 => (intro W hSW; have x1 := EC.out; go_simp; try with_reducible rfl)
    try go_frame
    refine' RT.takeV (i := 14) (v := _) rfl (by kernel_rfl) (by kernel_rfl) (by kernel_rfl) (by decide) (fun _ _ _ h => h) (by rfl) ?hk15 ?_
    case hk15 => (intro W hSW; go_simp; try with_reducible rfl)
    try go_frame
    refine' RT.takeV (i := 15) (v := _) rfl (by kernel_rfl) (by kernel_rfl) (by kernel_rfl) (by decide) (fun _ _ _ h => h) (by rfl) ?hk16 ?_
    case hk16 => (intro W hSW; have x1 := ER8.out; go_simp; try with_reducible rfl)
    try go_frame
    refine' RT.takeV (i := 16) (v := _) rfl (by kernel_rfl) (by kernel_rfl) (by kernel_rfl) (by decide) (fun _ _ _ h => h) (by rfl) ?hk17 ?_
    case hk17 => (intro W hSW; have x1 := ESL.out; have x2 := hs0; have x3 := hs64; go_simp; try with_reducible rfl)
    try go_frame
    refine' RT.takeV (i := 17) (v := _) rfl (by kernel_rfl) (by kernel_rfl) (by kernel_rfl) (by decide) (fun _ _ _ h => h) (by rfl) ?hk18 ?_
    case hk18 => (intro W hSW; have x1 := EOR.out; go_simp; try with_reducible rfl)
    try go_frame
    refine' RT.takeV (i := 18) (v := _) rfl (by kernel_rfl) (by kernel_rfl) (by kernel_rfl) (by decide) (fun _ _ _ h => h) (by rfl) ?hk19 ?_
    case hk19 => (intro W hSW; have x2 := hp0; have x3 := hpz; go_simp; try with_reducible rfl)
    try go_frame
    refine RT.tail (by kernel_rfl) rfl rfl ?_
    intro wd hlwd hswd
    have hlx : Below wr.heap.size wr wd := (Below.drew (Below.refl _ _)).trans hlwd
    have HOd := ϕ (HO.out.below hlx HO.out.lt)
    have HRd := ϕ (HR.out.below hlx HR.out.lt)
    have HZd := ϕ (HZ.out.below hlx HZ.out.lt)
    have HBd := ϕ (HB.out.trans (hlx.mono (HB.out.size_le HXB.out)))
    clear hlwd hswd hlx
    refine Cv.store_byte rfl 5 _ _ rfl (b := ob) (j := p) (v := vb) rfl rfl Tryz.underlying5 (by kernel_rfl) HOd.out HLP.out ?_
    intro V hV hgV
    rw [← HST.out] at hV
    have HOV := ϕ hV
    have HRV := ϕ (row_other HRd.out hgV HNO.out.1)
    have HZV := ϕ (blk_other HZd.out hgV HNO.out.2.1)
    have HBV := ϕ (HBd.out.grown hgV (HBd.out.size_le HXB.out) (fun j e => by cases e; exact HNO.out.2.2))
    clear hV hgV
    go_wp2_with fail
    go_roundw
    case rel =>
     have REL := ϕ (show ∃ m' : Nat, m' ≤ 255 ∧ Value.int .i64 ((m : Int) + 1) = .int .i64 m' ∧ Rg.Blk V ob 22 (Cv.bytesV (toLe 32 (N % 2 ^ m'))) ∧ Row V xb 49 y.l ∧ Rg.Blk V rb 22 (Cv.bytesV (toLe 32 (0 % 2 ^ 0))) ∧ Below xb w V from ⟨m + 1, hm255, rfl, HOV.out, HRV.out, HZV.out, HBV.out⟩)
     first
      | exact REL.out
      | ((repeat apply Exists.intro); refine ⟨?_, rfl⟩; exact REL.out)
    case measure => (first | (simp [intOf]; done) | (simp [intOf]; omega))
  · obtain rfl : m = 255 := by omega
    have HE := ϕ (show Rg.Blk wr ob 22 (Cv.bytesV (toLe 32 N)) from by have := HO.out; rwa [Nat.mod_eq_of_lt HLT.out] at this)
    have H32 := ϕ (show ∀ n, (Cv.bytesV (toLe 32 n)).size = 32 from fun n => by rw [Cv.bytesV_size, toLe_len])
    go_wp2_with (first
     | ((with_reducible refine gate_ ?_); refine Cv.load_cells rfl 22 _ rfl ob 0 rfl (Cv.bytesV (toLe 32 N)) _ (fun j v hv => by rw [Nat.zero_add]; exact HE.out.cell j hv) Tryz.underlying22 rfl (by rw [H32.out]; kernel_rfl) ?_; skip)
     | ((with_reducible refine gate_ ?_); refine Cv.store_blk rfl 22 _ _ rfl rb (Cv.bytesV (toLe 32 N)) (Cv.bytesV (toLe 32 (0 % 2 ^ 0))) 22 rfl rfl HZ.out (by rw [H32.out]; kernel_rfl) (by rw [H32.out, H32.out]) (Cv.bytesV_one _) ?_; intro V3 hV hgV; have HZZ := ϕ hV; have HBZ := ϕ (HB.out.grown hgV (HB.out.size_le HXB.out) (fun j e => by cases e; exact HNE.out.2)); clear hV hgV))
    refine bodyPost_ret (v := .agg (Cv.bytesV (toLe 32 N)))
     (results_cell_row Tryz.results55 _ _ rb 22 _ (0, 0) _ rfl HZZ.out Tryz.underlying22 rfl (by rw [H32.out]; kernel_rfl)) rfl ?_
    exact ⟨rfl, HXB.out ▸ HBZ.out⟩
theorem run_build_op {P : Program} {o : Oper} {a : Act} {w : World} (t : TypeId) (parts : Array (Nat × Operand)) (ho : o.op = .build t parts) (vals : Array (Nat × Value)) (hv : (parts.map fun (x : Nat × Operand) => (x.1, a.eval x.2)) = vals) (cells : Array Value) (h : P.built t vals.toList = some cells) : (execOp a.eval o).run P w = .ok (.value (.agg cells)) w := by
 have hr := run_build w t vals cells h
 rw [← hv] at hr
 unfold execOp
 simp only [ho, Sem.run_bind, Sem.run_map, Sem.run_pure]
 simp [hr]
theorem store_blk_op {P : Program} {o : Oper} {a : Act} {w : World} {K : Act → World → Prop} {Q : Exit → Act → World → Prop} (ty : TypeId) (x y : Operand) (ho : o.op = .store ty x y)
 (b : Nat) (cs old : Array Value) (T : TypeId) (hx : a.eval x = .pointer (some ⟨b, 0, none⟩)) (hy : a.eval y = .agg cs) (hB : Rg.Blk w b T old)
 (hi : (P.info? ty).map (·.size) = some cs.size) (hold : old.size = cs.size) (h1 : cs.all (·.oneCell') = true)
 (h : ∀ X, Rg.Blk X b T cs → w.grownBy X (some b) → K (a.put o.dst undef) X) : Oper.wp P o a w K Q :=
 wp_store_row ty x y ho b cs hx hy T old hB hi hold h1 (h _ hB.setRow ⟨rfl, rfl, rfl, by simp, fun k _ hk => setRow_other w b k cs (fun e => hk (congrArg some e))⟩)
end Go.Proofs.YtfpcelmekfdafaaGreatDoor.Kx
namespace Go.Proofs.YtfpcelmekfdafaaGreatDoor.RL
open Go.RowKit
/-- two allocs that may come up, whichever first: their blocks have names -/
theorem alloc2 {P : Program} {md : Region.Mode} {ops : Array Oper} {Q : Exit → Act → World → Prop} {S : World → Prop} {i j : Nat} {oi oj : Oper} {fuel : Nat} {listed : Array Bool} {a : Act} {w : World} (T1 T2 : TypeId) (Z1 Z2 : Array Value) (hoi : ops.toList[i]? = some oi) (hoj : ops.toList[j]? = some oj) (hr : Region.ready md ops listed = [i, j]) (hri : Region.ready md ops (listed.setIfInBounds i true) = [j]) (hrj : Region.ready md ops (listed.setIfInBounds j true) = [i]) (hij : i ≠ j) (hd : ∀ d, oi.dst = some d → oj.dst ≠ some d)
 (hwi : ∀ a : Act, Region.wanted oi (yielded ops a.tmps) = true) (hwj : ∀ a : Act, Region.wanted oj (yielded ops a.tmps) = true)
 (h1 : ∀ (a : Act) (W : World), (execOp a.eval oi).run P W = .ok (.value (.pointer (some ⟨W.heap.size, 0, none⟩))) (W.alloc (.cells Z1 T1))) (h2 : ∀ (a : Act) (W : World), (execOp a.eval oj).run P W = .ok (.value (.pointer (some ⟨W.heap.size, 0, none⟩))) (W.alloc (.cells Z2 T2)))
 (hS : ∀ W o, S W → S (W.alloc o))
 (h : ∀ b1 b2 W, Lat w W → S W → b1 ≠ b2 → w.heap.size ≤ b1 → w.heap.size ≤ b2 → Rg.Blk W b1 T1 Z1 → Rg.Blk W b2 T2 Z2 → H P md ops Q S W fuel ((listed.setIfInBounds i true).setIfInBounds j true) ((a.put oi.dst (.pointer (some ⟨b1, 0, none⟩))).put oj.dst (.pointer (some ⟨b2, 0, none⟩)))) : H P md ops Q S w (fuel + 2) listed a := by
 have hl1 : ∀ W o, Lat W (World.alloc W o) := fun W o => (Below.refl _ _).alloc (Nat.le_refl _) _
 intro w' hl hs
 refine ⟨fun h0 => (by rw [h0] at hr; cases hr), fun k hk => ?_⟩
 rw [hr] at hk
 rcases List.mem_cons.1 hk with rfl | hk
 · refine wpOp_step (by simpa using hoi) fun K hK => ?_
   rw [if_pos (hwi a)]
   unfold Oper.wp
   rw [h1]
   refine hK _ _ ⟨hS _ _ hs, ?_⟩
   refine step (i := j) hri (fun w2 hl2 hs2 => wpOp_step (by simpa using hoj) fun K2 hK2 => ?_)
   rw [if_pos (hwj _)]
   unfold Oper.wp
   rw [h2]
   refine hK2 _ _ ⟨hS _ _ hs2, ?_⟩
   have hz := Below.size hl2
   rw [World.size_alloc] at hz
   have hz0 := Below.size hl
   exact h w'.heap.size w2.heap.size _ ((hl.trans (hl1 _ _)).trans (hl2.trans (hl1 _ _))) (hS _ _ hs2) (by omega) hz0 (by omega) (((Rg.Blk.new w' Z1 T1).below hl2 (by simp)).alloc _) (Rg.Blk.new w2 Z2 T2)
 · rw [List.mem_singleton.1 hk]
   refine wpOp_step (by simpa using hoj) fun K hK => ?_
   rw [if_pos (hwj a)]
   unfold Oper.wp
   rw [h2]
   refine hK _ _ ⟨hS _ _ hs, ?_⟩
   refine step (i := i) hrj (fun w2 hl2 hs2 => wpOp_step (by simpa using hoi) fun K2 hK2 => ?_)
   rw [if_pos (hwi _)]
   unfold Oper.wp
   rw [h1]
   refine hK2 _ _ ⟨hS _ _ hs2, ?_⟩
   have hz := Below.size hl2
   rw [World.size_alloc] at hz
   have hz0 := Below.size hl
   rw [Array.setIfInBounds_comm _ _ (Ne.symm hij), ← Act.put_comm _ _ _ hd]
   exact h w2.heap.size w'.heap.size _ ((hl.trans (hl1 _ _)).trans (hl2.trans (hl1 _ _))) (hS _ _ hs2) (by omega) (by omega) hz0 (Rg.Blk.new w2 Z1 T1) (((Rg.Blk.new w' Z2 T2).below hl2 (by simp)).alloc _)
end Go.Proofs.YtfpcelmekfdafaaGreatDoor.RL
namespace Go.Proofs.YtfpcelmekfdafaaGreatDoor.Kx
open Go.RowKit Go.Proofs.YtfpcelmekfdafaaGreatDoor.Cl
/-- a scalar's bytes, as Mult takes them -/
def clampB (l : List UInt8) : List UInt8 :=
 let m := l.set 0 (l.getD 0 0 &&& 248)
 m.set 31 (m.getD 31 0 &&& 63 ||| 64)
theorem clampB_len (l : List UInt8) : (clampB l).length = l.length := by unfold clampB; simp
theorem andNot7 (x : UInt8) : bits .andNot .u8 (x.toNat : Int) 7 = ((x &&& 248).toNat : Int) := by
 have h := u8_andNot_nat x.toNat 7 x.toNat_lt (by decide)
 rw [show ((7 : Nat) : Int) = 7 from rfl] at h
 rw [h, UInt8.toNat_and]; rfl
theorem and63 (x : UInt8) : bits .and .u8 (x.toNat : Int) 63 = ((x &&& 63).toNat : Int) := by
 have h := u8_and_nat x.toNat 63 x.toNat_lt (by decide)
 rw [show ((63 : Nat) : Int) = 63 from rfl] at h
 rw [h, UInt8.toNat_and]; rfl
theorem or64 (x : UInt8) : bits .or .u8 (x.toNat : Int) 64 = ((x ||| 64).toNat : Int) := by
 have h := u8_or_nat x.toNat 64 x.toNat_lt (by decide)
 rw [show ((64 : Nat) : Int) = 64 from rfl] at h
 rw [h, UInt8.toNat_or]; rfl
def P.z1 : P := ⟨small 1, ⟨0, 0, 0, 0, 0⟩⟩
def St.ok (s : St) : Prop := s.a.ok ∧ s.b.ok
theorem results_cell_slot {P : Program} {fn : Func} {p q : Tmp} {ty : TypeId} (h : fn.results = #[.cell p ty, .tmp q]) (tmps : Array Value) (w : World) (g : Nat) (t : TypeId) (cs : Array Value) (fr : Nat × Nat) (d : TypeDesc) (v : Value)
 (hp : tmps.getD p undef = .pointer (some ⟨g, 0, none⟩)) (hv : tmps.getD q undef = v) (hg : w.heap[g]? = some (.cells cs t fr))
 (hu : P.underlying ty = some d) (hd : (match d with | .struct _ | .array _ _ => true | _ => false) = true) (hi : (P.info? ty).map (·.size) = some cs.size) :
 (results fn tmps).run P w = .ok (.tuple #[.agg cs, v]) w := by
 have hp' : tmps[p]?.getD undef = .pointer (some ⟨g, 0, none⟩) := by simpa using hp
 have hv' : tmps[q]?.getD undef = v := by simpa using hv
 simp [results, h, hp', hv', asAddr, run_loadVar_row w g t ty cs fr d hg hu hd hi]
theorem below_upd {B : Nat} {w X Y : World} {s : List Nat} (h : Below B w X) (hu : Sp.Upd X Y s) (hs : ∀ k ∈ s, B ≤ k) (hB : B ≤ X.heap.size) : Below B w Y :=
 h.trans ⟨hu.os, hu.tape, hu.output, hu.size, fun k hk => hu.block k (by omega) (fun hm => by have := hs k hm; omega)⟩
theorem upd_blk {X W : World} {s : List Nat} {b T : Nat} {cs : Array Value} (h : Sp.Upd X W s) (hr : Rg.Blk X b T cs) (hb : b ∉ s) : Rg.Blk W b T cs := by
 have hl := hr.lt
 unfold Rg.Blk at *
 rw [h.block b hl hb]; exact hr
theorem aft_blk {X W : World} {b T : Nat} {cs : Array Value} (h : RL.Aft X W) (hr : Rg.Blk X b T cs) : Rg.Blk W b T cs := hr.below h hr.lt
end Go.Proofs.YtfpcelmekfdafaaGreatDoor.Kx
/- Numbers, plainly: primes, the inverse, Fermat's little theorem, Pocklington's test. -/
namespace Go.Proofs.YtfpcelmekfdafaaGreatDoor.Nt
def Pr (p : Nat) : Prop := 1 < p ∧ ∀ m, m ∣ p → m = 1 ∨ m = p
theorem Pr.pos {p : Nat} (h : Pr p) : 0 < p := by have := h.1; omega
theorem Pr.cop {p : Nat} (h : Pr p) {a : Nat} (ha : ¬ p ∣ a) : Nat.Coprime p a := by
 rcases h.2 _ (Nat.gcd_dvd_left p a) with e | e
 · exact e
 · exact absurd (e ▸ Nat.gcd_dvd_right p a) ha
theorem Pr.dvd_mul {p : Nat} (h : Pr p) {a b : Nat} (hd : p ∣ a * b) : p ∣ a ∨ p ∣ b := by
 by_cases ha : p ∣ a
 · exact .inl ha
 · exact .inr ((h.cop ha).dvd_of_dvd_mul_left hd)
/-- a prime divisor -/
theorem least_div : ∀ n, 1 < n → ∃ r, Pr r ∧ r ∣ n := by
 intro n
 induction n using Nat.strongRecOn with
 | _ n ih =>
  intro hn
  by_cases h : Pr n
  · exact ⟨n, h, Nat.dvd_refl n⟩
  · have : ∃ m, m ∣ n ∧ m ≠ 1 ∧ m ≠ n := by
     apply Classical.byContradiction
     intro hc
     exact h ⟨hn, fun m hm => by
      by_cases h1 : m = 1
      · exact .inl h1
      · by_cases h2 : m = n
        · exact .inr h2
        · exact absurd ⟨m, hm, h1, h2⟩ hc⟩
    obtain ⟨m, hm, h1, h2⟩ := this
    have hle := Nat.le_of_dvd (by omega) hm
    have h0 : m ≠ 0 := fun e => by rw [e] at hm; have := Nat.eq_zero_of_zero_dvd hm; omega
    obtain ⟨r, hr, hd⟩ := ih m (by omega) (by omega)
    exact ⟨r, hr, Nat.dvd_trans hd hm⟩
/-- a list without twins that lies within another of no greater length has all of it -/
theorem perm_of {α : Type} [DecidableEq α] : ∀ {l m : List α}, l.Nodup → (∀ x ∈ l, x ∈ m) → m.length ≤ l.length → l.Perm m
 | [], m, _, _, h => by
  have : m = [] := List.length_eq_zero_iff.1 (by simpa using h)
  rw [this]
 | x :: l, m, hn, hs, h => by
  have hx : x ∈ m := hs x (by simp)
  have hn' := List.nodup_cons.1 hn
  have h2 := perm_of (l := l) (m := m.erase x) hn'.2 (fun y hy => by
   have hne : y ≠ x := fun e => hn'.1 (e ▸ hy)
   exact (List.mem_erase_of_ne hne).2 (hs y (by simp [hy]))) (by rw [List.length_erase_of_mem hx]; simp at h; omega)
  exact (h2.cons x).trans (List.perm_cons_erase hx).symm
def prodM (p : Nat) (l : List Nat) : Nat := l.foldr (fun a b => a * b % p) (1 % p)
theorem prodM_perm {p : Nat} {l m : List Nat} (h : l.Perm m) : prodM p l = prodM p m := by
 unfold prodM
 induction h with
 | nil => rfl
 | cons x _ ih => simp only [List.foldr_cons, ih]
 | swap x y l =>
  simp only [List.foldr_cons]
  rw [Nat.mul_mod, Nat.mod_mod, ← Nat.mul_mod, Nat.mul_mod x, Nat.mod_mod, ← Nat.mul_mod, ← Nat.mul_assoc, ← Nat.mul_assoc, Nat.mul_comm x y]
 | trans _ _ h1 h2 => exact h1.trans h2
theorem prodM_map {p a : Nat} : ∀ l : List Nat, prodM p (l.map fun x => a * x % p) = a ^ l.length * prodM p l % p
 | [] => by simp [prodM]
 | x :: l => by
  have ih := prodM_map (p := p) (a := a) l
  unfold prodM at ih ⊢
  simp only [List.map_cons, List.foldr_cons, List.length_cons]
  rw [ih, ← Nat.mul_mod, Nat.pow_succ]
  rw [show a ^ l.length * a * (x * l.foldr (fun a b => a * b % p) (1 % p) % p) % p = a ^ l.length * a * (x * l.foldr (fun a b => a * b % p) (1 % p)) % p by rw [Nat.mul_mod, Nat.mod_mod, ← Nat.mul_mod]]
  congr 1
  ac_rfl
theorem prodM_cop {p : Nat} (hp : Pr p) : ∀ l : List Nat, (∀ x ∈ l, ¬ p ∣ x) → ¬ p ∣ prodM p l
 | [], _, h => by
  have h1 := hp.1
  unfold prodM at h
  simp only [List.foldr_nil] at h
  rw [Nat.mod_eq_of_lt h1] at h
  have := Nat.le_of_dvd (by omega) h
  omega
 | x :: l, hl, h => by
  unfold prodM at h
  simp only [List.foldr_cons] at h
  have h2 : p ∣ x * l.foldr (fun a b => a * b % p) (1 % p) := by
   have := Nat.dvd_of_mod_eq_zero (n := x * l.foldr (fun a b => a * b % p) (1 % p)) (m := p) (by
    have := Nat.mod_eq_zero_of_dvd h
    rwa [Nat.mod_mod] at this)
   exact this
  rcases hp.dvd_mul h2 with h3 | h3
  · exact hl x (by simp) h3
  · exact prodM_cop hp l (fun y hy => hl y (by simp [hy])) h3
/-- Fermat -/
theorem fermat {p a : Nat} (hp : Pr p) (ha : ¬ p ∣ a) : a ^ (p - 1) % p = 1 := by
 obtain ⟨l, hl⟩ : ∃ l, l = (List.range (p - 1)).map (· + 1) := ⟨_, rfl⟩
 have h1 := hp.1
 have hmem : ∀ x, x ∈ l ↔ 1 ≤ x ∧ x < p := fun x => by
  rw [hl]; simp only [List.mem_map, List.mem_range]
  constructor
  · rintro ⟨y, hy, rfl⟩; omega
  · rintro ⟨h1, h2⟩; exact ⟨x - 1, by omega, by omega⟩
 have hcop : ∀ x ∈ l, ¬ p ∣ x := fun x hx hd => by
  have := (hmem x).1 hx
  have := Nat.le_of_dvd (by omega) hd
  omega
 have hlen : l.length = p - 1 := by rw [hl]; simp
 have hnd : l.Nodup := by rw [hl]; exact List.Pairwise.map _ (fun a b (h : a ≠ b) => by simpa using h) List.nodup_range
 have hmd : (l.map fun x => a * x % p).Nodup := by
  refine List.pairwise_map.2 (List.Pairwise.imp_of_mem ?_ hnd)
  intro x y hx hy hne he
  have hx' := (hmem x).1 hx; have hy' := (hmem y).1 hy
  have key : ∀ x y : Nat, x < p → y < p → x ≤ y → a * x % p = a * y % p → x = y := fun x y hx hy hle he => by
   have h2 : p ∣ a * (y - x) := by
    rw [Nat.mul_sub]
    exact Nat.dvd_of_mod_eq_zero (Nat.sub_mod_eq_zero_of_mod_eq he.symm)
   rcases hp.dvd_mul h2 with h3 | h3
   · exact absurd h3 ha
   · by_cases h4 : y - x = 0
     · omega
     · have := Nat.le_of_dvd (by omega) h3; omega
  rcases Nat.le_total x y with h | h
  · exact hne (key x y hx'.2 hy'.2 h he)
  · exact hne (key y x hy'.2 hx'.2 h he.symm).symm
 have hp1 := perm_of (l := l.map fun x => a * x % p) (m := l) hmd (fun y hy => by
  obtain ⟨x, hx, rfl⟩ := List.mem_map.1 hy
  refine (hmem _).2 ⟨?_, Nat.mod_lt _ hp.pos⟩
  by_cases h0 : a * x % p = 0
  · rcases hp.dvd_mul (Nat.dvd_of_mod_eq_zero h0) with h3 | h3
    · exact absurd h3 ha
    · exact absurd h3 (hcop x hx)
  · omega) (by simp)
 have h2 := prodM_perm (p := p) hp1
 rw [prodM_map, hlen] at h2
 have hc := prodM_cop hp l hcop
 have hlt : prodM p l < p := by
  cases l with
  | nil => unfold prodM; exact Nat.mod_lt _ hp.pos
  | cons x l => unfold prodM; exact Nat.mod_lt _ hp.pos
 have h3 : p ∣ (a ^ (p - 1) % p + (p - 1)) * prodM p l := by
  apply Nat.dvd_of_mod_eq_zero
  rw [Nat.add_mul, Nat.add_mod, Nat.mul_mod, Nat.mod_mod, ← Nat.mul_mod, h2]
  have h5 : (prodM p l + (p - 1) * prodM p l) % p = 0 := by
   have : prodM p l + (p - 1) * prodM p l = p * prodM p l := by
    rw [Nat.sub_mul, Nat.one_mul]
    have := Nat.le_mul_of_pos_left (prodM p l) hp.pos
    omega
   rw [this]; exact Nat.mul_mod_right _ _
  rw [Nat.add_mod] at h5
  rwa [Nat.mod_eq_of_lt hlt] at h5
 rcases hp.dvd_mul h3 with h4 | h4
 · obtain ⟨k, hk⟩ := h4
   have h5 := Nat.mod_lt (a ^ (p - 1)) hp.pos
   have hk1 : k = 1 := by
    have hk0 : k ≠ 0 := fun e => by rw [e, Nat.mul_zero] at hk; omega
    have hk2 : k < 2 := by
     apply Classical.byContradiction
     intro hc2
     have := Nat.mul_le_mul_left p (show 2 ≤ k by omega)
     omega
    omega
   rw [hk1, Nat.mul_one] at hk
   omega
 · exact absurd h4 hc
theorem bez : ∀ a b : Nat, ∃ u v : Int, u * a + v * b = (Nat.gcd a b : Nat) := by
 intro a
 induction a using Nat.strongRecOn with
 | _ a ih =>
  intro b
  by_cases h0 : a = 0
  · subst h0
    exact ⟨0, 1, by simp⟩
  · obtain ⟨u, v, h⟩ := ih (b % a) (Nat.mod_lt _ (by omega)) a
    rw [Nat.gcd_rec a b]
    refine ⟨v - u * (b / a : Nat), u, ?_⟩
    rw [← h]
    have hb : (b : Int) = (b % a : Nat) + (a : Int) * (b / a : Nat) := by
     have := Nat.mod_add_div b a
     exact_mod_cast this.symm
    have e : u * (b : Int) = u * (b % a : Nat) + u * ((a : Int) * (b / a : Nat)) := by rw [← Int.mul_add, ← hb]
    rw [e, Int.sub_mul]
    have : u * ((a : Int) * (b / a : Nat)) = u * (b / a : Nat) * a := by rw [Int.mul_comm (a : Int), Int.mul_assoc]
    omega
theorem inv_nat {q m : Nat} (h : Nat.Coprime q m) (hm : 0 < m) (hq : 0 < q) : ∃ u t : Nat, u * q = 1 + m * t := by
 obtain ⟨u, v, e⟩ := bez q m
 rw [show Nat.gcd q m = 1 from h] at e
 have hU : 0 ≤ u % (m : Int) := Int.emod_nonneg _ (by omega)
 obtain ⟨x, hx⟩ : ∃ x : Nat, (x : Int) = u % (m : Int) + m := ⟨(u % (m : Int) + m).toNat, by omega⟩
 have hx1 : 1 ≤ x := by omega
 have hxq : 1 ≤ x * q := Nat.mul_pos hx1 hq
 have hd : (m : Int) ∣ (x * q : Nat) - 1 := by
  have e1 : (x : Int) = u + m * (1 - u / m) := by
   have := Int.emod_add_mul_ediv u m
   rw [Int.mul_sub]; omega
  refine ⟨(1 - u / m) * q - v, ?_⟩
  have e2 : ((x * q : Nat) : Int) = u * q + m * ((1 - u / m) * q) := by
   rw [Int.natCast_mul, e1, Int.add_mul, Int.mul_assoc]
  rw [e2, Int.mul_sub]
  have e3 : v * (m : Int) = m * v := Int.mul_comm _ _
  simp only [Int.natCast_one] at e
  omega
 have hd2 : m ∣ x * q - 1 := by
  have : ((x * q : Nat) : Int) - 1 = ((x * q - 1 : Nat) : Int) := by omega
  rw [this] at hd
  exact Int.natCast_dvd_natCast.1 hd
 obtain ⟨t, ht⟩ := hd2
 exact ⟨x, t, by omega⟩
theorem pow_one_mod {r b n : Nat} (hr : 1 < r) (h : b ^ n % r = 1) (t : Nat) : b ^ (n * t) % r = 1 := by
 rw [Nat.pow_mul, Nat.pow_mod, h, Nat.one_pow, Nat.mod_eq_of_lt hr]
theorem pock_dvd {N q a r : Nat} (hr : Pr r) (hrN : r ∣ N) (hN : 1 < N) (hq : Pr q) (hqd : q ∣ N - 1) (h1 : a ^ (N - 1) % N = 1) (h2 : Nat.gcd (a ^ ((N - 1) / q) % N + (N - 1)) N = 1) : q ∣ r - 1 := by
 apply Classical.byContradiction
 intro hc
 have hr1 := hr.1
 have e1 : a ^ (N - 1) % r = 1 := by
  have := congrArg (· % r) h1
  simp only [Nat.mod_mod_of_dvd _ hrN] at this
  rw [this, Nat.mod_eq_of_lt hr1]
 have ha : ¬ r ∣ a := fun hd => by
  have : r ∣ a ^ (N - 1) := by
   rw [show N - 1 = (N - 2) + 1 by omega, Nat.pow_succ]
   exact Nat.dvd_trans hd (Nat.dvd_mul_left a _)
  have := Nat.mod_eq_zero_of_dvd this
  omega
 have hf := fermat hr ha
 obtain ⟨k, hk⟩ := hqd
 have hkq : (N - 1) / q = k := by rw [hk]; exact Nat.mul_div_cancel_left k hq.pos
 rw [hkq] at h2
 obtain ⟨u, t, hu⟩ := inv_nat (q := q) (m := r - 1) (hq.cop hc) (by omega) hq.pos
 have hb1 : (a ^ k) ^ q % r = 1 := by rw [← Nat.pow_mul, Nat.mul_comm k q, ← hk]; exact e1
 have hb2 : (a ^ k) ^ (r - 1) % r = 1 := by
  rw [← Nat.pow_mul, Nat.mul_comm k, Nat.pow_mul, Nat.pow_mod, hf, Nat.one_pow, Nat.mod_eq_of_lt hr1]
 have hb3 : (a ^ k) ^ (q * u) % r = 1 := pow_one_mod hr1 hb1 u
 have hb4 : (a ^ k) ^ ((r - 1) * t) % r = 1 := pow_one_mod hr1 hb2 t
 rw [Nat.mul_comm q u, hu, Nat.pow_add, Nat.pow_one, Nat.mul_mod, hb4, Nat.mul_one, Nat.mod_mod] at hb3
 have hd : r ∣ a ^ k % N + (N - 1) := by
  apply Nat.dvd_of_mod_eq_zero
  obtain ⟨c, hc2⟩ := hrN
  have h5 : (a ^ k % N + (N - 1) + 1) % r = 1 := by
   rw [show a ^ k % N + (N - 1) + 1 = a ^ k % N + N by omega, Nat.add_mod, Nat.mod_mod_of_dvd _ ⟨c, hc2⟩, hb3, Nat.mod_eq_zero_of_dvd ⟨c, hc2⟩, Nat.add_zero, Nat.mod_eq_of_lt hr1]
  have h6 := Nat.mod_lt (a ^ k % N + (N - 1)) (show 0 < r by omega)
  obtain ⟨y, hy⟩ : ∃ y, y = a ^ k % N + (N - 1) := ⟨_, rfl⟩
  rw [← hy] at h5 h6 ⊢
  rw [Nat.add_mod, Nat.mod_eq_of_lt hr1] at h5
  by_cases h7 : y % r + 1 < r
  · rw [Nat.mod_eq_of_lt h7] at h5; omega
  · have : y % r + 1 = r := by omega
    rw [this, Nat.mod_self] at h5; omega
 have hg := Nat.dvd_gcd hd hrN
 rw [h2] at hg
 have := Nat.le_of_dvd (by decide) hg
 omega
def prodL : List Nat → Nat
 | [] => 1
 | q :: l => q * prodL l
theorem pr_prod {q : Nat} (hq : Pr q) : ∀ l : List Nat, (∀ x ∈ l, Pr x) → q ∣ prodL l → q ∈ l
 | [], _, h => by have h2 : q ≤ 1 := Nat.le_of_dvd (by decide) h; have h3 := hq.1; omega
 | x :: l, hl, h => by
  rcases hq.dvd_mul h with h1 | h1
  · rcases (hl x (by simp)).2 q h1 with e | e
    · have := hq.1; omega
    · simp [e]
  · exact List.mem_cons_of_mem _ (pr_prod hq l (fun y hy => hl y (by simp [hy])) h1)
theorem prod_dvd {m : Nat} : ∀ l : List Nat, l.Nodup → (∀ x ∈ l, Pr x) → (∀ x ∈ l, x ∣ m) → prodL l ∣ m
 | [], _, _, _ => Nat.one_dvd _
 | q :: l, hn, hp, hd => by
  have hn' := List.nodup_cons.1 hn
  have hl := fun y hy => hp y (List.mem_cons_of_mem q hy)
  have hc : Nat.Coprime q (prodL l) := (hp q (by simp)).cop fun h => hn'.1 (pr_prod (hp q (by simp)) l hl h)
  exact hc.mul_dvd_of_dvd_of_dvd (hd q (by simp)) (prod_dvd l hn'.2 hl fun y hy => hd y (by simp [hy]))
theorem pock {N : Nat} (hN : 1 < N) (qs : List Nat) (hn : qs.Nodup) (hp : ∀ q ∈ qs, Pr q) (h : ∀ q ∈ qs, q ∣ N - 1 ∧ ∃ a, a ^ (N - 1) % N = 1 ∧ Nat.gcd (a ^ ((N - 1) / q) % N + (N - 1)) N = 1) (hs : N < (prodL qs + 1) * (prodL qs + 1)) : Pr N := by
 have key : ∀ r, Pr r → r ∣ N → prodL qs + 1 ≤ r := fun r hr hrN => by
  have := prod_dvd (m := r - 1) qs hn hp (fun q hq => by
   obtain ⟨hd, a, h1, h2⟩ := h q hq
   exact pock_dvd hr hrN hN (hp q hq) hd h1 h2)
  have h1 := hr.1
  have := Nat.le_of_dvd (by omega) this
  omega
 refine ⟨hN, fun m hm => ?_⟩
 apply Classical.byContradiction
 intro hc
 have h0 : m ≠ 0 := fun e => by rw [e] at hm; have := Nat.eq_zero_of_zero_dvd hm; omega
 obtain ⟨k, hk⟩ := hm
 have hk1 : 1 < k := by
  by_cases h1 : k = 0
  · rw [h1, Nat.mul_zero] at hk; omega
  · by_cases h2 : k = 1
    · rw [h2, Nat.mul_one] at hk; exact absurd (.inr hk.symm) hc
    · omega
 have hm1 : 1 < m := by
  by_cases h1 : m = 1
  · exact absurd (.inl h1) hc
  · omega
 obtain ⟨r, hr, hrm⟩ := least_div m hm1
 obtain ⟨r', hr', hrk⟩ := least_div k hk1
 have a1 := key r hr (Nat.dvd_trans hrm ⟨k, hk⟩)
 have a2 := key r' hr' (Nat.dvd_trans hrk ⟨m, by rw [Nat.mul_comm]; exact hk⟩)
 have b1 := Nat.le_of_dvd (by omega) hrm
 have b2 := Nat.le_of_dvd (by omega) hrk
 have := Nat.mul_le_mul (Nat.le_trans a1 b1) (Nat.le_trans a2 b2)
 omega
/-- a ^ n % m, by squares; f: as many steps as n has places -/
def pm (m : Nat) : Nat → Nat → Nat → Nat → Nat
 | 0, _, _, acc => acc
 | f + 1, a, n, acc => pm m f (a * a % m) (n / 2) (if n % 2 = 1 then acc * a % m else acc)
theorem pm_eq {m : Nat} : ∀ (f a n acc : Nat), n < 2 ^ f → acc < m → pm m f a n acc = acc * a ^ n % m
 | 0, a, n, acc, h, ha => by
  have : n = 0 := by simpa using h
  subst this
  rw [pm, Nat.pow_zero, Nat.mul_one, Nat.mod_eq_of_lt ha]
 | f + 1, a, n, acc, h, ha => by
  have hm : 0 < m := by omega
  have hn : n / 2 < 2 ^ f := by rw [Nat.pow_succ] at h; omega
  rw [pm]
  have e2 : (a * a % m) ^ (n / 2) % m = a ^ (2 * (n / 2)) % m := by rw [← Nat.pow_mod, Nat.pow_mul]; congr 2; rw [Nat.pow_two]
  by_cases hb : n % 2 = 1
  · rw [if_pos hb, pm_eq f _ _ _ hn (Nat.mod_lt _ hm), Nat.mul_mod, Nat.mod_mod, e2, ← Nat.mul_mod]
    have : a ^ n = a * a ^ (2 * (n / 2)) := by
     rw [Nat.mul_comm a, ← Nat.pow_succ]; congr 1; omega
    rw [this, Nat.mul_assoc]
  · rw [if_neg hb, pm_eq f _ _ _ hn ha, Nat.mul_mod, e2, ← Nat.mul_mod]
    congr 3
    omega
def trial (n : Nat) : Bool := decide (1 < n) && (List.range 3300).all fun d => n % (d + 2) != 0 || d + 2 == n
theorem pr_trial {n : Nat} (h : trial n = true) (hs : n < 10000000) : Pr n := by
 unfold trial at h
 simp only [Bool.and_eq_true, decide_eq_true_eq, List.all_eq_true, List.mem_range, Bool.or_eq_true, bne_iff_ne, beq_iff_eq] at h
 obtain ⟨h1, h2⟩ := h
 refine ⟨h1, fun m hm => ?_⟩
 apply Classical.byContradiction
 intro hc
 have h0 : m ≠ 0 := fun e => by rw [e] at hm; have := Nat.eq_zero_of_zero_dvd hm; omega
 have hm1 : m ≠ 1 := fun e => hc (.inl e)
 have hmn : m ≠ n := fun e => hc (.inr e)
 obtain ⟨k, hk⟩ := hm
 have small : ∀ d, 2 ≤ d → d ∣ n → d ≠ n → 3300 < d := fun d hd hdn hne => by
  apply Classical.byContradiction
  intro hlt
  rcases h2 (d - 2) (by omega) with h3 | h3
  · rw [show d - 2 + 2 = d by omega] at h3
    exact h3 (Nat.mod_eq_zero_of_dvd hdn)
  · omega
 have hk1 : k ≠ 1 := fun e => by rw [e, Nat.mul_one] at hk; exact hmn hk.symm
 have hk0 : k ≠ 0 := fun e => by rw [e, Nat.mul_zero] at hk; omega
 have hkn : k ≠ n := fun e => by
  rw [e] at hk
  have h5 : 2 * n ≤ m * n := Nat.mul_le_mul_right n (by omega)
  omega
 have a1 := small m (by omega) ⟨k, hk⟩ hmn
 have a2 := small k (by omega) ⟨m, by rw [Nat.mul_comm]; exact hk⟩ hkn
 have := Nat.mul_le_mul (show 3301 ≤ m by omega) (show 3301 ≤ k by omega)
 omega
def nodupB : List Nat → Bool
 | [] => true
 | x :: l => !l.contains x && nodupB l
theorem nodup_of : ∀ {l : List Nat}, nodupB l = true → l.Nodup
 | [], _ => List.nodup_nil
 | x :: l, h => by
  rw [nodupB, Bool.and_eq_true] at h
  refine List.nodup_cons.2 ⟨fun hx => ?_, nodup_of h.2⟩
  have := h.1
  rw [List.contains_iff_mem.2 hx] at this
  cases this
def chk (N : Nat) (qs : List (Nat × Nat)) : Bool :=
 decide (1 < N) && decide (N < 2 ^ 300) && nodupB (qs.map (·.1)) && decide (N < (prodL (qs.map (·.1)) + 1) * (prodL (qs.map (·.1)) + 1)) &&
  qs.all fun x => (N - 1) % x.1 == 0 && pm N 300 x.2 (N - 1) 1 == 1 && Nat.gcd (pm N 300 x.2 ((N - 1) / x.1) 1 + (N - 1)) N == 1
theorem pr_chk {N : Nat} {qs : List (Nat × Nat)} (h : chk N qs = true) (hp : ∀ x ∈ qs, Pr x.1) : Pr N := by
 unfold chk at h
 simp only [Bool.and_eq_true, decide_eq_true_eq, List.all_eq_true, beq_iff_eq] at h
 obtain ⟨⟨⟨⟨h1, h2⟩, h3⟩, h4⟩, h5⟩ := h
 refine pock h1 (qs.map (·.1)) (nodup_of h3) (fun q hq => ?_) (fun q hq => ?_) h4
 · obtain ⟨x, hx, rfl⟩ := List.mem_map.1 hq; exact hp x hx
 · obtain ⟨x, hx, rfl⟩ := List.mem_map.1 hq
   obtain ⟨⟨a1, a2⟩, a3⟩ := h5 x hx
   rw [pm_eq 300 _ _ _ (by omega) h1, Nat.one_mul] at a2
   rw [pm_eq 300 _ _ _ (Nat.lt_of_le_of_lt (Nat.div_le_self _ _) (by omega)) h1, Nat.one_mul] at a3
   exact ⟨Nat.dvd_of_mod_eq_zero a1, x.2, a2, a3⟩
theorem pr8574133 : Pr 8574133 := pr_trial (by decide +kernel) (by decide)
theorem pr127 : Pr 127 := pr_trial (by decide +kernel) (by decide)
theorem pr1919519569386763 : Pr 1919519569386763 :=
 pr_chk (qs := [(8574133, 2), (127, 2)]) (by decide +kernel) (by
  intro x hx
  simp only [List.mem_cons, List.not_mem_nil, or_false] at hx
  rcases hx with rfl | rfl
  · exact pr8574133
  · exact pr127)
theorem pr569003 : Pr 569003 := pr_trial (by decide +kernel) (by decide)
theorem pr2773320623 : Pr 2773320623 :=
 pr_chk (qs := [(569003, 2)]) (by decide +kernel) (by
  intro x hx
  simp only [List.mem_cons, List.not_mem_nil, or_false] at hx
  rcases hx with rfl
  · exact pr569003)
theorem pr72106336199 : Pr 72106336199 :=
 pr_chk (qs := [(2773320623, 2)]) (by decide +kernel) (by
  intro x hx
  simp only [List.mem_cons, List.not_mem_nil, or_false] at hx
  rcases hx with rfl
  · exact pr2773320623)
theorem pr75445702479781427272750846543864801 : Pr 75445702479781427272750846543864801 :=
 pr_chk (qs := [(1919519569386763, 2), (72106336199, 2)]) (by decide +kernel) (by
  intro x hx
  simp only [List.mem_cons, List.not_mem_nil, or_false] at hx
  rcases hx with rfl | rfl
  · exact pr1919519569386763
  · exact pr72106336199)
theorem pr430751 : Pr 430751 := pr_trial (by decide +kernel) (by decide)
theorem pr4153 : Pr 4153 := pr_trial (by decide +kernel) (by decide)
theorem pr31757755568855353 : Pr 31757755568855353 :=
 pr_chk (qs := [(430751, 2), (4153, 2)]) (by decide +kernel) (by
  intro x hx
  simp only [List.mem_cons, List.not_mem_nil, or_false] at hx
  rcases hx with rfl | rfl
  · exact pr430751
  · exact pr4153)
theorem pr74058212732561358302231226437062788676166966415465897661863160754340907 : Pr 74058212732561358302231226437062788676166966415465897661863160754340907 :=
 pr_chk (qs := [(75445702479781427272750846543864801, 2), (31757755568855353, 2)]) (by decide +kernel) (by
  intro x hx
  simp only [List.mem_cons, List.not_mem_nil, or_false] at hx
  rcases hx with rfl | rfl
  · exact pr75445702479781427272750846543864801
  · exact pr31757755568855353)
theorem pr_p : Pr 57896044618658097711785492504343953926634992332820282019728792003956564819949 :=
 pr_chk (qs := [(74058212732561358302231226437062788676166966415465897661863160754340907, 2)]) (by decide +kernel) (by
  intro x hx
  simp only [List.mem_cons, List.not_mem_nil, or_false] at hx
  rcases hx with rfl
  · exact pr74058212732561358302231226437062788676166966415465897661863160754340907)
theorem pr1224481 : Pr 1224481 := pr_trial (by decide +kernel) (by decide)
theorem pr531581 : Pr 531581 := pr_trial (by decide +kernel) (by decide)
theorem pr1257559732178653 : Pr 1257559732178653 :=
 pr_chk (qs := [(1224481, 2), (531581, 2)]) (by decide +kernel) (by
  intro x hx
  simp only [List.mem_cons, List.not_mem_nil, or_false] at hx
  rcases hx with rfl | rfl
  · exact pr1224481
  · exact pr531581)
theorem pr4434155615661930479 : Pr 4434155615661930479 :=
 pr_chk (qs := [(1257559732178653, 2)]) (by decide +kernel) (by
  intro x hx
  simp only [List.mem_cons, List.not_mem_nil, or_false] at hx
  rcases hx with rfl
  · exact pr1257559732178653)
theorem pr172054593956031949258510691 : Pr 172054593956031949258510691 :=
 pr_chk (qs := [(4434155615661930479, 2)]) (by decide +kernel) (by
  intro x hx
  simp only [List.mem_cons, List.not_mem_nil, or_false] at hx
  rcases hx with rfl
  · exact pr4434155615661930479)
theorem pr19757330305831588566944191468367130476339 : Pr 19757330305831588566944191468367130476339 :=
 pr_chk (qs := [(172054593956031949258510691, 2)]) (by decide +kernel) (by
  intro x hx
  simp only [List.mem_cons, List.not_mem_nil, or_false] at hx
  rcases hx with rfl
  · exact pr172054593956031949258510691)
theorem pr276602624281642239937218680557139826668747 : Pr 276602624281642239937218680557139826668747 :=
 pr_chk (qs := [(19757330305831588566944191468367130476339, 2)]) (by decide +kernel) (by
  intro x hx
  simp only [List.mem_cons, List.not_mem_nil, or_false] at hx
  rcases hx with rfl
  · exact pr19757330305831588566944191468367130476339)
theorem pr_l : Pr 7237005577332262213973186563042994240857116359379907606001950938285454250989 :=
 pr_chk (qs := [(276602624281642239937218680557139826668747, 2)]) (by decide +kernel) (by
  intro x hx
  simp only [List.mem_cons, List.not_mem_nil, or_false] at hx
  rcases hx with rfl
  · exact pr276602624281642239937218680557139826668747)
end Go.Proofs.YtfpcelmekfdafaaGreatDoor.Nt
namespace Go.Proofs.YtfpcelmekfdafaaGreatDoor.Ed
open Go.Proofs.YtfpcelmekfdafaaGreatDoor.Nt
theorem inv_mod {p a : Nat} (hp : Pr p) (h3 : p < 2 ^ 300) (ha : ¬ p ∣ a) : a * (pm p 300 a (p - 2) 1 % p) % p = 1 := by
 have h1 := hp.1
 rw [pm_eq 300 _ _ _ (by omega) h1, Nat.one_mul, Nat.mod_mod, Nat.mul_mod, Nat.mod_mod, ← Nat.mul_mod, Nat.mul_comm, ← Nat.pow_succ, show (p - 2).succ = p - 1 by omega]
 exact fermat hp ha
theorem nonsq {p d : Nat} (hp : Pr p) (h3 : p < 2 ^ 300) (hodd : 2 * ((p - 1) / 2) = p - 1) (h2 : 2 < p) (h : pm p 300 d ((p - 1) / 2) 1 = p - 1) (z : Nat) : z * z % p ≠ d % p := fun hv => by
 rw [pm_eq 300 _ _ _ (by omega) hp.1, Nat.one_mul, Nat.pow_mod, ← hv, ← Nat.pow_mod, ← Nat.pow_two, ← Nat.pow_mul, hodd] at h
 by_cases h0 : p ∣ z
 · have h1 : z ^ (p - 1) % p = 0 := by
    rw [Nat.pow_mod, Nat.mod_eq_zero_of_dvd h0, show p - 1 = (p - 2) + 1 by omega, Nat.pow_succ, Nat.mul_zero, Nat.zero_mod]
   omega
 · rw [fermat hp h0] at h; omega
abbrev P : Nat := 57896044618658097711785492504343953926634992332820282019728792003956564819949
abbrev F : Type := Fin 57896044618658097711785492504343953926634992332820282019728792003956564819949
theorem hP : Pr P := pr_p
theorem P_pos : 0 < P := by decide +kernel
def inv (a : F) : F := ⟨pm P 300 a.val (P - 2) 1 % P, Nat.mod_lt _ P_pos⟩
theorem val_mul (a b : F) : (a * b).val = a.val * b.val % P := rfl
theorem val_ne {a : F} (h : a ≠ 0) : ¬ P ∣ a.val := fun hd => by
 apply h
 apply Fin.ext
 show a.val = 0
 by_cases h0 : a.val = 0
 · exact h0
 · have h1 := Nat.le_of_dvd (by omega) hd
   have h2 : a.val < P := a.isLt
   omega
theorem mul_inv {a : F} (h : a ≠ 0) : a * inv a = 1 := by
 apply Fin.ext
 rw [val_mul]
 exact inv_mod hP (by decide +kernel) (val_ne h)
theorem mul_zero_or {a b : F} (h : a * b = 0) : a = 0 ∨ b = 0 := by
 by_cases ha : a = 0
 · exact .inl ha
 · right
   have h1 := mul_inv ha
   have : b = b * (a * inv a) := by rw [h1]; exact (Fin.mul_one b).symm
   have h2 : b * (a * inv a) = (a * b) * inv a := by grind
   rw [this, h2, h]
   grind
theorem mul_ne {a b : F} (ha : a ≠ 0) (hb : b ≠ 0) : a * b ≠ 0 := fun h => (mul_zero_or h).elim ha hb
theorem cancel {a b c : F} (ha : a ≠ 0) (h : a * b = a * c) : b = c := by
 have h1 : a * (b - c) = 0 := by grind
 rcases mul_zero_or h1 with h2 | h2
 · exact absurd h2 ha
 · grind
def dE : F := ⟨37095705934669439343138083508754565189542113879843219016388785533085940283555, by decide +kernel⟩
def iE : F := ⟨19681161376707505956807079304988542015446066515923890162744021073123829784752, by decide +kernel⟩
theorem two_ne : (2 : F) ≠ 0 := by decide +kernel
theorem dE_sq (z : F) : z * z ≠ dE := fun h => by
 have hv : z.val * z.val % P = dE.val := by rw [← val_mul, h]
 exact nonsq (d := dE.val) hP (by decide +kernel) (by decide +kernel) (by decide +kernel) (by decide +kernel) z.val (by rw [hv, Nat.mod_eq_of_lt dE.isLt])
theorem zero_ne : (0 : F) ≠ 1 := by decide +kernel
theorem no_sq {d : F} (hd : ∀ z : F, z * z ≠ d) {a u : F} (hu : u ≠ 0) (h : a * a = d * (u * u)) : False := by
 have h1 := mul_inv hu
 obtain ⟨v, hv⟩ : ∃ v, v = inv u := ⟨_, rfl⟩
 rw [← hv] at h1
 refine hd (a * v) ?_
 have h2 : a * v * (a * v) = (a * a) * (v * v) := by grobner
 have h3 : d * (u * u) * (v * v) = d * ((u * v) * (u * v)) := by grobner
 rw [h2, h, h3, h1]
 grobner
theorem sq_p {d i x1 y1 x2 y2 e : F} (hi : i * i = 0 - 1) (h1 : 0 - x1 * x1 + y1 * y1 - 1 - d * x1 * x1 * y1 * y1 = 0) (h2 : 0 - x2 * x2 + y2 * y2 - 1 - d * x2 * x2 * y2 * y2 = 0) (he : e * e = 1) (h : d * x1 * x2 * y1 * y2 = e) :
 (i * x1 + e * y1) * (i * x1 + e * y1) = d * ((x1 * y1 * (i * x2 + y2)) * (x1 * y1 * (i * x2 + y2))) := by
 have a1 : (i * x1 + e * y1) * (i * x1 + e * y1) = (i * i) * (x1 * x1) + (e * e) * (y1 * y1) + 2 * i * (x1 * y1) * e := by grobner
 have a2 : d * ((x1 * y1 * (i * x2 + y2)) * (x1 * y1 * (i * x2 + y2))) = d * (x1 * x1 * y1 * y1) * ((i * i) * (x2 * x2) + y2 * y2) + 2 * i * (x1 * y1) * (d * x1 * x2 * y1 * y2) := by grobner
 have a3 : y2 * y2 = 1 + x2 * x2 + d * x2 * x2 * y2 * y2 := by grobner
 have a4 : y1 * y1 = 1 + x1 * x1 + d * x1 * x1 * y1 * y1 := by grobner
 have a5 : d * (x1 * x1 * y1 * y1) * (d * x2 * x2 * y2 * y2) = (d * x1 * x2 * y1 * y2) * (d * x1 * x2 * y1 * y2) := by grobner
 rw [a1, a2, h, hi, he, a3]
 rw [h, he] at a5
 have a6 : d * (x1 * x1 * y1 * y1) * ((0 - 1) * (x2 * x2) + (1 + x2 * x2 + d * x2 * x2 * y2 * y2)) = d * (x1 * x1 * y1 * y1) + d * (x1 * x1 * y1 * y1) * (d * x2 * x2 * y2 * y2) := by grobner
 rw [a6, a5]
 grobner
theorem complete {d i : F} (hd : ∀ z : F, z * z ≠ d) (hi : i * i = 0 - 1) {x1 y1 x2 y2 e : F} (h1 : 0 - x1 * x1 + y1 * y1 - 1 - d * x1 * x1 * y1 * y1 = 0) (h2 : 0 - x2 * x2 + y2 * y2 - 1 - d * x2 * x2 * y2 * y2 = 0) (he : e * e = 1) (h : d * x1 * x2 * y1 * y2 = e) : False := by
 have z0 : ∀ a : F, a * 0 = 0 := fun a => by grobner
 have z1 : ∀ a : F, 0 * a = 0 := fun a => by grobner
 have he0 : e ≠ 0 := fun e0 => by rw [e0, z0] at he; exact zero_ne he
 have hx1 : x1 ≠ 0 := fun z => he0 (by rw [← h, z, z0, z1, z1, z1])
 have hy1 : y1 ≠ 0 := fun z => he0 (by rw [← h, z, z0, z1])
 have hy2 : y2 ≠ 0 := fun z => he0 (by rw [← h, z, z0])
 have hxy := mul_ne hx1 hy1
 by_cases ha : i * x2 + y2 = 0
 · by_cases hb : (0 - i) * x2 + y2 = 0
   · have h3 : (2 : F) * y2 = 0 := by
      have : (2 : F) * y2 = (i * x2 + y2) + ((0 - i) * x2 + y2) := by grobner
      rw [this, ha, hb]; grobner
     rcases mul_zero_or h3 with h4 | h4
     · exact two_ne h4
     · exact hy2 h4
   · exact no_sq hd (mul_ne hxy hb) (sq_p (i := 0 - i) (by grobner) h1 h2 he h)
 · exact no_sq hd (mul_ne hxy ha) (sq_p hi h1 h2 he h)
def on (x y : F) : Prop := 0 - x * x + y * y - 1 - dE * x * x * y * y = 0
theorem iE2 : iE * iE = 0 - 1 := by decide +kernel
theorem den_p {x1 y1 x2 y2 : F} (h1 : on x1 y1) (h2 : on x2 y2) : 1 + dE * x1 * x2 * y1 * y2 ≠ 0 := by
 obtain ⟨d, hd⟩ : ∃ d, d = dE := ⟨_, rfl⟩
 have hs := dE_sq
 unfold on at h1 h2
 rw [← hd] at h1 h2 hs ⊢
 exact fun h => complete hs iE2 h1 h2 (e := 0 - 1) (by grobner) (by grobner)
theorem den_m {x1 y1 x2 y2 : F} (h1 : on x1 y1) (h2 : on x2 y2) : 1 - dE * x1 * x2 * y1 * y2 ≠ 0 := by
 obtain ⟨d, hd⟩ : ∃ d, d = dE := ⟨_, rfl⟩
 have hs := dE_sq
 unfold on at h1 h2
 rw [← hd] at h1 h2 hs ⊢
 exact fun h => complete hs iE2 h1 h2 (e := 1) (by grobner) (by grobner)
theorem id_c {x1 y1 x2 y2 x3 y3 d : F} (h1 : (0 - x1 * x1 + y1 * y1 - 1 - d * x1 * x1 * y1 * y1) = 0) (h2 : (0 - x2 * x2 + y2 * y2 - 1 - d * x2 * x2 * y2 * y2) = 0) : (y1 * y2 + x1 * x2) * (y1 * y2 + x1 * x2) * (1 + d * x1 * x2 * y1 * y2) * (1 + d * x1 * x2 * y1 * y2) - (x1 * y2 + y1 * x2) * (x1 * y2 + y1 * x2) * (1 - d * x1 * x2 * y1 * y2) * (1 - d * x1 * x2 * y1 * y2) - (1 + d * x1 * x2 * y1 * y2) * (1 + d * x1 * x2 * y1 * y2) * (1 - d * x1 * x2 * y1 * y2) * (1 - d * x1 * x2 * y1 * y2) - d * (x1 * y2 + y1 * x2) * (x1 * y2 + y1 * x2) * (y1 * y2 + x1 * x2) * (y1 * y2 + x1 * x2) = 0 := by
 have h : (y1 * y2 + x1 * x2) * (y1 * y2 + x1 * x2) * (1 + d * x1 * x2 * y1 * y2) * (1 + d * x1 * x2 * y1 * y2) - (x1 * y2 + y1 * x2) * (x1 * y2 + y1 * x2) * (1 - d * x1 * x2 * y1 * y2) * (1 - d * x1 * x2 * y1 * y2) - (1 + d * x1 * x2 * y1 * y2) * (1 + d * x1 * x2 * y1 * y2) * (1 - d * x1 * x2 * y1 * y2) * (1 - d * x1 * x2 * y1 * y2) - d * (x1 * y2 + y1 * x2) * (x1 * y2 + y1 * x2) * (y1 * y2 + x1 * x2) * (y1 * y2 + x1 * x2) = (x1 * x1 * y1 * y1 * x2 * x2 * x2 * x2 * y2 * y2 * y2 * y2 * d * d * d - x1 * x1 * x2 * x2 * x2 * x2 * y2 * y2 * y2 * y2 * d * d - x1 * x1 * x2 * x2 * x2 * x2 * y2 * y2 * d + x1 * x1 * x2 * x2 * y2 * y2 * y2 * y2 * d + y1 * y1 * x2 * x2 * x2 * x2 * y2 * y2 * y2 * y2 * d * d + y1 * y1 * x2 * x2 * x2 * x2 * y2 * y2 * d - y1 * y1 * x2 * x2 * y2 * y2 * y2 * y2 * d - x2 * x2 * x2 * x2 * y2 * y2 * y2 * y2 * d * d - (2 : F) * x2 * x2 * x2 * x2 * y2 * y2 * y2 * y2 * d - (2 : F) * x2 * x2 * x2 * x2 * y2 * y2 + x2 * x2 * x2 * x2 + (2 : F) * x2 * x2 * y2 * y2 * y2 * y2 - (2 : F) * x2 * x2 * y2 * y2 * d - (4 : F) * x2 * x2 * y2 * y2 + y2 * y2 * y2 * y2) * (0 - x1 * x1 + y1 * y1 - 1 - d * x1 * x1 * y1 * y1) + (x1 * x1 * x1 * x1 * x2 * x2 * y2 * y2 * d + (2 : F) * x1 * x1 * x2 * x2 * y2 * y2 * d + (2 : F) * x1 * x1 * x2 * x2 * y2 * y2 - x1 * x1 * x2 * x2 + x1 * x1 * y2 * y2 + y1 * y1 * y1 * y1 * x2 * x2 * y2 * y2 * d - (2 : F) * y1 * y1 * x2 * x2 * y2 * y2 * d - (2 : F) * y1 * y1 * x2 * x2 * y2 * y2 + y1 * y1 * x2 * x2 - y1 * y1 * y2 * y2 + x2 * x2 * y2 * y2 * d + (2 : F) * x2 * x2 * y2 * y2 - x2 * x2 + y2 * y2 + (1 : F)) * (0 - x2 * x2 + y2 * y2 - 1 - d * x2 * x2 * y2 * y2) := by grobner
 rw [h, h1, h2]
 grobner
theorem id_x {x1 y1 x2 y2 x3 y3 d : F} (h1 : (0 - x1 * x1 + y1 * y1 - 1 - d * x1 * x1 * y1 * y1) = 0) (h2 : (0 - x2 * x2 + y2 * y2 - 1 - d * x2 * x2 * y2 * y2) = 0) (h3 : (0 - x3 * x3 + y3 * y3 - 1 - d * x3 * x3 * y3 * y3) = 0) : ((x1 * y2 + y1 * x2) * y3 * (1 - d * x1 * x2 * y1 * y2) + (y1 * y2 + x1 * x2) * x3 * (1 + d * x1 * x2 * y1 * y2)) * ((1 + d * x2 * x3 * y2 * y3) * (1 - d * x2 * x3 * y2 * y3) + d * (x2 * y3 + y2 * x3) * (y2 * y3 + x2 * x3) * x1 * y1) - (x1 * (y2 * y3 + x2 * x3) * (1 + d * x2 * x3 * y2 * y3) + y1 * (x2 * y3 + y2 * x3) * (1 - d * x2 * x3 * y2 * y3)) * ((1 + d * x1 * x2 * y1 * y2) * (1 - d * x1 * x2 * y1 * y2) + d * (x1 * y2 + y1 * x2) * (y1 * y2 + x1 * x2) * x3 * y3) = 0 := by
 have h : ((x1 * y2 + y1 * x2) * y3 * (1 - d * x1 * x2 * y1 * y2) + (y1 * y2 + x1 * x2) * x3 * (1 + d * x1 * x2 * y1 * y2)) * ((1 + d * x2 * x3 * y2 * y3) * (1 - d * x2 * x3 * y2 * y3) + d * (x2 * y3 + y2 * x3) * (y2 * y3 + x2 * x3) * x1 * y1) - (x1 * (y2 * y3 + x2 * x3) * (1 + d * x2 * x3 * y2 * y3) + y1 * (x2 * y3 + y2 * x3) * (1 - d * x2 * x3 * y2 * y3)) * ((1 + d * x1 * x2 * y1 * y2) * (1 - d * x1 * x2 * y1 * y2) + d * (x1 * y2 + y1 * x2) * (y1 * y2 + x1 * x2) * x3 * y3) = (0 - x1 * x2 * x2 * x2 * x2 * y2 * y2 * y2 * x3 * x3 * y3 * d * d - x1 * x2 * x2 * x2 * x2 * y2 * x3 * x3 * y3 * d - x1 * x2 * x2 * x2 * y2 * y2 * y2 * y2 * x3 * y3 * y3 * d * d - x1 * x2 * x2 * x2 * y2 * y2 * x3 * x3 * x3 * d - x1 * x2 * x2 * x2 * y2 * y2 * x3 * d + x1 * x2 * x2 * y2 * y2 * y2 * y3 * y3 * y3 * d - x1 * x2 * x2 * y2 * y2 * y2 * y3 * d + x1 * x2 * y2 * y2 * y2 * y2 * x3 * y3 * y3 * d + y1 * x2 * x2 * x2 * x2 * y2 * y2 * y2 * x3 * y3 * y3 * d * d + y1 * x2 * x2 * x2 * x2 * y2 * x3 * y3 * y3 * d + y1 * x2 * x2 * x2 * y2 * y2 * y2 * y2 * x3 * x3 * y3 * d * d + y1 * x2 * x2 * x2 * y2 * y2 * y3 * y3 * y3 * d - y1 * x2 * x2 * x2 * y2 * y2 * y3 * d - y1 * x2 * x2 * y2 * y2 * y2 * x3 * x3 * x3 * d - y1 * x2 * x2 * y2 * y2 * y2 * x3 * d - y1 * x2 * y2 * y2 * y2 * y2 * x3 * x3 * y3 * d) * (0 - x1 * x1 + y1 * y1 - 1 - d * x1 * x1 * y1 * y1) + (x1 * x1 * x1 * x2 * x2 * y2 * x3 * x3 * y3 * d + x1 * x1 * x1 * x2 * y2 * y2 * x3 * y3 * y3 * d + x1 * x1 * x1 * x2 * x3 * x3 * x3 * y3 * y3 * d + x1 * x1 * x1 * x2 * x3 * x3 * x3 - x1 * x1 * x1 * x2 * x3 * y3 * y3 + x1 * x1 * x1 * x2 * x3 + x1 * x1 * x1 * y2 * x3 * x3 * y3 * y3 * y3 * d + x1 * x1 * x1 * y2 * x3 * x3 * y3 - x1 * x1 * x1 * y2 * y3 * y3 * y3 + x1 * x1 * x1 * y2 * y3 + x1 * x1 * y1 * x2 * x2 * y2 * x3 * x3 * x3 * y3 * y3 * d * d - x1 * x1 * y1 * x2 * x2 * y2 * x3 * y3 * y3 * d - x1 * x1 * y1 * x2 * y2 * y2 * x3 * x3 * y3 * y3 * y3 * d * d - x1 * x1 * y1 * x2 * y2 * y2 * x3 * x3 * y3 * d + x1 * x1 * y1 * x2 * x3 * x3 * y3 * y3 * y3 * d + x1 * x1 * y1 * x2 * x3 * x3 * y3 - x1 * x1 * y1 * x2 * y3 * y3 * y3 + x1 * x1 * y1 * x2 * y3 + x1 * x1 * y1 * y2 * x3 * x3 * x3 * y3 * y3 * d + x1 * x1 * y1 * y2 * x3 * x3 * x3 - x1 * x1 * y1 * y2 * x3 * y3 * y3 + x1 * x1 * y1 * y2 * x3 - x1 * y1 * y1 * x2 * x2 * y2 * x3 * x3 * y3 * y3 * y3 * d * d - x1 * y1 * y1 * x2 * x2 * y2 * x3 * x3 * y3 * d + x1 * y1 * y1 * x2 * y2 * y2 * x3 * x3 * x3 * y3 * y3 * d * d - x1 * y1 * y1 * x2 * y2 * y2 * x3 * y3 * y3 * d - x1 * y1 * y1 * x2 * x3 * x3 * x3 * y3 * y3 * d - x1 * y1 * y1 * x2 * x3 * x3 * x3 + x1 * y1 * y1 * x2 * x3 * y3 * y3 - x1 * y1 * y1 * x2 * x3 - x1 * y1 * y1 * y2 * x3 * x3 * y3 * y3 * y3 * d - x1 * y1 * y1 * y2 * x3 * x3 * y3 + x1 * y1 * y1 * y2 * y3 * y3 * y3 - x1 * y1 * y1 * y2 * y3 + x1 * x2 * x2 * y2 * x3 * x3 * y3 * d + x1 * x2 * y2 * y2 * x3 * y3 * y3 * d + x1 * x2 * x3 * x3 * x3 * y3 * y3 * d + x1 * x2 * x3 * x3 * x3 - x1 * x2 * x3 * y3 * y3 + x1 * x2 * x3 + x1 * y2 * x3 * x3 * y3 * y3 * y3 * d + x1 * y2 * x3 * x3 * y3 - x1 * y2 * y3 * y3 * y3 + x1 * y2 * y3 + y1 * y1 * y1 * x2 * x2 * y2 * x3 * y3 * y3 * d + y1 * y1 * y1 * x2 * y2 * y2 * x3 * x3 * y3 * d - y1 * y1 * y1 * x2 * x3 * x3 * y3 * y3 * y3 * d - y1 * y1 * y1 * x2 * x3 * x3 * y3 + y1 * y1 * y1 * x2 * y3 * y3 * y3 - y1 * y1 * y1 * x2 * y3 - y1 * y1 * y1 * y2 * x3 * x3 * x3 * y3 * y3 * d - y1 * y1 * y1 * y2 * x3 * x3 * x3 + y1 * y1 * y1 * y2 * x3 * y3 * y3 - y1 * y1 * y1 * y2 * x3 - y1 * x2 * x2 * y2 * x3 * y3 * y3 * d - y1 * x2 * y2 * y2 * x3 * x3 * y3 * d + y1 * x2 * x3 * x3 * y3 * y3 * y3 * d + y1 * x2 * x3 * x3 * y3 - y1 * x2 * y3 * y3 * y3 + y1 * x2 * y3 + y1 * y2 * x3 * x3 * x3 * y3 * y3 * d + y1 * y2 * x3 * x3 * x3 - y1 * y2 * x3 * y3 * y3 + y1 * y2 * x3) * (0 - x2 * x2 + y2 * y2 - 1 - d * x2 * x2 * y2 * y2) + (0 - x1 * x1 * x1 * x2 * x2 * x2 * x3 - x1 * x1 * x1 * x2 * x2 * y2 * y3 + x1 * x1 * x1 * x2 * y2 * y2 * x3 - x1 * x1 * x1 * x2 * x3 + x1 * x1 * x1 * y2 * y2 * y2 * y3 - x1 * x1 * x1 * y2 * y3 - x1 * x1 * y1 * x2 * x2 * x2 * y3 - x1 * x1 * y1 * x2 * x2 * y2 * x3 * d - x1 * x1 * y1 * x2 * x2 * y2 * x3 + x1 * x1 * y1 * x2 * y2 * y2 * y3 * d + x1 * x1 * y1 * x2 * y2 * y2 * y3 - x1 * x1 * y1 * x2 * y3 + x1 * x1 * y1 * y2 * y2 * y2 * x3 - x1 * x1 * y1 * y2 * x3 + x1 * y1 * y1 * x2 * x2 * x2 * x3 + x1 * y1 * y1 * x2 * x2 * y2 * y3 * d + x1 * y1 * y1 * x2 * x2 * y2 * y3 - x1 * y1 * y1 * x2 * y2 * y2 * x3 * d - x1 * y1 * y1 * x2 * y2 * y2 * x3 + x1 * y1 * y1 * x2 * x3 - x1 * y1 * y1 * y2 * y2 * y2 * y3 + x1 * y1 * y1 * y2 * y3 - x1 * x2 * x2 * x2 * x3 - x1 * x2 * x2 * y2 * y3 + x1 * x2 * y2 * y2 * x3 - x1 * x2 * x3 + x1 * y2 * y2 * y2 * y3 - x1 * y2 * y3 + y1 * y1 * y1 * x2 * x2 * x2 * y3 + y1 * y1 * y1 * x2 * x2 * y2 * x3 - y1 * y1 * y1 * x2 * y2 * y2 * y3 + y1 * y1 * y1 * x2 * y3 - y1 * y1 * y1 * y2 * y2 * y2 * x3 + y1 * y1 * y1 * y2 * x3 - y1 * x2 * x2 * x2 * y3 - y1 * x2 * x2 * y2 * x3 + y1 * x2 * y2 * y2 * y3 - y1 * x2 * y3 + y1 * y2 * y2 * y2 * x3 - y1 * y2 * x3) * (0 - x3 * x3 + y3 * y3 - 1 - d * x3 * x3 * y3 * y3) := by grobner
 rw [h, h1, h2, h3]
 grobner
theorem id_y {x1 y1 x2 y2 x3 y3 d : F} (h1 : (0 - x1 * x1 + y1 * y1 - 1 - d * x1 * x1 * y1 * y1) = 0) (h2 : (0 - x2 * x2 + y2 * y2 - 1 - d * x2 * x2 * y2 * y2) = 0) (h3 : (0 - x3 * x3 + y3 * y3 - 1 - d * x3 * x3 * y3 * y3) = 0) : ((y1 * y2 + x1 * x2) * y3 * (1 + d * x1 * x2 * y1 * y2) + (x1 * y2 + y1 * x2) * x3 * (1 - d * x1 * x2 * y1 * y2)) * ((1 + d * x2 * x3 * y2 * y3) * (1 - d * x2 * x3 * y2 * y3) - d * (x2 * y3 + y2 * x3) * (y2 * y3 + x2 * x3) * x1 * y1) - (y1 * (y2 * y3 + x2 * x3) * (1 + d * x2 * x3 * y2 * y3) + x1 * (x2 * y3 + y2 * x3) * (1 - d * x2 * x3 * y2 * y3)) * ((1 + d * x1 * x2 * y1 * y2) * (1 - d * x1 * x2 * y1 * y2) - d * (x1 * y2 + y1 * x2) * (y1 * y2 + x1 * x2) * x3 * y3) = 0 := by
 have h : ((y1 * y2 + x1 * x2) * y3 * (1 + d * x1 * x2 * y1 * y2) + (x1 * y2 + y1 * x2) * x3 * (1 - d * x1 * x2 * y1 * y2)) * ((1 + d * x2 * x3 * y2 * y3) * (1 - d * x2 * x3 * y2 * y3) - d * (x2 * y3 + y2 * x3) * (y2 * y3 + x2 * x3) * x1 * y1) - (y1 * (y2 * y3 + x2 * x3) * (1 + d * x2 * x3 * y2 * y3) + x1 * (x2 * y3 + y2 * x3) * (1 - d * x2 * x3 * y2 * y3)) * ((1 + d * x1 * x2 * y1 * y2) * (1 - d * x1 * x2 * y1 * y2) - d * (x1 * y2 + y1 * x2) * (y1 * y2 + x1 * x2) * x3 * y3) = (x1 * x2 * x2 * x2 * x2 * y2 * y2 * y2 * x3 * y3 * y3 * d * d + x1 * x2 * x2 * x2 * x2 * y2 * x3 * y3 * y3 * d + x1 * x2 * x2 * x2 * y2 * y2 * y2 * y2 * x3 * x3 * y3 * d * d + x1 * x2 * x2 * x2 * y2 * y2 * y3 * y3 * y3 * d - x1 * x2 * x2 * x2 * y2 * y2 * y3 * d - x1 * x2 * x2 * y2 * y2 * y2 * x3 * x3 * x3 * d - x1 * x2 * x2 * y2 * y2 * y2 * x3 * d - x1 * x2 * y2 * y2 * y2 * y2 * x3 * x3 * y3 * d - y1 * x2 * x2 * x2 * x2 * y2 * y2 * y2 * x3 * x3 * y3 * d * d - y1 * x2 * x2 * x2 * x2 * y2 * x3 * x3 * y3 * d - y1 * x2 * x2 * x2 * y2 * y2 * y2 * y2 * x3 * y3 * y3 * d * d - y1 * x2 * x2 * x2 * y2 * y2 * x3 * x3 * x3 * d - y1 * x2 * x2 * x2 * y2 * y2 * x3 * d + y1 * x2 * x2 * y2 * y2 * y2 * y3 * y3 * y3 * d - y1 * x2 * x2 * y2 * y2 * y2 * y3 * d + y1 * x2 * y2 * y2 * y2 * y2 * x3 * y3 * y3 * d) * (0 - x1 * x1 + y1 * y1 - 1 - d * x1 * x1 * y1 * y1) + (0 - x1 * x1 * x1 * x2 * x2 * y2 * x3 * y3 * y3 * d - x1 * x1 * x1 * x2 * y2 * y2 * x3 * x3 * y3 * d + x1 * x1 * x1 * x2 * x3 * x3 * y3 * y3 * y3 * d + x1 * x1 * x1 * x2 * x3 * x3 * y3 - x1 * x1 * x1 * x2 * y3 * y3 * y3 + x1 * x1 * x1 * x2 * y3 + x1 * x1 * x1 * y2 * x3 * x3 * x3 * y3 * y3 * d + x1 * x1 * x1 * y2 * x3 * x3 * x3 - x1 * x1 * x1 * y2 * x3 * y3 * y3 + x1 * x1 * x1 * y2 * x3 + x1 * x1 * y1 * x2 * x2 * y2 * x3 * x3 * y3 * y3 * y3 * d * d + x1 * x1 * y1 * x2 * x2 * y2 * x3 * x3 * y3 * d - x1 * x1 * y1 * x2 * y2 * y2 * x3 * x3 * x3 * y3 * y3 * d * d + x1 * x1 * y1 * x2 * y2 * y2 * x3 * y3 * y3 * d + x1 * x1 * y1 * x2 * x3 * x3 * x3 * y3 * y3 * d + x1 * x1 * y1 * x2 * x3 * x3 * x3 - x1 * x1 * y1 * x2 * x3 * y3 * y3 + x1 * x1 * y1 * x2 * x3 + x1 * x1 * y1 * y2 * x3 * x3 * y3 * y3 * y3 * d + x1 * x1 * y1 * y2 * x3 * x3 * y3 - x1 * x1 * y1 * y2 * y3 * y3 * y3 + x1 * x1 * y1 * y2 * y3 - x1 * y1 * y1 * x2 * x2 * y2 * x3 * x3 * x3 * y3 * y3 * d * d + x1 * y1 * y1 * x2 * x2 * y2 * x3 * y3 * y3 * d + x1 * y1 * y1 * x2 * y2 * y2 * x3 * x3 * y3 * y3 * y3 * d * d + x1 * y1 * y1 * x2 * y2 * y2 * x3 * x3 * y3 * d - x1 * y1 * y1 * x2 * x3 * x3 * y3 * y3 * y3 * d - x1 * y1 * y1 * x2 * x3 * x3 * y3 + x1 * y1 * y1 * x2 * y3 * y3 * y3 - x1 * y1 * y1 * x2 * y3 - x1 * y1 * y1 * y2 * x3 * x3 * x3 * y3 * y3 * d - x1 * y1 * y1 * y2 * x3 * x3 * x3 + x1 * y1 * y1 * y2 * x3 * y3 * y3 - x1 * y1 * y1 * y2 * x3 - x1 * x2 * x2 * y2 * x3 * y3 * y3 * d - x1 * x2 * y2 * y2 * x3 * x3 * y3 * d + x1 * x2 * x3 * x3 * y3 * y3 * y3 * d + x1 * x2 * x3 * x3 * y3 - x1 * x2 * y3 * y3 * y3 + x1 * x2 * y3 + x1 * y2 * x3 * x3 * x3 * y3 * y3 * d + x1 * y2 * x3 * x3 * x3 - x1 * y2 * x3 * y3 * y3 + x1 * y2 * x3 - y1 * y1 * y1 * x2 * x2 * y2 * x3 * x3 * y3 * d - y1 * y1 * y1 * x2 * y2 * y2 * x3 * y3 * y3 * d - y1 * y1 * y1 * x2 * x3 * x3 * x3 * y3 * y3 * d - y1 * y1 * y1 * x2 * x3 * x3 * x3 + y1 * y1 * y1 * x2 * x3 * y3 * y3 - y1 * y1 * y1 * x2 * x3 - y1 * y1 * y1 * y2 * x3 * x3 * y3 * y3 * y3 * d - y1 * y1 * y1 * y2 * x3 * x3 * y3 + y1 * y1 * y1 * y2 * y3 * y3 * y3 - y1 * y1 * y1 * y2 * y3 + y1 * x2 * x2 * y2 * x3 * x3 * y3 * d + y1 * x2 * y2 * y2 * x3 * y3 * y3 * d + y1 * x2 * x3 * x3 * x3 * y3 * y3 * d + y1 * x2 * x3 * x3 * x3 - y1 * x2 * x3 * y3 * y3 + y1 * x2 * x3 + y1 * y2 * x3 * x3 * y3 * y3 * y3 * d + y1 * y2 * x3 * x3 * y3 - y1 * y2 * y3 * y3 * y3 + y1 * y2 * y3) * (0 - x2 * x2 + y2 * y2 - 1 - d * x2 * x2 * y2 * y2) + (0 - x1 * x1 * x1 * x2 * x2 * x2 * y3 - x1 * x1 * x1 * x2 * x2 * y2 * x3 + x1 * x1 * x1 * x2 * y2 * y2 * y3 - x1 * x1 * x1 * x2 * y3 + x1 * x1 * x1 * y2 * y2 * y2 * x3 - x1 * x1 * x1 * y2 * x3 - x1 * x1 * y1 * x2 * x2 * x2 * x3 - x1 * x1 * y1 * x2 * x2 * y2 * y3 * d - x1 * x1 * y1 * x2 * x2 * y2 * y3 + x1 * x1 * y1 * x2 * y2 * y2 * x3 * d + x1 * x1 * y1 * x2 * y2 * y2 * x3 - x1 * x1 * y1 * x2 * x3 + x1 * x1 * y1 * y2 * y2 * y2 * y3 - x1 * x1 * y1 * y2 * y3 + x1 * y1 * y1 * x2 * x2 * x2 * y3 + x1 * y1 * y1 * x2 * x2 * y2 * x3 * d + x1 * y1 * y1 * x2 * x2 * y2 * x3 - x1 * y1 * y1 * x2 * y2 * y2 * y3 * d - x1 * y1 * y1 * x2 * y2 * y2 * y3 + x1 * y1 * y1 * x2 * y3 - x1 * y1 * y1 * y2 * y2 * y2 * x3 + x1 * y1 * y1 * y2 * x3 - x1 * x2 * x2 * x2 * y3 - x1 * x2 * x2 * y2 * x3 + x1 * x2 * y2 * y2 * y3 - x1 * x2 * y3 + x1 * y2 * y2 * y2 * x3 - x1 * y2 * x3 + y1 * y1 * y1 * x2 * x2 * x2 * x3 + y1 * y1 * y1 * x2 * x2 * y2 * y3 - y1 * y1 * y1 * x2 * y2 * y2 * x3 + y1 * y1 * y1 * x2 * x3 - y1 * y1 * y1 * y2 * y2 * y2 * y3 + y1 * y1 * y1 * y2 * y3 - y1 * x2 * x2 * x2 * x3 - y1 * x2 * x2 * y2 * y3 + y1 * x2 * y2 * y2 * x3 - y1 * x2 * x3 + y1 * y2 * y2 * y2 * y3 - y1 * y2 * y3) * (0 - x3 * x3 + y3 * y3 - 1 - d * x3 * x3 * y3 * y3) := by grobner
 rw [h, h1, h2, h3]
 grobner
theorem sub_eq {a b : F} (h : a - b = 0) : a = b := by grobner
theorem m_one (a : F) : a * 1 = a := by grobner
theorem ring1 (p al t2 be : F) : p * al * (t2 * be) = (p * t2) * (al * be) := by grobner
theorem ring2 (q be t al : F) : (q * t) * (al * be) = q * be * (t * al) := by grobner
theorem glue_c {N D M E u v d : F} (hu : D * u = 1) (hv : E * v = 1) (h : M * M * D * D - N * N * E * E - D * D * E * E - d * N * N * M * M = 0) :
 0 - (N * u) * (N * u) + (M * v) * (M * v) - 1 - d * (N * u) * (N * u) * (M * v) * (M * v) = 0 := by
 have a1 : (u * u * v * v) * (M * M * D * D - N * N * E * E - D * D * E * E - d * N * N * M * M) = (M * v) * (M * v) * ((D * u) * (D * u)) - (N * u) * (N * u) * ((E * v) * (E * v)) - ((D * u) * (D * u)) * ((E * v) * (E * v)) - d * (N * u) * (N * u) * (M * v) * (M * v) := by grobner
 rw [h, hu, hv] at a1
 grobner
theorem glue {N D M E N2 D2 M2 E2 u v u2 v2 x1 y1 x3 y3 t t2 al be : F} (s : F) (hu : D * u = 1) (hv : E * v = 1) (hu2 : D2 * u2 = 1) (hv2 : E2 * v2 = 1)
 (ht : t = 1 + s * ((N * u) * (M * v) * x3 * y3)) (ht2 : t2 = 1 + s * ((N2 * u2) * (M2 * v2) * x1 * y1)) (ha : t * al = 1) (hb : t2 * be = 1)
 (h : (N * y3 * E + M * x3 * D) * (D2 * E2 + s * N2 * M2 * x1 * y1) - (x1 * M2 * D2 + y1 * N2 * E2) * (D * E + s * N * M * x3 * y3) = 0) :
 ((N * u) * y3 + (M * v) * x3) * al = (x1 * (M2 * v2) + y1 * (N2 * u2)) * be := by
 have a1 : (u * v * u2 * v2) * ((N * y3 * E + M * x3 * D) * (D2 * E2 + s * N2 * M2 * x1 * y1)) = ((N * u) * y3 * (E * v) + (M * v) * x3 * (D * u)) * ((D2 * u2) * (E2 * v2) + s * ((N2 * u2) * (M2 * v2) * x1 * y1)) := by grobner
 have a2 : (u * v * u2 * v2) * ((x1 * M2 * D2 + y1 * N2 * E2) * (D * E + s * N * M * x3 * y3)) = (x1 * (M2 * v2) * (D2 * u2) + y1 * (N2 * u2) * (E2 * v2)) * ((D * u) * (E * v) + s * ((N * u) * (M * v) * x3 * y3)) := by grobner
 have a3 : (N * y3 * E + M * x3 * D) * (D2 * E2 + s * N2 * M2 * x1 * y1) = (x1 * M2 * D2 + y1 * N2 * E2) * (D * E + s * N * M * x3 * y3) := sub_eq h
 rw [a3, a2, hu, hv, hu2, hv2] at a1
 obtain ⟨p, hp⟩ : ∃ p, p = (N * u) * y3 + (M * v) * x3 := ⟨_, rfl⟩
 obtain ⟨q, hq⟩ : ∃ q, q = x1 * (M2 * v2) + y1 * (N2 * u2) := ⟨_, rfl⟩
 have a4 : q * t = p * t2 := by rw [hp, hq, ht, ht2]; simp only [m_one] at a1; exact a1
 rw [← hp, ← hq]
 have a5 := ring1 p al t2 be
 have a6 := ring2 q be t al
 rw [hb, m_one] at a5
 rw [ha, m_one] at a6
 rw [a5, ← a4, a6]
structure Pt where
 x : F
 y : F
 h : on x y
theorem Pt.eq {p q : Pt} (hx : p.x = q.x) (hy : p.y = q.y) : p = q := by cases p; cases q; cases hx; cases hy; rfl
def Pt.add (p q : Pt) : Pt where
 x := (p.x * q.y + p.y * q.x) * inv (1 + dE * p.x * q.x * p.y * q.y)
 y := (p.y * q.y + p.x * q.x) * inv (1 - dE * p.x * q.x * p.y * q.y)
 h := glue_c (mul_inv (den_p p.h q.h)) (mul_inv (den_m p.h q.h)) (id_c (x3 := 0) (y3 := 0) p.h q.h)
theorem t_x (d a x3 b y3 : F) : 1 + d * a * x3 * b * y3 = 1 + d * (a * b * x3 * y3) := by grobner
theorem t_x2 (d x1 a y1 b : F) : 1 + d * x1 * a * y1 * b = 1 + d * (a * b * x1 * y1) := by grobner
theorem t_y (d a x3 b y3 : F) : 1 - d * a * x3 * b * y3 = 1 + (0 - d) * (b * a * x3 * y3) := by grobner
theorem t_y2 (d x1 a y1 b : F) : 1 - d * x1 * a * y1 * b = 1 + (0 - d) * (a * b * y1 * x1) := by grobner
theorem h_y (N D M E N2 D2 M2 E2 x1 y1 x3 y3 d : F) : (M * y3 * D + N * x3 * E) * (D2 * E2 + (0 - d) * N2 * M2 * y1 * x1) - (y1 * M2 * D2 + x1 * N2 * E2) * (E * D + (0 - d) * M * N * x3 * y3) = (M * y3 * D + N * x3 * E) * (D2 * E2 - d * N2 * M2 * x1 * y1) - (y1 * M2 * D2 + x1 * N2 * E2) * (D * E - d * N * M * x3 * y3) := by grobner
theorem Pt.assoc (p q r : Pt) : (p.add q).add r = p.add (q.add r) := by
 have D1 := mul_inv (den_p p.h q.h)
 have E1 := mul_inv (den_m p.h q.h)
 have D2 := mul_inv (den_p q.h r.h)
 have E2 := mul_inv (den_m q.h r.h)
 apply Pt.eq
 · exact glue dE D1 E1 D2 E2 (t_x _ _ _ _ _) (t_x2 _ _ _ _ _) (mul_inv (den_p (p.add q).h r.h)) (mul_inv (den_p p.h (q.add r).h)) (id_x p.h q.h r.h)
 · exact glue (0 - dE) E1 D1 D2 E2 (t_y _ _ _ _ _) (t_y2 _ _ _ _ _) (mul_inv (den_m (p.add q).h r.h)) (mul_inv (den_m p.h (q.add r).h)) ((h_y _ _ _ _ _ _ _ _ _ _ _ _ _).trans (id_y p.h q.h r.h))
theorem on_zero (d : F) : 0 - (0 : F) * 0 + 1 * 1 - 1 - d * 0 * 0 * 1 * 1 = 0 := by grobner
def Pt.zero : Pt := ⟨0, 1, on_zero dE⟩
theorem one_ne : (1 : F) ≠ 0 := fun h => zero_ne h.symm
theorem inv_one : inv 1 = 1 := by
 have h := mul_inv one_ne
 obtain ⟨v, hv⟩ : ∃ v, v = inv 1 := ⟨_, rfl⟩
 rw [← hv] at h ⊢
 have e : (1 : F) * v = v := by grobner
 rw [← e]; exact h
theorem z_p (d x y : F) : 1 + d * 0 * x * 1 * y = 1 := by grobner
theorem z_m (d x y : F) : 1 - d * 0 * x * 1 * y = 1 := by grobner
theorem z_x (x y : F) : (0 * y + 1 * x) * 1 = x := by grobner
theorem z_y (x y : F) : (1 * y + 0 * x) * 1 = y := by grobner
theorem Pt.zero_add (p : Pt) : Pt.zero.add p = p := by
 apply Pt.eq
 · show (0 * p.y + 1 * p.x) * inv (1 + dE * 0 * p.x * 1 * p.y) = p.x
   rw [z_p, inv_one, z_x]
 · show (1 * p.y + 0 * p.x) * inv (1 - dE * 0 * p.x * 1 * p.y) = p.y
   rw [z_m, inv_one, z_y]
theorem c_n (a b x y : F) : a * y + b * x = x * b + y * a := by grobner
theorem c_m (a b x y : F) : b * y + a * x = y * b + x * a := by grobner
theorem c_t (d a b x y : F) : d * a * x * b * y = d * x * a * y * b := by grobner
theorem Pt.comm (p q : Pt) : p.add q = q.add p := by
 apply Pt.eq
 · show (p.x * q.y + p.y * q.x) * inv (1 + dE * p.x * q.x * p.y * q.y) = (q.x * p.y + q.y * p.x) * inv (1 + dE * q.x * p.x * q.y * p.y)
   rw [c_n, c_t]
 · show (p.y * q.y + p.x * q.x) * inv (1 - dE * p.x * q.x * p.y * q.y) = (q.y * p.y + q.x * p.x) * inv (1 - dE * q.x * p.x * q.y * p.y)
   rw [c_m, c_t]
theorem Pt.add_zero (p : Pt) : p.add Pt.zero = p := by rw [Pt.comm, Pt.zero_add]
def Pt.mul : Nat → Pt → Pt
 | 0, _ => Pt.zero
 | n + 1, p => (Pt.mul n p).add p
theorem Pt.mul_add (p : Pt) (m : Nat) : ∀ n, Pt.mul (m + n) p = (Pt.mul m p).add (Pt.mul n p)
 | 0 => (Pt.add_zero _).symm
 | n + 1 => by
  show (Pt.mul (m + n) p).add p = (Pt.mul m p).add ((Pt.mul n p).add p)
  rw [Pt.mul_add p m n, Pt.assoc]
theorem Pt.mul_mul (p : Pt) (n : Nat) : ∀ m, Pt.mul (m * n) p = Pt.mul m (Pt.mul n p)
 | 0 => by rw [Nat.zero_mul]; rfl
 | m + 1 => by rw [Nat.succ_mul, Pt.mul_add, Pt.mul_mul p n m]; rfl
theorem Pt.mul_swap (p : Pt) (m n : Nat) : Pt.mul m (Pt.mul n p) = Pt.mul n (Pt.mul m p) := by rw [← Pt.mul_mul, ← Pt.mul_mul, Nat.mul_comm]
theorem on_neg (d x y : F) (h : 0 - x * x + y * y - 1 - d * x * x * y * y = 0) : 0 - (0 - x) * (0 - x) + y * y - 1 - d * (0 - x) * (0 - x) * y * y = 0 := by grobner
def Pt.neg (p : Pt) : Pt := ⟨0 - p.x, p.y, on_neg dE p.x p.y p.h⟩
theorem n_x (x y : F) : x * y + y * (0 - x) = 0 := by grobner
theorem n_0 (v : F) : 0 * v = 0 := by grobner
theorem n_y (d x y : F) (h : 0 - x * x + y * y - 1 - d * x * x * y * y = 0) : y * y + x * (0 - x) = 1 - d * x * (0 - x) * y * y := by grobner
theorem Pt.add_neg (p : Pt) : p.add p.neg = Pt.zero := by
 apply Pt.eq
 · show (p.x * p.y + p.y * (0 - p.x)) * inv (1 + dE * p.x * (0 - p.x) * p.y * p.y) = 0
   rw [n_x, n_0]
 · show (p.y * p.y + p.x * (0 - p.x)) * inv (1 - dE * p.x * (0 - p.x) * p.y * p.y) = 1
   rw [n_y dE p.x p.y p.h]
   exact mul_inv (den_m p.h p.neg.h)
theorem Pt.cancel (p q r : Pt) (h : p.add r = q.add r) : p = q := by
 have h2 := congrArg (fun x => Pt.add x r.neg) h
 simp only [Pt.assoc, Pt.add_neg, Pt.add_zero] at h2
 exact h2
def bx : F := ⟨15112221349535400772501151409588531511454012693041857206046113283949847762202, by decide +kernel⟩
def byy : F := ⟨46316835694926478169428394003475163141307993866256225615783033603165251855960, by decide +kernel⟩
theorem on_base : on bx byy := by unfold on; decide +kernel
def base : Pt := ⟨bx, byy, on_base⟩
/-- 2 ^ n times a point, and what its number of multiples is: by doubling -/
theorem Pt.mul_two (n : Nat) (q : Pt) : Pt.mul (2 * n) q = (Pt.mul n q).add (Pt.mul n q) := by rw [Nat.two_mul, Pt.mul_add]
theorem Pt.mul_odd (n : Nat) (q : Pt) : Pt.mul (2 * n + 1) q = ((Pt.mul n q).add (Pt.mul n q)).add q := by
 show (Pt.mul (2 * n) q).add q = _
 rw [Pt.mul_two]
/-- by the places of the number, from the top: f places are left -/
def Pt.dbl (q : Pt) (n : Nat) : Nat → Pt
 | 0 => Pt.zero
 | f + 1 => let r := Pt.dbl q (n / 2) f
  if n % 2 = 1 then (r.add r).add q else r.add r
theorem Pt.dbl_eq (q : Pt) : ∀ (f n : Nat), n < 2 ^ f → Pt.dbl q n f = Pt.mul n q
 | 0, n, h => by
  have : n = 0 := by simpa using h
  subst this; rfl
 | f + 1, n, h => by
  have ih := Pt.dbl_eq q f (n / 2) (by rw [Nat.pow_succ] at h; omega)
  rw [Pt.dbl]
  simp only [ih]
  by_cases hb : n % 2 = 1
  · rw [if_pos hb, ← Pt.mul_odd, show 2 * (n / 2) + 1 = n by omega]
  · rw [if_neg hb, ← Pt.mul_two, show 2 * (n / 2) = n by omega]
/-- (X, Y, Z) stands for p -/
structure Rep (p : Pt) (X Y Z : F) : Prop where
 x : X = p.x * Z
 y : Y = p.y * Z
 z : Z ≠ 0
/-- the reference's sum -/
def aB (z1 z2 : F) : F := (z1 * z2) * (z1 * z2)
def aE (d x1 y1 x2 y2 : F) : F := d * ((x1 * x2) * (y1 * y2))
def aX (d x1 y1 z1 x2 y2 z2 : F) : F := ((z1 * z2) * (aB z1 z2 - aE d x1 y1 x2 y2)) * (((x1 + y1) * (x2 + y2) - x1 * x2) - y1 * y2)
def aY (d x1 y1 z1 x2 y2 z2 : F) : F := ((z1 * z2) * (aB z1 z2 + aE d x1 y1 x2 y2)) * (x1 * x2 + y1 * y2)
def aZ (d x1 y1 z1 x2 y2 z2 : F) : F := (aB z1 z2 - aE d x1 y1 x2 y2) * (aB z1 z2 + aE d x1 y1 x2 y2)
theorem r_m (x1 y1 z1 x2 y2 z2 d : F) : aB z1 z2 - aE d (x1 * z1) (y1 * z1) (x2 * z2) (y2 * z2) = (z1 * z2) * (z1 * z2) * (1 - d * x1 * x2 * y1 * y2) := by unfold aB aE; grobner
theorem r_p (x1 y1 z1 x2 y2 z2 d : F) : aB z1 z2 + aE d (x1 * z1) (y1 * z1) (x2 * z2) (y2 * z2) = (z1 * z2) * (z1 * z2) * (1 + d * x1 * x2 * y1 * y2) := by unfold aB aE; grobner
theorem r_x (x1 y1 z1 x2 y2 z2 u t v : F) (hv : t * v = 1) :
 ((z1 * z2) * u) * ((((x1 * z1) + (y1 * z1)) * ((x2 * z2) + (y2 * z2)) - (x1 * z1) * (x2 * z2)) - (y1 * z1) * (y2 * z2)) = ((x1 * y2 + y1 * x2) * v) * (u * ((z1 * z2) * (z1 * z2) * t)) := by
 have h : ((x1 * y2 + y1 * x2) * v) * (u * ((z1 * z2) * (z1 * z2) * t)) = ((x1 * y2 + y1 * x2) * (u * ((z1 * z2) * (z1 * z2)))) * (t * v) := by grobner
 rw [h, hv]
 grobner
theorem r_y (x1 y1 z1 x2 y2 z2 u t v : F) (hv : t * v = 1) :
 ((z1 * z2) * u) * ((x1 * z1) * (x2 * z2) + (y1 * z1) * (y2 * z2)) = ((y1 * y2 + x1 * x2) * v) * (((z1 * z2) * (z1 * z2) * t) * u) := by
 have h : ((y1 * y2 + x1 * x2) * v) * (((z1 * z2) * (z1 * z2) * t) * u) = ((y1 * y2 + x1 * x2) * (u * ((z1 * z2) * (z1 * z2)))) * (t * v) := by grobner
 rw [h, hv]
 grobner
theorem Rep.add {p q : Pt} {x1 y1 z1 x2 y2 z2 : F} (hp : Rep p x1 y1 z1) (hq : Rep q x2 y2 z2) :
 Rep (p.add q) (aX dE x1 y1 z1 x2 y2 z2) (aY dE x1 y1 z1 x2 y2 z2) (aZ dE x1 y1 z1 x2 y2 z2) := by
 obtain ⟨a1, a2, a3⟩ := hp
 obtain ⟨b1, b2, b3⟩ := hq
 subst a1 a2 b1 b2
 have hm := den_m p.h q.h
 have hp := den_p p.h q.h
 have hzz := mul_ne a3 b3
 refine ⟨?_, ?_, ?_⟩
 · unfold aX aZ
   rw [r_m, r_p]
   exact r_x _ _ _ _ _ _ _ _ _ (mul_inv hp)
 · unfold aY aZ
   rw [r_m, r_p]
   exact r_y _ _ _ _ _ _ _ _ _ (mul_inv hm)
 · unfold aZ
   rw [r_m, r_p]
   exact mul_ne (mul_ne (mul_ne hzz hzz) hm) (mul_ne (mul_ne hzz hzz) hp)
theorem e_z (z : F) : (0 : F) = 0 * z := by grobner
theorem e_o (z : F) : z = 1 * z := by grobner
theorem Rep.zero : Rep Pt.zero 0 1 1 := ⟨e_z 1, e_o 1, one_ne⟩
theorem Rep.of (p : Pt) : Rep p p.x p.y 1 := ⟨by rw [m_one], by rw [m_one], one_ne⟩
/-- two that stand for one point -/
theorem Rep.x_eq {p : Pt} {X Y Z : F} (h : Rep p X Y Z) : X * inv Z = p.x := by
 rw [h.x]
 have := mul_inv h.z
 have e : p.x * Z * inv Z = p.x * (Z * inv Z) := by grobner
 rw [e, this, m_one]
theorem Rep.y_eq {p : Pt} {X Y Z : F} (h : Rep p X Y Z) : Y * inv Z = p.y := by
 rw [h.y]
 have := mul_inv h.z
 have e : p.y * Z * inv Z = p.y * (Z * inv Z) := by grobner
 rw [e, this, m_one]
/-- over numbers, each reckoned ahead -/
def frc {α : Type} (n : Nat) (k : Nat → α) : α := Nat.rec (k 0) (fun m _ => k (m + 1)) n
theorem frc_eq {α : Type} (n : Nat) (k : Nat → α) : frc n k = k n := by cases n <;> rfl
def kAdd {α : Type} (X1 Y1 Z1 X2 Y2 Z2 : Nat) (k : Nat → Nat → Nat → α) : α :=
 frc (Z1 * Z2 % P) fun a => frc (a * a % P) fun b => frc (X1 * X2 % P) fun x => frc (Y1 * Y2 % P) fun y => frc (dE.val * (x * y % P) % P) fun e =>
 frc ((P - e + b) % P) fun f => frc ((b + e) % P) fun g => frc ((P - y + (P - x + (X1 + Y1) % P * ((X2 + Y2) % P) % P) % P) % P) fun c =>
 frc (a * f % P * c % P) fun X => frc (a * g % P * ((x + y) % P) % P) fun Y => frc (f * g % P) fun Z => k X Y Z
def kDbl {α : Type} (X Y Z : Nat) : Nat → Nat → (Nat → Nat → Nat → α) → α
 | 0, _, k => k 0 1 1
 | f + 1, n, k => frc (n / 2) fun m => kDbl X Y Z f m fun A B C => kAdd A B C A B C fun A B C => frc (n % 2) fun o =>
  Nat.rec (k A B C) (fun _ _ => kAdd A B C X Y Z k) o
theorem v_sub (a b : F) : (a - b).val = (P - b.val + a.val) % P := rfl
theorem v_add (a b : F) : (a + b).val = (a.val + b.val) % P := rfl
theorem kAdd_eq {α : Type} (x1 y1 z1 x2 y2 z2 : F) (k : Nat → Nat → Nat → α) :
 kAdd x1.val y1.val z1.val x2.val y2.val z2.val k = k (aX dE x1 y1 z1 x2 y2 z2).val (aY dE x1 y1 z1 x2 y2 z2).val (aZ dE x1 y1 z1 x2 y2 z2).val := by
 unfold kAdd
 simp only [frc_eq, ← val_mul, ← v_add, ← v_sub]
 rfl
theorem kDbl_eq (q : Pt) {X Y Z : F} (hq : Rep q X Y Z) : ∀ (f n : Nat), ∃ A B C : F, Rep (Pt.dbl q n f) A B C ∧ ∀ (α : Type) (k : Nat → Nat → Nat → α), kDbl X.val Y.val Z.val f n k = k A.val B.val C.val
 | 0, n => ⟨0, 1, 1, Rep.zero, fun α k => rfl⟩
 | f + 1, n => by
  obtain ⟨A, B, C, h1, h2⟩ := kDbl_eq q hq f (n / 2)
  have h3 := h1.add h1
  have h4 := h3.add hq
  by_cases hb : n % 2 = 1
  · have e : Pt.dbl q n (f + 1) = ((Pt.dbl q (n / 2) f).add (Pt.dbl q (n / 2) f)).add q := by rw [Pt.dbl]; simp only [hb, if_true]
    rw [e]
    refine ⟨_, _, _, h4, fun α k => ?_⟩
    unfold kDbl
    rw [frc_eq, h2, kAdd_eq, frc_eq, hb]
    show kAdd _ _ _ _ _ _ k = _
    rw [kAdd_eq]
  · have hb0 : n % 2 = 0 := by omega
    have e : Pt.dbl q n (f + 1) = (Pt.dbl q (n / 2) f).add (Pt.dbl q (n / 2) f) := by rw [Pt.dbl]; simp only [hb, if_false]
    rw [e]
    refine ⟨_, _, _, h3, fun α k => ?_⟩
    unfold kDbl
    rw [frc_eq, h2, kAdd_eq, frc_eq, hb0]
    rfl
/-- L, the base's order -/
abbrev L : Nat := 7237005577332262213973186563042994240857116359379907606001950938285454250989
theorem ord_k : (kDbl bx.val byy.val 1 253 L fun A B C => A == 0 && B == C) = true := by decide +kernel
theorem ord_base : Pt.mul L base = Pt.zero := by
 obtain ⟨A, B, C, h1, h2⟩ := kDbl_eq base (Rep.of base) 253 L
 have h3 := h2 Bool (fun A B C => A == 0 && B == C)
 have h4 := ord_k
 rw [show (1 : Nat) = (1 : F).val from rfl] at h4
 rw [show kDbl bx.val byy.val (1 : F).val 253 L (fun A B C => A == 0 && B == C) = _ from h3] at h4
 rw [Bool.and_eq_true, beq_iff_eq, beq_iff_eq] at h4
 rw [Pt.dbl_eq base 253 L (by decide +kernel)] at h1
 have hA : A = 0 := Fin.ext h4.1
 have hB : B = C := Fin.ext h4.2
 apply Pt.eq
 · rw [← h1.x_eq, hA]
   show 0 * inv C = (0 : F)
   exact n_0 _
 · rw [← h1.y_eq, hB, mul_inv h1.z]
   rfl
end Go.Proofs.YtfpcelmekfdafaaGreatDoor.Ed
namespace Go.Proofs.YtfpcelmekfdafaaGreatDoor.Kx
open Go.Proofs.YtfpcelmekfdafaaGreatDoor.Ed Go.Proofs.YtfpcelmekfdafaaGreatDoor.Cl
/-- a number's rest -/
def fe (n : Nat) : F := ⟨n % 57896044618658097711785492504343953926634992332820282019728792003956564819949, Nat.mod_lt _ Ed.P_pos⟩
theorem fe_val (n : Nat) : (fe n).val = n % Ed.P := rfl
theorem fe_eq {m n : Nat} (h : m % Ed.P = n % Ed.P) : fe m = fe n := Fin.ext h
theorem fe_add (m n : Nat) : fe (m + n) = fe m + fe n := Fin.ext (by show _ = (m % Ed.P + n % Ed.P) % Ed.P; rw [← Nat.add_mod]; rfl)
theorem fe_mul (m n : Nat) : fe (m * n) = fe m * fe n := Fin.ext (by show _ = (m % Ed.P * (n % Ed.P)) % Ed.P; rw [← Nat.mul_mod]; rfl)
theorem fe_of (x : F) : fe x.val = x := Fin.ext (Nat.mod_eq_of_lt x.isLt)
theorem fe_p (m q : Nat) : fe (m + q * Ed.P) = fe m := fe_eq (Nat.add_mul_mod_self_right _ _ _)
/-- little more than 51 bits in the lowest limb -/
structure tid (x : E) : Prop where
 a : x.a < 2251799813685348
 b : x.b < 2251799813685248
 c : x.c < 2251799813685248
 d : x.d < 2251799813685248
 e : x.e < 2251799813685248
def E.f (x : E) : F := fe x.val
theorem tid.ok {x : E} (h : tid x) : x.ok := by
 obtain ⟨a, b, c, d, e⟩ := x
 obtain ⟨h1, h2, h3, h4, h5⟩ := h
 exact E.ok5 (by unfold M; simp only at *; omega) (by unfold M; simp only at *; omega) (by unfold M; simp only at *; omega) (by unfold M; simp only at *; omega) (by unfold M; simp only at *; omega)
/-- each limb with room above -/
structure wid (n : Nat) (x : E) : Prop where
 a : x.a < n
 b : x.b < n
 c : x.c < n
 d : x.d < n
 e : x.e < n
theorem carry_go {n : Nat} {x : E} (hn : n ≤ 11258999068426240) (h : wid n x) : tid (carry x) ∧ ∃ q, x.val = (carry x).val + q * Ed.P := by
 obtain ⟨a, b, c, d, e⟩ := x
 obtain ⟨h1, h2, h3, h4, h5⟩ := h
 simp only at h1 h2 h3 h4 h5
 have ea : a % M = a := Nat.mod_eq_of_lt (by unfold M; omega)
 have eb : (b + a / W) % M = b + a / W := Nat.mod_eq_of_lt (by unfold M W; omega)
 obtain ⟨b1, hb1⟩ : ∃ b1, b1 = b + a / W := ⟨_, rfl⟩
 have hb1' : b1 < 11258999068426240 + 5 := by rw [hb1]; unfold W; omega
 have ec : (c + b1 / W) % M = c + b1 / W := Nat.mod_eq_of_lt (by unfold M W; omega)
 obtain ⟨c1, hc1⟩ : ∃ c1, c1 = c + b1 / W := ⟨_, rfl⟩
 have hc1' : c1 < 11258999068426240 + 10 := by rw [hc1]; unfold W; omega
 have ed : (d + c1 / W) % M = d + c1 / W := Nat.mod_eq_of_lt (by unfold M W; omega)
 obtain ⟨d1, hd1⟩ : ∃ d1, d1 = d + c1 / W := ⟨_, rfl⟩
 have hd1' : d1 < 11258999068426240 + 10 := by rw [hd1]; unfold W; omega
 have ee : (e + d1 / W) % M = e + d1 / W := Nat.mod_eq_of_lt (by unfold M W; omega)
 obtain ⟨e1, he1⟩ : ∃ e1, e1 = e + d1 / W := ⟨_, rfl⟩
 have he1' : e1 < 11258999068426240 + 10 := by rw [he1]; unfold W; omega
 have e9 : e1 / W * 19 % M = e1 / W * 19 := Nat.mod_eq_of_lt (by unfold M W; omega)
 have e0 : (a % W + e1 / W * 19) % M = a % W + e1 / W * 19 := Nat.mod_eq_of_lt (by unfold M W; omega)
 have hc : carry ⟨a, b, c, d, e⟩ = ⟨a % W + e1 / W * 19, b1 % W, c1 % W, d1 % W, e1 % W⟩ := by
  simp only [carry]
  rw [ea, eb, ← hb1, ec, ← hc1, ed, ← hd1, ee, ← he1, e9, e0]
 rw [hc]
 refine ⟨⟨?_, ?_, ?_, ?_, ?_⟩, e1 / W, ?_⟩
 · show a % W + e1 / W * 19 < _
   unfold W; omega
 · exact mod_lt_W _
 · exact mod_lt_W _
 · exact mod_lt_W _
 · exact mod_lt_W _
 · simp only [E.val]
   unfold W Ed.P at *
   omega
theorem carry_f {n : Nat} {x : E} (hn : n ≤ 11258999068426240) (h : wid n x) : tid (carry x) ∧ (carry x).f = x.f := by
 obtain ⟨h1, q, h2⟩ := carry_go hn h
 exact ⟨h1, by unfold E.f; rw [h2, fe_p]⟩
theorem tid.wid {x : E} (h : tid x) {n : Nat} (hn : 2251799813685348 ≤ n) : wid n x := by
 obtain ⟨h1, h2, h3, h4, h5⟩ := h
 exact ⟨by omega, by omega, by omega, by omega, by omega⟩
theorem add_f {x y : E} (hx : tid x) (hy : tid y) : tid (add x y) ∧ (add x y).f = x.f + y.f := by
 obtain ⟨a, b, c, d, e⟩ := x
 obtain ⟨a', b', c', d', e'⟩ := y
 obtain ⟨h1, h2, h3, h4, h5⟩ := hx
 obtain ⟨g1, g2, g3, g4, g5⟩ := hy
 simp only at *
 have e1 : add1 ⟨a, b, c, d, e⟩ ⟨a', b', c', d', e'⟩ = ⟨a + a', b + b', c + c', d + d', e + e'⟩ := by
  simp only [add1]
  rw [Nat.mod_eq_of_lt (by unfold M; omega), Nat.mod_eq_of_lt (by unfold M; omega), Nat.mod_eq_of_lt (by unfold M; omega), Nat.mod_eq_of_lt (by unfold M; omega), Nat.mod_eq_of_lt (by unfold M; omega)]
 unfold add
 rw [e1]
 obtain ⟨k1, k2⟩ := carry_f (n := 11258999068426240) (x := ⟨a + a', b + b', c + c', d + d', e + e'⟩) (by omega) ⟨by simp only; omega, by simp only; omega, by simp only; omega, by simp only; omega, by simp only; omega⟩
 refine ⟨k1, ?_⟩
 rw [k2]
 unfold E.f
 rw [← fe_add]
 congr 1
 simp only [E.val]
 unfold W
 omega
theorem f_sub (a b c : F) (h : a + b = c) : a = c - b := by grobner
theorem sub_f {x y : E} (hx : tid x) (hy : tid y) : tid (sub x y) ∧ (sub x y).f = x.f - y.f := by
 have hcy := carry_f (n := 11258999068426240) (by omega) (hy.wid (by omega))
 unfold sub
 rw [← hcy.2]
 generalize carry y = cy at *
 obtain ⟨a', b', c', d', e'⟩ := cy
 obtain ⟨⟨g1, g2, g3, g4, g5⟩, _⟩ := hcy
 obtain ⟨a, b, c, d, e⟩ := x
 obtain ⟨h1, h2, h3, h4, h5⟩ := hx
 simp only at *
 have e1 : sub1 ⟨a, b, c, d, e⟩ ⟨a', b', c', d', e'⟩ = ⟨a + tw0 - a', b + tw - b', c + tw - c', d + tw - d', e + tw - e'⟩ := by
  simp only [sub1, sub1g]
  rw [show ((a + tw0) % M + (M - a')) % M = a + tw0 - a' by unfold M tw0; omega, show ((b + tw) % M + (M - b')) % M = b + tw - b' by unfold M tw; omega, show ((c + tw) % M + (M - c')) % M = c + tw - c' by unfold M tw; omega, show ((d + tw) % M + (M - d')) % M = d + tw - d' by unfold M tw; omega, show ((e + tw) % M + (M - e')) % M = e + tw - e' by unfold M tw; omega]
 rw [e1]
 obtain ⟨k1, k2⟩ := carry_f (n := 11258999068426240) (x := ⟨a + tw0 - a', b + tw - b', c + tw - c', d + tw - d', e + tw - e'⟩) (by omega) ⟨by simp only; unfold tw0; omega, by simp only; unfold tw; omega, by simp only; unfold tw; omega, by simp only; unfold tw; omega, by simp only; unfold tw; omega⟩
 refine ⟨k1, ?_⟩
 apply f_sub
 rw [k2]
 unfold E.f
 rw [← fe_add]
 have : (E.val ⟨a + tw0 - a', b + tw - b', c + tw - c', d + tw - d', e + tw - e'⟩) + E.val ⟨a', b', c', d', e'⟩ = E.val ⟨a, b, c, d, e⟩ + 2 * Ed.P := by
  simp only [E.val]
  unfold W tw tw0 Ed.P
  omega
 rw [this, fe_p]
theorem mul_core {S0 S1 S2 S3 S4 s0 s1 s2 s3 s4 t : Nat} (h0 : S0 < 2 ^ 112) (h1 : S1 < 2 ^ 112) (h2 : S2 < 2 ^ 112) (h3 : S3 < 2 ^ 112) (h4 : S4 < 2 ^ 112)
 (d0 : s0 = S0 % M2) (d1 : s1 = (S1 + s0 / W % M) % M2) (d2 : s2 = (S2 + s1 / W % M) % M2) (d3 : s3 = (S3 + s2 / W % M) % M2) (d4 : s4 = (S4 + s3 / W % M) % M2) (dt : t = s4 / W % M * 19 + s0 % W) :
 wid 11258999068426240 ⟨t % W, (s1 % W + t / W % M) % M, s2 % W, s3 % W, s4 % W⟩ ∧
  fe (E.val ⟨t % W, (s1 % W + t / W % M) % M, s2 % W, s3 % W, s4 % W⟩) = fe (S0 + W * S1 + W * W * S2 + W * W * W * S3 + W * W * W * W * S4) := by
 have e0 : s0 = S0 := d0.trans (Nat.mod_eq_of_lt (by unfold M2; omega))
 have c0 : s0 / W % M = s0 / W := Nat.mod_eq_of_lt (by unfold M W; omega)
 have b0 : s0 / W < 2 ^ 61 + 1 := by unfold W; omega
 have e1 : s1 = S1 + s0 / W := by rw [d1, c0]; exact Nat.mod_eq_of_lt (by unfold M2; omega)
 have c1 : s1 / W % M = s1 / W := Nat.mod_eq_of_lt (by unfold M W; omega)
 have b1 : s1 / W < 2 ^ 61 + 2 ^ 20 := by unfold W; omega
 have e2 : s2 = S2 + s1 / W := by rw [d2, c1]; exact Nat.mod_eq_of_lt (by unfold M2; omega)
 have c2 : s2 / W % M = s2 / W := Nat.mod_eq_of_lt (by unfold M W; omega)
 have b2 : s2 / W < 2 ^ 61 + 2 ^ 20 := by unfold W; omega
 have e3 : s3 = S3 + s2 / W := by rw [d3, c2]; exact Nat.mod_eq_of_lt (by unfold M2; omega)
 have c3 : s3 / W % M = s3 / W := Nat.mod_eq_of_lt (by unfold M W; omega)
 have b3 : s3 / W < 2 ^ 61 + 2 ^ 20 := by unfold W; omega
 have e4 : s4 = S4 + s3 / W := by rw [d4, c3]; exact Nat.mod_eq_of_lt (by unfold M2; omega)
 have c4 : s4 / W % M = s4 / W := Nat.mod_eq_of_lt (by unfold M W; omega)
 have b4 : s4 / W < 2 ^ 61 + 2 ^ 20 := by unfold W; omega
 have et : t = s4 / W * 19 + s0 % W := by rw [dt, c4]
 have bt : t / W < 2 ^ 16 := by rw [et]; unfold W; omega
 have ct : t / W % M = t / W := Nat.mod_eq_of_lt (by unfold M; omega)
 have l1 : s1 % W < W := mod_lt_W _
 have c5 : (s1 % W + t / W % M) % M = s1 % W + t / W := by rw [ct]; exact Nat.mod_eq_of_lt (by unfold M W at *; omega)
 rw [c5]
 clear d0 d1 d2 d3 d4 dt
 have l0 : t % W < W := mod_lt_W _
 have l2 : s2 % W < W := mod_lt_W _
 have l3 : s3 % W < W := mod_lt_W _
 have l4 : s4 % W < W := mod_lt_W _
 refine ⟨⟨?_, ?_, ?_, ?_, ?_⟩, ?_⟩
 · simp only; unfold W at *; omega
 · simp only; unfold W at *; omega
 · simp only; unfold W at *; omega
 · simp only; unfold W at *; omega
 · simp only; unfold W at *; omega
 · have hv : E.val ⟨t % W, s1 % W + t / W, s2 % W, s3 % W, s4 % W⟩ + s4 / W * Ed.P = S0 + W * S1 + W * W * S2 + W * W * W * S3 + W * W * W * W * S4 := by
    simp only [E.val]
    have d0 := Nat.div_add_mod s0 W
    have d1 := Nat.div_add_mod s1 W
    have d2 := Nat.div_add_mod s2 W
    have d3 := Nat.div_add_mod s3 W
    have d4 := Nat.div_add_mod s4 W
    have dt := Nat.div_add_mod t W
    generalize s0 / W = q0 at *
    generalize s1 / W = q1 at *
    generalize s2 / W = q2 at *
    generalize s3 / W = q3 at *
    generalize s4 / W = q4 at *
    generalize t / W = qt at *
    generalize s0 % W = r0 at *
    generalize s1 % W = r1 at *
    generalize s2 % W = r2 at *
    generalize s3 % W = r3 at *
    generalize s4 % W = r4 at *
    generalize t % W = rt at *
    unfold W Ed.P at *
    omega
   rw [← hv, fe_p]
theorem fW5 : fe W * fe W * fe W * fe W * fe W = fe 19 := by decide +kernel
theorem mul_ring (w n a0 a1 a2 a3 a4 b0 b1 b2 b3 b4 : F) (h : w * w * w * w * w = n) :
 (a0 * b0 + a1 * n * b4 + a2 * n * b3 + a3 * n * b2 + a4 * n * b1) + w * (a0 * b1 + a1 * b0 + a2 * n * b4 + a3 * n * b3 + a4 * n * b2) + w * w * (a0 * b2 + a1 * b1 + a2 * b0 + a3 * n * b4 + a4 * n * b3) + w * w * w * (a0 * b3 + a1 * b2 + a2 * b1 + a3 * b0 + a4 * n * b4) + w * w * w * w * (a0 * b4 + a1 * b3 + a2 * b2 + a3 * b1 + a4 * b0) =
  (a0 + w * a1 + w * w * a2 + w * w * w * a3 + w * w * w * w * a4) * (b0 + w * b1 + w * w * b2 + w * w * w * b3 + w * w * w * w * b4) := by
 subst h
 grobner
theorem le_mul {a b : Nat} (ha : a < 2251799813685348) (hb : b < 2251799813685348) : a * b < 2 ^ 103 := by
 have h1 : a * b ≤ 2251799813685348 * 2251799813685348 := Nat.mul_le_mul (by omega) (by omega)
 omega
theorem le_mul19 {a b : Nat} (ha : a < 2251799813685348) (hb : b < 2251799813685348) : a * 19 * b < 2 ^ 108 := by
 have h1 : a * 19 * b ≤ 2251799813685348 * 19 * 2251799813685348 := Nat.mul_le_mul (by omega) (by omega)
 omega
theorem mod19 {a : Nat} (ha : a < 2251799813685348) : a * 19 % M = a * 19 := Nat.mod_eq_of_lt (by unfold M; omega)
theorem mul_f {x y : E} (hx : tid x) (hy : tid y) : tid (mul x y) ∧ (mul x y).f = x.f * y.f := by
 obtain ⟨a0, a1, a2, a3, a4⟩ := x
 obtain ⟨b0, b1, b2, b3, b4⟩ := y
 obtain ⟨h1, h2, h3, h4, h5⟩ := hx
 obtain ⟨g1, g2, g3, g4, g5⟩ := hy
 simp only at h1 h2 h3 h4 h5 g1 g2 g3 g4 g5
 have h2 : a1 < 2251799813685348 := by omega
 have h3 : a2 < 2251799813685348 := by omega
 have h4 : a3 < 2251799813685348 := by omega
 have h5 : a4 < 2251799813685348 := by omega
 have g2 : b1 < 2251799813685348 := by omega
 have g3 : b2 < 2251799813685348 := by omega
 have g4 : b3 < 2251799813685348 := by omega
 have g5 : b4 < 2251799813685348 := by omega
 simp only [mul]
 rw [mod19 h2, mod19 h3, mod19 h4, mod19 h5]
 have hc := mul_core (S0 := a0 * b0 + a1 * 19 * b4 + a2 * 19 * b3 + a3 * 19 * b2 + a4 * 19 * b1) (S1 := a0 * b1 + a1 * b0 + a2 * 19 * b4 + a3 * 19 * b3 + a4 * 19 * b2) (S2 := a0 * b2 + a1 * b1 + a2 * b0 + a3 * 19 * b4 + a4 * 19 * b3) (S3 := a0 * b3 + a1 * b2 + a2 * b1 + a3 * b0 + a4 * 19 * b4) (S4 := a0 * b4 + a1 * b3 + a2 * b2 + a3 * b1 + a4 * b0)
  (by have := le_mul h1 g1; have := le_mul19 h2 g5; have := le_mul19 h3 g4; have := le_mul19 h4 g3; have := le_mul19 h5 g2; omega)
  (by have := le_mul h1 g2; have := le_mul h2 g1; have := le_mul19 h3 g5; have := le_mul19 h4 g4; have := le_mul19 h5 g3; omega)
  (by have := le_mul h1 g3; have := le_mul h2 g2; have := le_mul h3 g1; have := le_mul19 h4 g5; have := le_mul19 h5 g4; omega)
  (by have := le_mul h1 g4; have := le_mul h2 g3; have := le_mul h3 g2; have := le_mul h4 g1; have := le_mul19 h5 g5; omega)
  (by have := le_mul h1 g5; have := le_mul h2 g4; have := le_mul h3 g3; have := le_mul h4 g2; have := le_mul h5 g1; omega) rfl rfl rfl rfl rfl rfl
 obtain ⟨k1, k2⟩ := hc
 obtain ⟨k3, k4⟩ := carry_f (by omega) k1
 refine ⟨k3, k4.trans ?_⟩
 unfold E.f
 rw [k2]
 simp only [E.val, fe_add, fe_mul]
 exact mul_ring _ _ _ _ _ _ _ _ _ _ _ _ fW5
theorem sq_f {x : E} (hx : tid x) : tid (sq x) ∧ (sq x).f = x.f * x.f := mul_f hx hx
theorem small_tid {n : Nat} (h : n < W) : tid (small n) := ⟨by show n % W < _; have := mod_lt_W n; unfold W at *; omega, by show n / W < _; rw [Nat.div_eq_of_lt h]; omega, by show 0 < _; omega, by show 0 < _; omega, by show 0 < _; omega⟩
theorem small_f {n : Nat} (h : n < W) : (small n).f = fe n := by
 unfold E.f small
 simp only [E.val]
 rw [Nat.mod_eq_of_lt h, Nat.div_eq_of_lt h]
 congr 1
theorem zero_tid : tid ⟨0, 0, 0, 0, 0⟩ := ⟨by decide, by decide, by decide, by decide, by decide⟩
theorem zero_f : E.f ⟨0, 0, 0, 0, 0⟩ = 0 := by decide +kernel
theorem one_f : (small 1).f = 1 := by decide +kernel
theorem spl_tid (n : Nat) : tid (spl n) := ⟨by have := mod_lt_W n; unfold W at *; show n % 2251799813685248 < _; omega, mod_lt_W _, mod_lt_W _, mod_lt_W _, mod_lt_W _⟩
theorem ofB_tid (l : List UInt8) : tid (ofB l) := spl_tid _
theorem ofB_f (l : List UInt8) : (ofB l).f = fe (leN l % 2 ^ 255) := by
 unfold E.f ofB
 rw [val_spl _ (Nat.mod_lt _ (by decide))]
theorem chain {x0 x1 x2 x3 x4 q0 q1 q2 q3 q4 r0 r1 r2 r3 r4 c : Nat} (h0 : x0 + c = W * q0 + r0) (h1 : x1 + q0 = W * q1 + r1) (h2 : x2 + q1 = W * q2 + r2) (h3 : x3 + q2 = W * q3 + r3) (h4 : x4 + q3 = W * q4 + r4) :
 x0 + W * x1 + W * W * x2 + W * W * W * x3 + W * W * W * W * x4 + c = 57896044618658097711785492504343953926634992332820282019728792003956564819968 * q4 + (r0 + W * r1 + W * W * r2 + W * W * W * r3 + W * W * W * W * r4) := by
 unfold W at *
 omega
theorem small5 {r0 r1 r2 r3 r4 : Nat} (h0 : r0 < W) (h1 : r1 < W) (h2 : r2 < W) (h3 : r3 < W) (h4 : r4 < W) : r0 + W * r1 + W * W * r2 + W * W * W * r3 + W * W * W * W * r4 < 57896044618658097711785492504343953926634992332820282019728792003956564819968 := by
 unfold W at *
 omega
theorem least1_go {x : E} (h : tid x) : (least1 x).val = x.val % Ed.P := by
 obtain ⟨a, b, c, d, e⟩ := x
 obtain ⟨h1, h2, h3, h4, h5⟩ := h
 simp only at h1 h2 h3 h4 h5
 have e0 : (a + 19) % M = a + 19 := Nat.mod_eq_of_lt (by unfold M; omega)
 obtain ⟨q0, hq0⟩ : ∃ q, q = (a + 19) / W := ⟨_, rfl⟩
 have f0 : q0 ≤ 1 := by rw [hq0]; unfold W; omega
 have e1 : (b + q0) % M = b + q0 := Nat.mod_eq_of_lt (by unfold M; omega)
 obtain ⟨q1, hq1⟩ : ∃ q, q = (b + q0) / W := ⟨_, rfl⟩
 have f1 : q1 ≤ 1 := by rw [hq1]; unfold W; omega
 have e2 : (c + q1) % M = c + q1 := Nat.mod_eq_of_lt (by unfold M; omega)
 obtain ⟨q2, hq2⟩ : ∃ q, q = (c + q1) / W := ⟨_, rfl⟩
 have f2 : q2 ≤ 1 := by rw [hq2]; unfold W; omega
 have e3 : (d + q2) % M = d + q2 := Nat.mod_eq_of_lt (by unfold M; omega)
 obtain ⟨q3, hq3⟩ : ∃ q, q = (d + q2) / W := ⟨_, rfl⟩
 have f3 : q3 ≤ 1 := by rw [hq3]; unfold W; omega
 have e4 : (e + q3) % M = e + q3 := Nat.mod_eq_of_lt (by unfold M; omega)
 obtain ⟨k, hk⟩ : ∃ q, q = (e + q3) / W := ⟨_, rfl⟩
 have f4 : k ≤ 1 := by rw [hk]; unfold W; omega
 have e5 : k * 19 % M = k * 19 := Nat.mod_eq_of_lt (by unfold M; omega)
 obtain ⟨a1, ha1⟩ : ∃ q, q = a + k * 19 := ⟨_, rfl⟩
 have g0 : a1 < 2251799813685400 := by omega
 have e6 : (a + k * 19) % M = a1 := by rw [ha1]; exact Nat.mod_eq_of_lt (by unfold M; omega)
 obtain ⟨b1, hb1⟩ : ∃ q, q = b + a1 / W := ⟨_, rfl⟩
 have g1 : b1 < 2251799813685400 := by rw [hb1]; unfold W; omega
 have e7 : (b + a1 / W) % M = b1 := by rw [← hb1]; exact Nat.mod_eq_of_lt (by unfold M; omega)
 obtain ⟨c1, hc1⟩ : ∃ q, q = c + b1 / W := ⟨_, rfl⟩
 have g2 : c1 < 2251799813685400 := by rw [hc1]; unfold W; omega
 have e8 : (c + b1 / W) % M = c1 := by rw [← hc1]; exact Nat.mod_eq_of_lt (by unfold M; omega)
 obtain ⟨d1, hd1⟩ : ∃ q, q = d + c1 / W := ⟨_, rfl⟩
 have g3 : d1 < 2251799813685400 := by rw [hd1]; unfold W; omega
 have e9 : (d + c1 / W) % M = d1 := by rw [← hd1]; exact Nat.mod_eq_of_lt (by unfold M; omega)
 obtain ⟨e1', he1⟩ : ∃ q, q = e + d1 / W := ⟨_, rfl⟩
 have g4 : e1' < 2251799813685400 := by rw [he1]; unfold W; omega
 have e10 : (e + d1 / W) % M = e1' := by rw [← he1]; exact Nat.mod_eq_of_lt (by unfold M; omega)
 have hl : least1 ⟨a, b, c, d, e⟩ = ⟨a1 % W, b1 % W, c1 % W, d1 % W, e1' % W⟩ := by
  simp only [least1]
  rw [e0, ← hq0, e1, ← hq1, e2, ← hq2, e3, ← hq3, e4, ← hk, e5, e6, e7, e8, e9, e10]
 rw [hl]
 clear hl e0 e1 e2 e3 e4 e5 e6 e7 e8 e9 e10
 have A := chain (c := 19) (x0 := a) (x1 := b) (x2 := c) (x3 := d) (x4 := e) (q0 := q0) (q1 := q1) (q2 := q2) (q3 := q3) (q4 := k) (r0 := (a + 19) % W) (r1 := (b + q0) % W) (r2 := (c + q1) % W) (r3 := (d + q2) % W) (r4 := (e + q3) % W)
  (by rw [hq0]; exact (Nat.div_add_mod _ _).symm) (by rw [hq1]; exact (Nat.div_add_mod _ _).symm) (by rw [hq2]; exact (Nat.div_add_mod _ _).symm) (by rw [hq3]; exact (Nat.div_add_mod _ _).symm) (by rw [hk]; exact (Nat.div_add_mod _ _).symm)
 have B := chain (c := k * 19) (x0 := a) (x1 := b) (x2 := c) (x3 := d) (x4 := e) (q0 := a1 / W) (q1 := b1 / W) (q2 := c1 / W) (q3 := d1 / W) (q4 := e1' / W) (r0 := a1 % W) (r1 := b1 % W) (r2 := c1 % W) (r3 := d1 % W) (r4 := e1' % W)
  (by rw [← ha1]; exact (Nat.div_add_mod _ _).symm) (by rw [← hb1]; exact (Nat.div_add_mod _ _).symm) (by rw [← hc1]; exact (Nat.div_add_mod _ _).symm) (by rw [← hd1]; exact (Nat.div_add_mod _ _).symm) (by rw [← he1]; exact (Nat.div_add_mod _ _).symm)
 have A2 := small5 (mod_lt_W (a + 19)) (mod_lt_W (b + q0)) (mod_lt_W (c + q1)) (mod_lt_W (d + q2)) (mod_lt_W (e + q3))
 have B2 := small5 (mod_lt_W a1) (mod_lt_W b1) (mod_lt_W c1) (mod_lt_W d1) (mod_lt_W e1')
 have hv : E.val ⟨a, b, c, d, e⟩ = a + W * b + W * W * c + W * W * W * d + W * W * W * W * e := rfl
 have hw : E.val ⟨a1 % W, b1 % W, c1 % W, d1 % W, e1' % W⟩ = a1 % W + W * (b1 % W) + W * W * (c1 % W) + W * W * W * (d1 % W) + W * W * W * W * (e1' % W) := rfl
 have hz : E.val ⟨a, b, c, d, e⟩ < 57896044618658097711785492504343953926634992332820282019728792003956564819968 + 100 := by
  rw [hv]; unfold W; omega
 rw [← hv] at A B
 rw [← hw] at B B2
 generalize E.val ⟨a1 % W, b1 % W, c1 % W, d1 % W, e1' % W⟩ = V at *
 generalize E.val ⟨a, b, c, d, e⟩ = v at *
 generalize (a + 19) % W + W * ((b + q0) % W) + W * W * ((c + q1) % W) + W * W * W * ((d + q2) % W) + W * W * W * W * ((e + q3) % W) = R at *
 generalize e1' / W = q at *
 clear hq0 hq1 hq2 hq3 hk ha1 hb1 hc1 hd1 he1 hv hw h1 h2 h3 h4 h5 g0 g1 g2 g3 g4 f0 f1 f2 f3
 unfold Ed.P
 have hk2 : k = 0 ∨ k = 1 := by omega
 rcases hk2 with z | z
 · subst z
   have hq : q = 0 := by omega
   subst hq
   rw [Nat.mod_eq_of_lt (by omega)]; omega
 · subst z
   have hq : q = 1 := by omega
   subst hq
   rw [Nat.mod_eq_sub_mod (by omega), Nat.mod_eq_of_lt (by omega)]; omega
/-- the number itself -/
theorem least_go {x : E} (h : tid x) : (least x).val = x.f.val := by
 obtain ⟨h1, q1, h2⟩ := carry_go (n := 11258999068426240) (by omega) (h.wid (by omega))
 obtain ⟨h3, q2, h4⟩ := carry_go (n := 11258999068426240) (by omega) (h1.wid (by omega))
 have hf : x.f = fe (carry (carry x)).val := by unfold E.f; rw [h2, fe_p, h4, fe_p]
 rw [hf, fe_val]
 exact least1_go h3
theorem bytes_f {x : E} (h : tid x) : bytesE x = toLe 32 x.f.val := by unfold bytesE; rw [least_go h]
theorem val_inj {x y : E} (hx : ∀ j, nth x.l j < W) (hy : ∀ j, nth y.l j < W) (h : x.val = y.val) : x = y := by rw [← spl_val x hx, ← spl_val y hy, h]
theorem least_same {x y : E} (hx : tid x) (hy : tid y) : least x = least y ↔ x.f = y.f := by
 constructor
 · intro h
   apply Fin.ext
   rw [← least_go hx, ← least_go hy, h]
 · intro h
   apply val_inj (least_fit x) (least_fit y)
   rw [least_go hx, least_go hy, h]
theorem odd_go {x : E} (h : tid x) : nth (least x).l 0 % 2 = x.f.val % 2 := by
 rw [← least_go h]
 show (least x).a % 2 = _
 simp only [E.val]
 unfold W
 omega
end Go.Proofs.YtfpcelmekfdafaaGreatDoor.Kx
namespace Go.Proofs.YtfpcelmekfdafaaGreatDoor.Ed
open Go.Proofs.YtfpcelmekfdafaaGreatDoor.Nt
/-- (X, Z) stands for p up to its sign: X by Z is (1 + y) by (1 - y) -/
def U (p : Pt) (X Z : F) : Prop := ∃ s : F, s ≠ 0 ∧ X = s * (1 + p.y) ∧ Z = s * (1 - p.y)
def kE : F := 121666
theorem kE_d : kE * (1 + dE) = 1 := by decide +kernel
theorem kE_ne : kE ≠ 0 := by decide +kernel
theorem kE_1 : (121665 : F) = kE - 1 := by decide +kernel
theorem c8_ne : (8 : F) ≠ 0 := by decide +kernel
theorem y_sq {x y d k : F} (h : 0 - x * x + y * y - 1 - d * x * x * y * y = 0) (hk : k * (1 + d) = 1) : y * y = k * (1 + d * y * y) * (1 + x * x) := by
 have h1 : k * (1 + d * y * y) * (1 + x * x) = k * (1 + d) * (y * y) - k * (0 - x * x + y * y - 1 - d * x * x * y * y) := by grobner
 rw [h1, h, hk]
 grobner
theorem o_z (y d : F) (h : y * y = 0) : 1 + d * y * y = 1 := by
 have h1 : d * y * y = d * (y * y) := by grobner
 rw [h1, h]; grobner
theorem z_m2 (k z : F) (h : z = 0) (x : F) : k * z * x = 0 := by rw [h]; grobner
theorem D_ne {x y : F} (h : on x y) : 1 + dE * y * y ≠ 0 := fun hz => by
 have h1 := y_sq h kE_d
 have h2 : y * y = 0 := by rw [h1]; exact z_m2 _ _ hz _
 have h3 := o_z y dE h2
 rw [hz] at h3
 exact zero_ne h3
theorem d_e {x y d : F} (h : 0 - x * x + y * y - 1 - d * x * x * y * y = 0) : 1 - d * x * x * y * y = 2 - y * y + x * x := by grobner
theorem d_xv (s k D x y E v : F) (hv : E * v = 1) (hE : E = 2 - y * y + x * x) (hy : y * y = k * D * (1 + x * x)) :
 ((s * (1 + y) + s * (1 - y)) * (s * (1 + y) + s * (1 - y))) * ((s * (1 + y) - s * (1 - y)) * (s * (1 + y) - s * (1 - y))) = (8 * (s * s) * (s * s) * k * D * E) * (1 + (y * y + x * x) * v) := by
 have h1 : (8 * (s * s) * (s * s) * k * D * E) * (1 + (y * y + x * x) * v) = (8 * (s * s) * (s * s) * k * D) * (E + (y * y + x * x) * (E * v)) := by grobner
 rw [h1, hv, hE]
 have h2 : (8 * (s * s) * (s * s) * k * D) * ((2 - y * y + x * x) + (y * y + x * x) * 1) = 16 * (s * s) * (s * s) * (k * D * (1 + x * x)) := by grobner
 rw [h2, ← hy]
 grobner
theorem d_zv (s k d x y E v : F) (hv : E * v = 1) (hE : E = 2 - y * y + x * x) (hk : k * (1 + d) = 1) :
 (((s * (1 + y) + s * (1 - y)) * (s * (1 + y) + s * (1 - y))) - ((s * (1 + y) - s * (1 - y)) * (s * (1 + y) - s * (1 - y)))) * (((s * (1 + y) + s * (1 - y)) * (s * (1 + y) + s * (1 - y))) + (k - 1) * (((s * (1 + y) + s * (1 - y)) * (s * (1 + y) + s * (1 - y))) - ((s * (1 + y) - s * (1 - y)) * (s * (1 + y) - s * (1 - y))))) =
  (8 * (s * s) * (s * s) * k * (1 + d * y * y) * E) * (1 - (y * y + x * x) * v) := by
 have h1 : (8 * (s * s) * (s * s) * k * (1 + d * y * y) * E) * (1 - (y * y + x * x) * v) = (8 * (s * s) * (s * s) * k * (1 + d * y * y)) * (E - (y * y + x * x) * (E * v)) := by grobner
 rw [h1, hv, hE]
 have h3 : k * d = 1 - k := by grobner
 have h2 : (8 * (s * s) * (s * s) * k * (1 + d * y * y)) * ((2 - y * y + x * x) - (y * y + x * x) * 1) = 16 * (s * s) * (s * s) * (1 - y * y) * (k + (k * d) * (y * y)) := by grobner
 rw [h2, h3]
 grobner
theorem U.dbl {p : Pt} {X Z : F} (h : U p X Z) :
 U (p.add p) (((X + Z) * (X + Z)) * ((X - Z) * (X - Z))) ((((X + Z) * (X + Z)) - ((X - Z) * (X - Z))) * (((X + Z) * (X + Z)) + 121665 * (((X + Z) * (X + Z)) - ((X - Z) * (X - Z))))) := by
 obtain ⟨s, hs, hX, hZ⟩ := h
 subst hX hZ
 have hD := D_ne p.h
 have hE := den_m p.h p.h
 refine ⟨8 * (s * s) * (s * s) * kE * (1 + dE * p.y * p.y) * (1 - dE * p.x * p.x * p.y * p.y), mul_ne (mul_ne (mul_ne (mul_ne (mul_ne c8_ne (mul_ne hs hs)) (mul_ne hs hs)) kE_ne) hD) hE, ?_, ?_⟩
 · exact d_xv s kE _ p.x p.y _ _ (mul_inv hE) (d_e p.h) (y_sq p.h kE_d)
 · rw [kE_1]
   exact d_zv s kE dE p.x p.y _ _ (mul_inv hE) (d_e p.h) kE_d
/-- at the ladder's beginning -/
theorem two_half : (2 : F) * inv 2 = 1 := mul_inv two_ne
theorem half_x (h : F) (hh : 2 * h = 1) : 1 = h * (1 + 1) := by grobner
theorem half_z (h : F) : 0 = h * (1 - 1) := by grobner
theorem U.zero : U Pt.zero 1 0 := ⟨inv 2, fun h => by
 have h1 := two_half
 rw [h] at h1
 exact zero_ne (by rw [← h1]; grobner), half_x _ two_half, half_z _⟩
theorem U.one {p : Pt} {x : F} (hx : x * (1 - p.y) = 1 + p.y) (hy : 1 - p.y ≠ 0) : U p x 1 := by
 have h1 := mul_inv hy
 refine ⟨inv (1 - p.y), fun h => ?_, ?_, ?_⟩
 · rw [h] at h1
   exact zero_ne (by rw [← h1]; grobner)
 · rw [← hx]
   have : inv (1 - p.y) * (x * (1 - p.y)) = x * ((1 - p.y) * inv (1 - p.y)) := by grobner
   rw [this, h1, m_one]
 · have : inv (1 - p.y) * (1 - p.y) = (1 - p.y) * inv (1 - p.y) := by grobner
   rw [this, h1]
def fpow (a : F) : Nat → F
 | 0 => 1
 | n + 1 => fpow a n * a
theorem fpow_add (a : F) (m : Nat) : ∀ n, fpow a (m + n) = fpow a m * fpow a n
 | 0 => (m_one _).symm
 | n + 1 => by
  show fpow a (m + n) * a = fpow a m * (fpow a n * a)
  rw [fpow_add a m n]
  grobner
theorem fpow_two (a : F) (n : Nat) : fpow a (2 * n) = fpow a n * fpow a n := by rw [Nat.two_mul, fpow_add]
theorem fpow_odd (a : F) (n : Nat) : fpow a (2 * n + 1) = fpow a n * fpow a n * a := by show fpow a (2 * n) * a = _; rw [fpow_two]
theorem fpow_val (a : F) : ∀ n, (fpow a n).val = a.val ^ n % P
 | 0 => rfl
 | n + 1 => by
  show (fpow a n * a).val = _
  rw [val_mul, fpow_val a n, Nat.pow_succ, Nat.mul_mod, Nat.mod_mod, ← Nat.mul_mod]
theorem fpow_pm (a : F) (n : Nat) (h : n < 2 ^ 300) : (fpow a n).val = pm P 300 a.val n 1 := by
 rw [fpow_val, pm_eq 300 _ _ _ h (by decide +kernel), Nat.one_mul]
theorem inv_fpow (a : F) : inv a = fpow a (P - 2) := by
 apply Fin.ext
 rw [fpow_pm a _ (by decide +kernel)]
 show pm P 300 a.val (P - 2) 1 % P = _
 rw [← fpow_pm a _ (by decide +kernel)]
 exact Nat.mod_eq_of_lt (fpow a (P - 2)).isLt
end Go.Proofs.YtfpcelmekfdafaaGreatDoor.Ed
namespace Go.Proofs.YtfpcelmekfdafaaGreatDoor.Kx
open Go.Proofs.YtfpcelmekfdafaaGreatDoor.Ed
/-- the bits of the number that a power is to -/
def BitsOf (low N : Nat) : Prop := N < 2 ^ 255 ∧ ∀ i, i < 255 → (decide (8 ≤ i) || low / 2 ^ i % 2 == 1) = (N / 2 ^ i % 2 == 1)
theorem bitsOf (low N : Nat) (h : (decide (N < 2 ^ 255) && (List.range 255).all fun i => (decide (8 ≤ i) || low / 2 ^ i % 2 == 1) == (N / 2 ^ i % 2 == 1)) = true) : BitsOf low N := by
 rw [Bool.and_eq_true, decide_eq_true_eq] at h
 refine ⟨h.1, fun i hi => ?_⟩
 exact beq_iff_eq.1 (List.all_eq_true.1 h.2 i (List.mem_range.2 hi))
theorem pw_f {low N : Nat} (hN : BitsOf low N) {x : E} (hx : tid x) : ∀ k, k ≤ 255 → tid (pw low x k) ∧ (pw low x k).f = fpow x.f (N / 2 ^ (255 - k))
 | 0, _ => ⟨small_tid (by decide), by rw [Nat.div_eq_of_lt hN.1]; exact one_f⟩
 | k + 1, hk => by
  obtain ⟨h1, h2⟩ := pw_f hN hx k (by omega)
  obtain ⟨h3, h4⟩ := sq_f h1
  have hb := hN.2 (254 - k) (by omega)
  have hd : N / 2 ^ (255 - k) = N / 2 ^ (254 - k) / 2 := by rw [show 255 - k = (254 - k) + 1 by omega, Nat.pow_succ, Nat.div_div_eq_div_mul]
  rw [show 255 - (k + 1) = 254 - k by omega]
  rw [hd] at h2
  generalize N / 2 ^ (254 - k) = m at *
  unfold pw
  simp only
  by_cases hm : m % 2 = 1
  · rw [hm] at hb
    rw [hb]
    obtain ⟨h5, h6⟩ := mul_f h3 hx
    refine ⟨h5, ?_⟩
    show (mul (sq (pw low x k)) x).f = _
    rw [h6, h4, h2, ← fpow_odd, show 2 * (m / 2) + 1 = m by omega]
  · have hm0 : m % 2 = 0 := by omega
    rw [hm0] at hb
    rw [hb]
    refine ⟨h3, ?_⟩
    show (sq (pw low x k)).f = _
    rw [h4, h2, ← fpow_two, show 2 * (m / 2) = m by omega]
theorem bits235 : BitsOf 235 (Ed.P - 2) := bitsOf _ _ (by decide +kernel)
theorem inv_f {x : E} (hx : tid x) : tid (inv x) ∧ (inv x).f = Ed.inv x.f := by
 obtain ⟨h1, h2⟩ := pw_f bits235 hx 255 (by omega)
 refine ⟨h1, ?_⟩
 rw [inv_fpow]
 have h3 : (Ed.P - 2) / 2 ^ (255 - 255) = Ed.P - 2 := by decide +kernel
 rw [h3] at h2
 exact h2
end Go.Proofs.YtfpcelmekfdafaaGreatDoor.Kx
namespace Go.Proofs.YtfpcelmekfdafaaGreatDoor.Ed
open Go.Proofs.YtfpcelmekfdafaaGreatDoor.Nt Go.Proofs.YtfpcelmekfdafaaGreatDoor.Kx
/-- the root of a number that is not odd, if it has one -/
def rt1 (x : F) : F := fpow x ((Ed.P + 3) / 2 ^ 3)
def ev (r : F) : F := if (r.val % 2 == 1) = true then 0 - r else r
def rt (x : F) : Option F := if rt1 x * rt1 x = x then some (ev (rt1 x)) else if rt1 x * iE * (rt1 x * iE) = x then some (ev (rt1 x * iE)) else none
theorem rt_a {x r : F} (hr : r = rt1 x) (h : r * r = x) : rt x = some (ev r) := by unfold rt; rw [← hr, if_pos h]
theorem rt_b {x r : F} (hr : r = rt1 x) (h : r * r ≠ x) (h2 : r * iE * (r * iE) = x) : rt x = some (ev (r * iE)) := by unfold rt; rw [← hr, if_neg h, if_pos h2]
theorem rt_c {x r : F} (hr : r = rt1 x) (h : r * r ≠ x) (h2 : r * iE * (r * iE) ≠ x) : rt x = none := by unfold rt; rw [← hr, if_neg h, if_neg h2]
theorem ev_odd {r : F} (h : (r.val % 2 == 1) = true) : ev r = 0 - r := by unfold ev; rw [if_pos h]
theorem ev_even {r : F} (h : (r.val % 2 == 1) = false) : ev r = r := by unfold ev; rw [h]; rfl
theorem neg_sq (r : F) : (0 - r) * (0 - r) = r * r := by grobner
theorem ev_sq (r : F) : ev r * ev r = r * r := by
 unfold ev
 split
 · exact neg_sq r
 · rfl
theorem neg_val {r : F} (h : r.val ≠ 0) : (0 - r).val = Ed.P - r.val := by
 rw [v_sub]
 have h1 : r.val < Ed.P := r.isLt
 have h2 : (0 : F).val = 0 := rfl
 rw [h2, Nat.add_zero]
 exact Nat.mod_eq_of_lt (by omega)
theorem P_odd : Ed.P % 2 = 1 := by decide +kernel
theorem ev_par (r : F) : (ev r).val % 2 = 0 := by
 unfold ev
 by_cases h : (r.val % 2 == 1) = true
 · rw [if_pos h]
   rw [beq_iff_eq] at h
   have h1 : r.val < Ed.P := r.isLt
   have h2 := P_odd
   rw [neg_val (by omega)]
   omega
 · rw [if_neg h]
   rw [beq_iff_eq] at h
   omega
theorem some_eq {α : Type} {a b : α} {P : α → Prop} (h : some a = some b) (ha : P a) : P b := Option.some.inj h ▸ ha
theorem none_no {α : Type} {b : α} {p : Prop} (h : none = some b) : p := nomatch h
theorem rt_sq {x r : F} (h : rt x = some r) : r * r = x := by
 unfold rt at h
 by_cases h1 : rt1 x * rt1 x = x
 · rw [if_pos h1] at h
   exact some_eq (P := fun r => r * r = x) h ((ev_sq _).trans h1)
 · rw [if_neg h1] at h
   by_cases h2 : rt1 x * iE * (rt1 x * iE) = x
   · rw [if_pos h2] at h
     exact some_eq (P := fun r => r * r = x) h ((ev_sq _).trans h2)
   · rw [if_neg h2] at h
     exact none_no h
theorem rt_par {x r : F} (h : rt x = some r) : r.val % 2 = 0 := by
 unfold rt at h
 by_cases h1 : rt1 x * rt1 x = x
 · rw [if_pos h1] at h
   exact some_eq (P := fun r => r.val % 2 = 0) h (ev_par _)
 · rw [if_neg h1] at h
   by_cases h2 : rt1 x * iE * (rt1 x * iE) = x
   · rw [if_pos h2] at h
     exact some_eq (P := fun r => r.val % 2 = 0) h (ev_par _)
   · rw [if_neg h2] at h
     exact none_no h
theorem fpow_mul2 (a : F) (n : Nat) : fpow (a * a) n = fpow a (2 * n) := by
 induction n with
 | zero => rfl
 | succ n ih =>
  show fpow (a * a) n * (a * a) = fpow a (2 * n) * a * a
  rw [ih]
  grobner
theorem fpow_zero (n : Nat) (h : n ≠ 0) : fpow 0 n = 0 := by
 obtain ⟨m, rfl⟩ : ∃ m, n = m + 1 := ⟨n - 1, by omega⟩
 show fpow 0 m * 0 = 0
 grobner
theorem fermat_f {a : F} (h : a ≠ 0) : fpow a (Ed.P - 1) = 1 := by
 apply Fin.ext
 rw [fpow_val]
 exact fermat hP (val_ne h)
theorem four_exp (r : F) (m : Nat) : fpow r m * fpow r m * (fpow r m * fpow r m) = fpow r (m + m + m + m) := by
 rw [fpow_add, fpow_add, fpow_add]
 grobner
theorem exp_num : (Ed.P + 3) / 2 ^ 3 + (Ed.P + 3) / 2 ^ 3 + (Ed.P + 3) / 2 ^ 3 + (Ed.P + 3) / 2 ^ 3 = (Ed.P + 3) / 2 ∧ 2 * ((Ed.P + 3) / 2) = (Ed.P - 1) + 4 := by decide +kernel
theorem sq_cases {a x : F} (h : a * a = x * x) : a = x ∨ a = 0 - x := by
 have h1 : (a - x) * (a + x) = 0 := by
  have : (a - x) * (a + x) = a * a - x * x := by grobner
  rw [this, h]; grobner
 rcases mul_zero_or h1 with h2 | h2
 · left
   have : a = (a - x) + x := by grobner
   rw [this, h2]; grobner
 · right
   have : a = (a + x) - x := by grobner
   rw [this, h2]
theorem i_sq (r : F) : r * iE * (r * iE) = 0 - r * r := by
 have h : r * iE * (r * iE) = (r * r) * (iE * iE) := by grobner
 rw [h, iE2]; grobner
theorem rt_some {x s : F} (h : s * s = x) : ∃ r, rt x = some r := by
 have key : rt1 x * rt1 x * (rt1 x * rt1 x) = x * x := by
  unfold rt1
  rw [four_exp, exp_num.1, ← h, fpow_mul2, exp_num.2, fpow_add]
  by_cases h0 : s = 0
  · rw [h0]
    have : fpow 0 4 = (0 : F) := fpow_zero 4 (by decide)
    rw [this]; grobner
  · rw [fermat_f h0]
    show 1 * (1 * s * s * s * s) = s * s * (s * s)
    grobner
 rcases sq_cases key with h1 | h1
 · exact ⟨_, rt_a rfl h1⟩
 · by_cases h2 : rt1 x * rt1 x = x
   · exact ⟨_, rt_a rfl h2⟩
   · refine ⟨_, rt_b rfl h2 ?_⟩
     rw [i_sq, h1]; grobner
/-- what stands below x's square is never 0 -/
theorem den_ne (y : F) : dE * (y * y) + 1 ≠ 0 := fun h => by
 by_cases h0 : y = 0
 · rw [h0] at h
   exact zero_ne (by rw [← h]; grobner)
 · have h1 := mul_inv h0
   refine dE_sq (iE * inv y) ?_
   have h2 : dE * (y * y) = 0 - 1 := by
    have : dE * (y * y) = (dE * (y * y) + 1) - 1 := by grobner
    rw [this, h]
   have h3 : iE * inv y * (iE * inv y) = (iE * iE) * (inv y * inv y) := by grobner
   have h4 : dE = (dE * (y * y)) * (inv y * inv y) := by
    have : (dE * (y * y)) * (inv y * inv y) = dE * ((y * inv y) * (y * inv y)) := by grobner
    rw [this, h1]; grobner
   rw [h3, iE2, ← h2]
   exact h4.symm
def xz (y : F) : F := (y * y - 1) * inv (dE * (y * y) + 1)
theorem on_ring (x y d v : F) (hv : (d * (y * y) + 1) * v = 1) (h : x * x = (y * y - 1) * v) : 0 - x * x + y * y - 1 - d * x * x * y * y = 0 := by
 have h1 : 0 - x * x + y * y - 1 - d * x * x * y * y = (y * y - 1) - (x * x) * (d * (y * y) + 1) := by grobner
 rw [h1, h]
 have h2 : (y * y - 1) * v * (d * (y * y) + 1) = (y * y - 1) * ((d * (y * y) + 1) * v) := by grobner
 rw [h2, hv]; grobner
theorem on_of {x y : F} (h : x * x = xz y) : on x y := on_ring x y dE _ (mul_inv (den_ne y)) h
theorem xz_ring (x y d v : F) (hv : (d * (y * y) + 1) * v = 1) (h : 0 - x * x + y * y - 1 - d * x * x * y * y = 0) : x * x = (y * y - 1) * v := by
 have h1 : (y * y - 1) * v = (x * x) * ((d * (y * y) + 1) * v) + (0 - x * x + y * y - 1 - d * x * x * y * y) * v := by grobner
 rw [h1, hv, h]; grobner
theorem xz_on {x y : F} (h : on x y) : x * x = xz y := xz_ring x y dE _ (mul_inv (den_ne y)) h
/-- a point's bytes -/
def encN (p : Pt) : Nat := p.y.val + 2 ^ 255 * (p.x.val % 2)
def enc (p : Pt) : List UInt8 := toLe 32 (encN p)
theorem enc_len (p : Pt) : (enc p).length = 32 := toLe_len _ _
theorem y_lt (y : F) : y.val < 2 ^ 255 := Nat.lt_trans y.isLt (by decide +kernel)
theorem encN_lt (p : Pt) : encN p < 2 ^ 256 := by
 have h := y_lt p.y
 unfold encN
 have h2 : p.x.val % 2 < 2 := Nat.mod_lt _ (by decide)
 have h3 : (2 : Nat) ^ 256 = 2 ^ 255 + 2 ^ 255 := by decide +kernel
 generalize p.x.val % 2 = b at *
 generalize (2 : Nat) ^ 255 = q at *
 have : b = 0 ∨ b = 1 := by omega
 rcases this with rfl | rfl <;> omega
theorem leN_enc (p : Pt) : leN (enc p) = encN p := by
 unfold enc
 rw [leN_toLe]
 exact Nat.mod_eq_of_lt (Nat.lt_of_lt_of_le (encN_lt p) (by decide +kernel))
theorem enc_y (p : Pt) : fe (leN (enc p) % 2 ^ 255) = p.y := by
 rw [leN_enc]
 unfold encN
 rw [Nat.add_mul_mod_self_left, Nat.mod_eq_of_lt (y_lt p.y), fe_of]
theorem enc_top (p : Pt) : ((enc p).getD 31 0).toNat / 128 = p.x.val % 2 := by
 have hl := enc_len p
 have h := leN_byte (enc p) 31 (by omega)
 have h2 := encN_lt p
 rw [leN_enc] at h
 rw [List.getD_eq_getElem?_getD, List.getElem?_eq_getElem (by omega : 31 < (enc p).length), Option.getD_some, ← h]
 unfold encN at *
 have h3 := y_lt p.y
 generalize p.y.val = y at *
 have h4 : p.x.val % 2 < 2 := Nat.mod_lt _ (by decide)
 generalize p.x.val % 2 = b at *
 have : b = 0 ∨ b = 1 := by omega
 rcases this with rfl | rfl <;> omega
/-- the x that goes with bytes: by the highest bit -/
def sgn (s : List UInt8) (r : F) : F := if 128 ≤ (s.getD 31 0).toNat then 0 - r else r
theorem sgn_sq (s : List UInt8) (r : F) : sgn s r * sgn s r = r * r := by
 unfold sgn
 split
 · exact neg_sq r
 · rfl
def yOf (s : List UInt8) : F := fe (leN s % 2 ^ 255)
theorem on_s {s : List UInt8} {r : F} (h : r * r = xz (yOf s)) : on (sgn s r) (yOf s) := on_of ((sgn_sq s r).trans h)
instance decOn (x y : F) : Decidable (on x y) := inferInstanceAs (Decidable (0 - x * x + y * y - 1 - dE * x * x * y * y = 0))
/-- a point, if it is one -/
def mkP (x y : F) : Option Pt := if h : on x y then some ⟨x, y, h⟩ else none
theorem mkP_of {x y : F} (h : on x y) : mkP x y = some ⟨x, y, h⟩ := dif_pos h
/-- the point of bytes -/
def dec (s : List UInt8) : Option Pt := (rt (xz (yOf s))).bind fun r => (mkP (sgn s r) (yOf s)).bind fun p => if enc p = s then some p else none
theorem dec_none {s : List UInt8} (h : rt (xz (yOf s)) = none) : dec s = none := by unfold dec; rw [h]; rfl
theorem dec_of {s : List UInt8} {r : F} (h : rt (xz (yOf s)) = some r) : dec s = if enc ⟨sgn s r, yOf s, on_s (rt_sq h)⟩ = s then some ⟨sgn s r, yOf s, on_s (rt_sq h)⟩ else none := by
 unfold dec
 rw [h, Option.bind_some, mkP_of (on_s (rt_sq h)), Option.bind_some]
theorem sgn_enc (p : Pt) {r : F} (h : r * r = p.x * p.x) (hr : r.val % 2 = 0) : sgn (enc p) r = p.x := by
 have ht := enc_top p
 have hb : ((enc p).getD 31 0).toNat < 256 := UInt8.toNat_lt _
 unfold sgn
 generalize ((enc p).getD 31 0).toNat = t at *
 rcases sq_cases h with h1 | h1
 · subst h1
   rw [hr] at ht
   rw [if_neg (by omega)]
 · by_cases hx : p.x = 0
   · rw [hx] at h1 ht ⊢
     have h0 : r = 0 := by rw [h1]; grobner
     rw [h0]
     have : ¬ 128 ≤ t := by
      have : (0 : F).val = 0 := rfl
      rw [this] at ht
      omega
     rw [if_neg this]
   · have hv : p.x.val ≠ 0 := fun e => hx (Fin.ext e)
     have h2 := neg_val hv
     rw [← h1] at h2
     have h3 := P_odd
     have h4 : p.x.val < Ed.P := p.x.isLt
     rw [if_pos (by omega), h1]
     grobner
theorem dec_enc (p : Pt) : dec (enc p) = some p := by
 have hy : yOf (enc p) = p.y := enc_y p
 have hz : p.x * p.x = xz (yOf (enc p)) := by rw [hy]; exact xz_on p.h
 obtain ⟨r, hr⟩ := rt_some hz
 have hq : r * r = p.x * p.x := by rw [rt_sq hr, hz]
 have hp : (⟨sgn (enc p) r, yOf (enc p), on_s (rt_sq hr)⟩ : Pt) = p := Pt.eq (sgn_enc p hq (rt_par hr)) hy
 rw [dec_of hr, hp, if_pos rfl]
end Go.Proofs.YtfpcelmekfdafaaGreatDoor.Ed
namespace Go.Proofs.YtfpcelmekfdafaaGreatDoor.Kx
open Go.RowKit Go.Proofs.YtfpcelmekfdafaaGreatDoor.Cl Go.Proofs.YtfpcelmekfdafaaGreatDoor.Ed
/-- elements in a row -/
def els : List E → List Nat
 | [] => []
 | x :: l => x.l ++ els l
theorem els_len : ∀ l : List E, (els l).length = 5 * l.length
 | [] => rfl
 | x :: l => by show (x.l ++ els l).length = _; rw [List.length_append, els_len l, E.len, List.length_cons]; omega
theorem els_app : ∀ a b : List E, els (a ++ b) = els a ++ els b
 | [], _ => rfl
 | x :: l, b => by show x.l ++ els (l ++ b) = (x.l ++ els l) ++ els b; rw [els_app l b, List.append_assoc]
theorem u64s_app (a b : List Nat) : u64s (a ++ b) = u64s a ++ u64s b := by unfold u64s; simp
theorem u64s_len (a : List Nat) : (u64s a).size = a.length := by unfold u64s; simp
/-- a part of a row of elements, read -/
theorem els_at {w : World} {b T : Nat} {L : List E} (h : Rg.Blk w b T (u64s (els L))) (k off : Nat) (M : List E) (hM : (L.drop k).take M.length = M) (ho : off = 5 * k) (hk : k ≤ L.length) : ∀ j v, (u64s (els M))[j]? = some v → w.cell? ⟨b, off + j, none⟩ = some v := by
 intro j v hv
 have h1 : L = L.take k ++ (M ++ (L.drop k).drop M.length) := by
  have := List.take_append_drop M.length (L.drop k)
  rw [hM] at this
  rw [this, List.take_append_drop]
 have h2 : u64s (els L) = u64s (els (L.take k)) ++ (u64s (els M) ++ u64s (els ((L.drop k).drop M.length))) := by
  rw [← u64s_app, ← u64s_app, ← els_app, ← els_app, ← h1]
 have h3 : (u64s (els (L.take k))).size = off := by rw [u64s_len, els_len, List.length_take, ho, Nat.min_eq_left hk]
 refine Rg.Blk.cell h (off + j) ?_
 rw [h2, Array.getElem?_append_right (by omega), h3, Nat.add_sub_cancel_left]
 rw [Array.getElem?_append_left]
 · exact hv
 · exact (Array.getElem?_eq_some_iff.1 hv).1
theorem el_part {w : World} {b T : Nat} {L : List E} (h : Rg.Blk w b T (u64s (els L))) (k off : Nat) (x : E) (hM : (L.drop k).take 1 = [x]) (ho : off = 5 * k) (hk : k ≤ L.length) : ∀ j v, (u64s x.l)[j]? = some v → w.cell? ⟨b, off + j, none⟩ = some v := by
 intro j v hv
 refine els_at h k off [x] hM ho hk j v ?_
 show (u64s (x.l ++ []))[j]? = _
 rw [List.append_nil]; exact hv
theorem els_one (x : E) : els [x] = x.l := by show x.l ++ [] = _; rw [List.append_nil]
theorem els_all (L : List E) : (u64s (els L)).all (·.oneCell') = true := u64s_one _
def zE : E := ⟨0, 0, 0, 0, 0⟩
/-- x tells a -/
structure El (x : E) (a : F) : Prop where
 t : tid x
 f : x.f = a
theorem El.ok {x : E} {a : F} (h : El x a) : x.ok := h.t.ok
theorem El.of {x : E} {a : F} (h : tid x ∧ x.f = a) : El x a := ⟨h.1, h.2⟩
theorem zE_e : El zE 0 := ⟨zero_tid, zero_f⟩
theorem add_e {x y : E} {a b : F} (hx : El x a) (hy : El y b) : ∃ r, El r (a + b) ∧ ∀ W : World, Calls Tryz.prog 49 #[.agg (u64s x.l), .agg (u64s y.l)] W fun e w' => e = .returned (.agg (u64s r.l)) ∧ Below W.heap.size W w' :=
 ⟨add x y, El.of (by rw [← hx.f, ← hy.f]; exact add_f hx.t hy.t), fun W => Add_any W x y⟩
theorem sub_e {x y : E} {a b : F} (hx : El x a) (hy : El y b) : ∃ r, El r (a - b) ∧ ∀ W : World, Calls Tryz.prog 70 #[.agg (u64s x.l), .agg (u64s y.l)] W fun e w' => e = .returned (.agg (u64s r.l)) ∧ Below W.heap.size W w' :=
 ⟨sub x y, El.of (by rw [← hx.f, ← hy.f]; exact sub_f hx.t hy.t), fun W => Sub_any W x y⟩
theorem mul_e {x y : E} {a b : F} (hx : El x a) (hy : El y b) : ∃ r, El r (a * b) ∧ ∀ W : World, Calls Tryz.prog 47 #[.agg (u64s x.l), .agg (u64s y.l)] W fun e w' => e = .returned (.agg (u64s r.l)) ∧ Below W.heap.size W w' :=
 ⟨mul x y, El.of (by rw [← hx.f, ← hy.f]; exact mul_f hx.t hy.t), fun W => Mul_any W x y hx.ok hy.ok⟩
theorem sq_e {x : E} {a : F} (hx : El x a) : ∃ r, El r (a * a) ∧ ∀ W : World, Calls Tryz.prog 85 #[.agg (u64s x.l)] W fun e w' => e = .returned (.agg (u64s r.l)) ∧ Below W.heap.size W w' :=
 ⟨sq x, El.of (by rw [← hx.f]; exact sq_f hx.t), fun W => Square_any W x hx.ok⟩
theorem small_e (n : Nat) (hn : n < 2251799813685248) {a : F} (ha : fe n = a) : ∃ r, El r a ∧ ∀ W : World, Calls Tryz.prog 45 #[.int .u64 n] W fun e w' => e = .returned (.agg (u64s r.l)) ∧ Below W.heap.size W w' :=
 ⟨small n, El.of ⟨small_tid hn, (small_f hn).trans ha⟩, fun W => Small_any W n (Nat.lt_trans hn (by unfold M; decide))⟩
theorem inv_e {x : E} {a : F} (hx : El x a) : ∃ r, El r (Ed.inv a) ∧ ∀ W : World, Calls Tryz.prog 48 #[.agg (u64s x.l)] W fun e w' => e = .returned (.agg (u64s r.l)) ∧ Below W.heap.size W w' :=
 ⟨inv x, El.of (by rw [← hx.f]; exact inv_f hx.t), fun W => Invert_any W x hx.ok⟩
theorem choose_e {x y : E} (f : Bool) : ∀ W : World, Calls Tryz.prog 97 #[.bool f, .agg (u64s x.l), .agg (u64s y.l)] W fun e w' => e = .returned (.agg (u64s (if f = true then x else y).l)) ∧ Below W.heap.size W w' := fun W => Choose_any W f x y
theorem of_e (t : ByteArray) (ht : t.size = 32) : ∃ r, El r (fe (leN t.data.toList % 2 ^ 255)) ∧ ∀ W : World, Calls Tryz.prog 60 #[.string t] W fun e w' => e = .returned (.agg (u64s r.l)) ∧ Below W.heap.size W w' :=
 ⟨ofB t.data.toList, El.of ⟨ofB_tid _, ofB_f _⟩, fun W => Of_any W t ht⟩
theorem bytes_e {x : E} {a : F} (hx : El x a) : ∀ W : World, Calls Tryz.prog 55 #[.agg (u64s x.l)] W fun e w' => e = .returned (.agg (Cv.bytesV (toLe 32 a.val))) ∧ Below W.heap.size W w' := fun W => by
 have h := Bytes_any W x
 rwa [bytes_f hx.t, hx.f] at h
theorem pwa_yes (x : E) (k : Nat) (h : (decide (8 ≤ 254 - k) || 236 / 2 ^ (254 - k) % 2 == 1) = true) : pw 236 x (k + 1) = mul (sq (pw 236 x k)) x := by
 show (if (decide (8 ≤ 254 - k) || 236 / 2 ^ (254 - k) % 2 == 1) = true then mul (sq (pw 236 x k)) x else sq (pw 236 x k)) = _
 rw [if_pos h]
theorem pwa_no (x : E) (k : Nat) (h : (decide (8 ≤ 254 - k) || 236 / 2 ^ (254 - k) % 2 == 1) = false) : pw 236 x (k + 1) = sq (pw 236 x k) := by
 show (if (decide (8 ≤ 254 - k) || 236 / 2 ^ (254 - k) % 2 == 1) = true then mul (sq (pw 236 x k)) x else sq (pw 236 x k)) = _
 rw [if_neg (by rw [h]; decide)]
theorem pwa_any (w : World) (x : E) (hx : x.ok) : Calls Tryz.prog 84 #[.agg (u64s x.l), .int .u64 20, .int .i64 2] w fun e w' => e = .returned (.agg (u64s (pw 236 x 253).l)) ∧ Below w.heap.size w w' := by
 have HOX := ϕ hx
 clear hx
 go_enter Tryz.func84, Tryz.ntmps84
 go_upto_region 1 with ((with_reducible refine gate_ ?_); refine Rg.box_fresh rfl 49 _ rfl (u64s x.l) rfl ?_; intro X hX hbX hnX; have HX := ϕ hX; have HBX := ϕ hbX; have HNX := ϕ hnX; clear hX hbX hnX)
 obtain ⟨xb, hxb⟩ : ∃ xb, w.heap.size = xb := ⟨_, rfl⟩
 obtain ⟨rb, hrb⟩ : ∃ rb, X.heap.size = rb := ⟨_, rfl⟩
 have HR := ϕ (show Row (X.alloc (.cells Z5 49)) xb 49 x.l from (hxb ▸ HX.out).alloc _)
 have HZ := ϕ (show Rg.Blk (X.alloc (.cells Z5 49)) rb 49 Z5 from Rg.Blk.newAt hrb.symm _ _)
 have HB := ϕ (show Below xb w (X.alloc (.cells Z5 49)) from hxb ▸ HBX.out.alloc HBX.out.size _)
 have HNE := ϕ (show xb ≠ rb ∧ xb ≤ rb from by have h1 := HX.out.lt; constructor <;> omega)
 have HXB := ϕ hxb
 rw [hxb, hrb, show (#[.int .u64 0, .int .u64 0, .int .u64 0, .int .u64 0, .int .u64 0] : Array Value) = Z5 from rfl]
 generalize X.alloc (.cells Z5 49) = Y at *
 clear HX HBX HNX hxb hrb
 have HR0 := HR
 go_upto_region 2 with (first
  | (go_at_call 45; refine (Small_any _ 1 (by decide)).mono ?_; rintro e w9 ⟨rfl, hb9⟩; have HR9 := ϕ (HR.out.below hb9 HR.out.lt); have HZ9 := ϕ (HZ.out.below hb9 HZ.out.lt); have HB9 := ϕ (HB.out.trans (hb9.mono (HB.out.size_le HXB.out))); clear hb9)
  | (refine Rg.store_fresh rfl 49 _ _ rfl (u64s (small 1).l) _ 49 rfl rfl (by rw [u64s_size]; kernel_rfl) rfl (u64s_one _) ?_; intro X1 hX hbX; have HO0 := ϕ hX; have HB0 := ϕ hbX; clear hX hbX))
 obtain ⟨ob, hob⟩ : ∃ ob, w9.heap.size = ob := ⟨_, rfl⟩
 have HNO := ϕ (show ob ≠ xb ∧ ob ≠ rb ∧ xb ≤ ob from by have h1 := HR9.out.lt; have h2 := HZ9.out.lt; refine ⟨?_, ?_, ?_⟩ <;> omega)
 have HO := ϕ (show Row X1 ob 49 (small 1).l from hob ▸ HO0.out)
 clear HR HZ HB
 have HR := ϕ (HR9.out.below HB0.out HR9.out.lt)
 have HZ := ϕ (HZ9.out.below HB0.out HZ9.out.lt)
 have HB := ϕ (HB9.out.trans (HB0.out.mono (HB9.out.size_le HXB.out)))
 rw [hob]
 clear HR0 HR9 HZ9 HB9 HO0 HB0 hob
 go_upto_region 4 with fail
 go_loopw [9] (fun i wr => ∃ k : Nat, k ≤ 253 ∧ i = .int .i64 (254 - (k : Int)) ∧ Row wr ob 49 (pw 236 x k).l ∧ Row wr xb 49 x.l ∧ Rg.Blk wr rb 49 Z5 ∧ Below xb w wr) (fun i _ => (intOf i + 1).toNat)
 case atStart => exact ⟨0, Nat.zero_le _, rfl, HO.out, HR.out, HZ.out, HB.out⟩
 case round =>
  obtain ⟨k, hk, rfl, ho, hr, hz, hb⟩ := hrel
  clear HO HR HZ HB
  have HO := ϕ ho
  have HR := ϕ hr
  have HZ := ϕ hz
  have HB := ϕ hb
  clear ho hr hz hb
  have HOK := ϕ (pw_ok 236 x k)
  by_cases hk5 : k < 253
  · have hd : decide ((2 : Int) ≤ 254 - (k : Int)) = true := by simp; omega
    have hd0 : (2 : Int) ≤ 254 - (k : Int) := by omega
    have HYS := ϕ (pwa_yes x k)
    have HNS := ϕ (pwa_no x k)
    obtain ⟨y, hy⟩ : ∃ y, pw 236 x k = y := ⟨_, rfl⟩
    rw [hy] at HO HOK HYS HNS
    clear hy
    go_upto_region 7 with (first
     | ((with_reducible refine gate_ ?_); refine Cv.load_cells rfl 49 _ rfl ob 0 rfl (u64s y.l) _ (fun j v hv => by rw [Nat.zero_add]; exact Rg.Blk.cell (row_blk HO.out) j hv) Tryz.underlying49 rfl (by rw [u64s_size]; kernel_rfl) ?_; skip)
     | (go_at_call 85; refine (Square_any _ y HOK.out).mono ?_; rintro e w9 ⟨rfl, hb9⟩; have HO9 := ϕ (HO.out.below hb9 HO.out.lt); have HR9 := ϕ (HR.out.below hb9 HR.out.lt); have HZ9 := ϕ (HZ.out.below hb9 HZ.out.lt); have HB9 := ϕ (HB.out.trans (hb9.mono (HB.out.size_le HXB.out))); clear hb9 HO HR HZ HB)
     | ((with_reducible refine gate_ ?_); refine Cv.store_blk rfl 49 _ _ rfl ob (u64s (sq y).l) (u64s y.l) 49 rfl rfl (row_blk HO9.out) (by rw [u64s_size]; kernel_rfl) (by rw [u64s_size]; first | rfl | rw [u64s_size]) (u64s_one _) ?_; intro V3 hV hgV; have HO := ϕ (show Row V3 ob 49 (sq y).l from hV); have HR := ϕ (row_other HR9.out hgV HNO.out.1); have HZ := ϕ (blk_other HZ9.out hgV HNO.out.2.1); have HB := ϕ (HB9.out.grown hgV (HB9.out.size_le HXB.out) (fun j e => by cases e; exact HNO.out.2.2)); clear hV hgV))
    clear HO9 HR9 HZ9 HB9
    by_cases h8 : k ≤ 246
    · have hd8 : decide ((8 : Int) ≤ 254 - (k : Int)) = true := by simp; omega
      have hd9 : (8 : Int) ≤ 254 - (k : Int) := by omega
      have HST := ϕ (HYS.out (by rw [Bool.or_eq_true]; left; simp; omega))
      go_wp2_with (first
       | ((with_reducible refine gate_ ?_); refine Cv.load_cells rfl 49 _ rfl ob 0 rfl (u64s (sq y).l) _ (fun j v hv => by rw [Nat.zero_add]; exact Rg.Blk.cell (row_blk HO.out) j hv) Tryz.underlying49 rfl (by rw [u64s_size]; kernel_rfl) ?_; skip)
       | ((with_reducible refine gate_ ?_); refine Cv.load_cells rfl 49 _ rfl xb 0 rfl (u64s x.l) _ (fun j v hv => by rw [Nat.zero_add]; exact Rg.Blk.cell (row_blk HR.out) j hv) Tryz.underlying49 rfl (by rw [u64s_size]; kernel_rfl) ?_; skip)
       | (go_at_call 47; refine (Mul_any _ (sq y) x (mul_ok y y) HOX.out).mono ?_; rintro e w9 ⟨rfl, hb9⟩; have HO9 := ϕ (HO.out.below hb9 HO.out.lt); have HR9 := ϕ (HR.out.below hb9 HR.out.lt); have HZ9 := ϕ (HZ.out.below hb9 HZ.out.lt); have HB9 := ϕ (HB.out.trans (hb9.mono (HB.out.size_le HXB.out))); clear hb9 HO HR HZ HB)
       | ((with_reducible refine gate_ ?_); refine Cv.store_blk rfl 49 _ _ rfl ob (u64s (mul (sq y) x).l) (u64s (sq y).l) 49 rfl rfl (row_blk HO9.out) (by rw [u64s_size]; kernel_rfl) (by rw [u64s_size]; first | rfl | rw [u64s_size]) (u64s_one _) ?_; intro V4 hV hgV; have HO := ϕ (show Row V4 ob 49 (mul (sq y) x).l from hV); have HR := ϕ (row_other HR9.out hgV HNO.out.1); have HZ := ϕ (blk_other HZ9.out hgV HNO.out.2.1); have HB := ϕ (HB9.out.grown hgV (HB9.out.size_le HXB.out) (fun j e => by cases e; exact HNO.out.2.2)); clear hV hgV))
      go_roundw
      case rel =>
       have REL := ϕ (show ∃ k' : Nat, k' ≤ 253 ∧ Value.int .i64 (254 - (k : Int) - 1) = .int .i64 (254 - (k' : Int)) ∧ Row V4 ob 49 (pw 236 x k').l ∧ Row V4 xb 49 x.l ∧ Rg.Blk V4 rb 49 Z5 ∧ Below xb w V4 from ⟨k + 1, hk5, congrArg _ (by omega), by rw [HST.out]; exact HO.out, HR.out, HZ.out, HB.out⟩)
       first
        | exact REL.out
        | ((repeat apply Exists.intro); refine ⟨?_, rfl⟩; exact REL.out)
      case measure => (first | (simp [intOf]; done) | (simp [intOf]; omega))
    · have h9 : k = 247 ∨ k = 248 ∨ k = 249 ∨ k = 250 ∨ k = 251 ∨ k = 252 := by omega
      clear hd hd0 h8
      rcases h9 with h9 | h9 | h9 | h9 | h9 | h9
      · have HST := ϕ (HYS.out (by rw [h9]; decide))
        have hat : (254 : Int) - (k : Int) = 7 := by omega
        rw [hat]
        clear hat HYS HNS
        go_wp2_with (first
         | ((with_reducible refine gate_ ?_); refine Cv.load_cells rfl 49 _ rfl ob 0 rfl (u64s (sq y).l) _ (fun j v hv => by rw [Nat.zero_add]; exact Rg.Blk.cell (row_blk HO.out) j hv) Tryz.underlying49 rfl (by rw [u64s_size]; kernel_rfl) ?_; skip)
         | ((with_reducible refine gate_ ?_); refine Cv.load_cells rfl 49 _ rfl xb 0 rfl (u64s x.l) _ (fun j v hv => by rw [Nat.zero_add]; exact Rg.Blk.cell (row_blk HR.out) j hv) Tryz.underlying49 rfl (by rw [u64s_size]; kernel_rfl) ?_; skip)
         | (go_at_call 47; refine (Mul_any _ (sq y) x (mul_ok y y) HOX.out).mono ?_; rintro e w9 ⟨rfl, hb9⟩; have HO9 := ϕ (HO.out.below hb9 HO.out.lt); have HR9 := ϕ (HR.out.below hb9 HR.out.lt); have HZ9 := ϕ (HZ.out.below hb9 HZ.out.lt); have HB9 := ϕ (HB.out.trans (hb9.mono (HB.out.size_le HXB.out))); clear hb9 HO HR HZ HB)
         | ((with_reducible refine gate_ ?_); refine Cv.store_blk rfl 49 _ _ rfl ob (u64s (mul (sq y) x).l) (u64s (sq y).l) 49 rfl rfl (row_blk HO9.out) (by rw [u64s_size]; kernel_rfl) (by rw [u64s_size]; first | rfl | rw [u64s_size]) (u64s_one _) ?_; intro V4 hV hgV; have HO := ϕ (show Row V4 ob 49 (mul (sq y) x).l from hV); have HR := ϕ (row_other HR9.out hgV HNO.out.1); have HZ := ϕ (blk_other HZ9.out hgV HNO.out.2.1); have HB := ϕ (HB9.out.grown hgV (HB9.out.size_le HXB.out) (fun j e => by cases e; exact HNO.out.2.2)); clear hV hgV))
        go_roundw
        case rel =>
         have REL := ϕ (show ∃ k' : Nat, k' ≤ 253 ∧ Value.int .i64 ((6 : Int)) = .int .i64 (254 - (k' : Int)) ∧ Row V4 ob 49 (pw 236 x k').l ∧ Row V4 xb 49 x.l ∧ Rg.Blk V4 rb 49 Z5 ∧ Below xb w V4 from ⟨k + 1, hk5, congrArg _ (by omega), by rw [HST.out]; exact HO.out, HR.out, HZ.out, HB.out⟩)
         first
          | exact REL.out
          | ((repeat apply Exists.intro); refine ⟨?_, rfl⟩; exact REL.out)
        case measure => (first | (simp [intOf]; done) | (simp [intOf]; omega))
      · have HST := ϕ (HYS.out (by rw [h9]; decide))
        have hat : (254 : Int) - (k : Int) = 6 := by omega
        rw [hat]
        clear hat HYS HNS
        go_wp2_with (first
         | ((with_reducible refine gate_ ?_); refine Cv.load_cells rfl 49 _ rfl ob 0 rfl (u64s (sq y).l) _ (fun j v hv => by rw [Nat.zero_add]; exact Rg.Blk.cell (row_blk HO.out) j hv) Tryz.underlying49 rfl (by rw [u64s_size]; kernel_rfl) ?_; skip)
         | ((with_reducible refine gate_ ?_); refine Cv.load_cells rfl 49 _ rfl xb 0 rfl (u64s x.l) _ (fun j v hv => by rw [Nat.zero_add]; exact Rg.Blk.cell (row_blk HR.out) j hv) Tryz.underlying49 rfl (by rw [u64s_size]; kernel_rfl) ?_; skip)
         | (go_at_call 47; refine (Mul_any _ (sq y) x (mul_ok y y) HOX.out).mono ?_; rintro e w9 ⟨rfl, hb9⟩; have HO9 := ϕ (HO.out.below hb9 HO.out.lt); have HR9 := ϕ (HR.out.below hb9 HR.out.lt); have HZ9 := ϕ (HZ.out.below hb9 HZ.out.lt); have HB9 := ϕ (HB.out.trans (hb9.mono (HB.out.size_le HXB.out))); clear hb9 HO HR HZ HB)
         | ((with_reducible refine gate_ ?_); refine Cv.store_blk rfl 49 _ _ rfl ob (u64s (mul (sq y) x).l) (u64s (sq y).l) 49 rfl rfl (row_blk HO9.out) (by rw [u64s_size]; kernel_rfl) (by rw [u64s_size]; first | rfl | rw [u64s_size]) (u64s_one _) ?_; intro V4 hV hgV; have HO := ϕ (show Row V4 ob 49 (mul (sq y) x).l from hV); have HR := ϕ (row_other HR9.out hgV HNO.out.1); have HZ := ϕ (blk_other HZ9.out hgV HNO.out.2.1); have HB := ϕ (HB9.out.grown hgV (HB9.out.size_le HXB.out) (fun j e => by cases e; exact HNO.out.2.2)); clear hV hgV))
        go_roundw
        case rel =>
         have REL := ϕ (show ∃ k' : Nat, k' ≤ 253 ∧ Value.int .i64 ((5 : Int)) = .int .i64 (254 - (k' : Int)) ∧ Row V4 ob 49 (pw 236 x k').l ∧ Row V4 xb 49 x.l ∧ Rg.Blk V4 rb 49 Z5 ∧ Below xb w V4 from ⟨k + 1, hk5, congrArg _ (by omega), by rw [HST.out]; exact HO.out, HR.out, HZ.out, HB.out⟩)
         first
          | exact REL.out
          | ((repeat apply Exists.intro); refine ⟨?_, rfl⟩; exact REL.out)
        case measure => (first | (simp [intOf]; done) | (simp [intOf]; omega))
      · have HST := ϕ (HYS.out (by rw [h9]; decide))
        have hat : (254 : Int) - (k : Int) = 5 := by omega
        rw [hat]
        clear hat HYS HNS
        go_wp2_with (first
         | ((with_reducible refine gate_ ?_); refine Cv.load_cells rfl 49 _ rfl ob 0 rfl (u64s (sq y).l) _ (fun j v hv => by rw [Nat.zero_add]; exact Rg.Blk.cell (row_blk HO.out) j hv) Tryz.underlying49 rfl (by rw [u64s_size]; kernel_rfl) ?_; skip)
         | ((with_reducible refine gate_ ?_); refine Cv.load_cells rfl 49 _ rfl xb 0 rfl (u64s x.l) _ (fun j v hv => by rw [Nat.zero_add]; exact Rg.Blk.cell (row_blk HR.out) j hv) Tryz.underlying49 rfl (by rw [u64s_size]; kernel_rfl) ?_; skip)
         | (go_at_call 47; refine (Mul_any _ (sq y) x (mul_ok y y) HOX.out).mono ?_; rintro e w9 ⟨rfl, hb9⟩; have HO9 := ϕ (HO.out.below hb9 HO.out.lt); have HR9 := ϕ (HR.out.below hb9 HR.out.lt); have HZ9 := ϕ (HZ.out.below hb9 HZ.out.lt); have HB9 := ϕ (HB.out.trans (hb9.mono (HB.out.size_le HXB.out))); clear hb9 HO HR HZ HB)
         | ((with_reducible refine gate_ ?_); refine Cv.store_blk rfl 49 _ _ rfl ob (u64s (mul (sq y) x).l) (u64s (sq y).l) 49 rfl rfl (row_blk HO9.out) (by rw [u64s_size]; kernel_rfl) (by rw [u64s_size]; first | rfl | rw [u64s_size]) (u64s_one _) ?_; intro V4 hV hgV; have HO := ϕ (show Row V4 ob 49 (mul (sq y) x).l from hV); have HR := ϕ (row_other HR9.out hgV HNO.out.1); have HZ := ϕ (blk_other HZ9.out hgV HNO.out.2.1); have HB := ϕ (HB9.out.grown hgV (HB9.out.size_le HXB.out) (fun j e => by cases e; exact HNO.out.2.2)); clear hV hgV))
        go_roundw
        case rel =>
         have REL := ϕ (show ∃ k' : Nat, k' ≤ 253 ∧ Value.int .i64 ((4 : Int)) = .int .i64 (254 - (k' : Int)) ∧ Row V4 ob 49 (pw 236 x k').l ∧ Row V4 xb 49 x.l ∧ Rg.Blk V4 rb 49 Z5 ∧ Below xb w V4 from ⟨k + 1, hk5, congrArg _ (by omega), by rw [HST.out]; exact HO.out, HR.out, HZ.out, HB.out⟩)
         first
          | exact REL.out
          | ((repeat apply Exists.intro); refine ⟨?_, rfl⟩; exact REL.out)
        case measure => (first | (simp [intOf]; done) | (simp [intOf]; omega))
      · have HST := ϕ (HNS.out (by rw [h9]; decide))
        have hat : (254 : Int) - (k : Int) = 4 := by omega
        rw [hat]
        clear hat HYS HNS
        go_wp2
        go_roundw
        case rel =>
         have REL := ϕ (show ∃ k' : Nat, k' ≤ 253 ∧ Value.int .i64 ((3 : Int)) = .int .i64 (254 - (k' : Int)) ∧ Row V3 ob 49 (pw 236 x k').l ∧ Row V3 xb 49 x.l ∧ Rg.Blk V3 rb 49 Z5 ∧ Below xb w V3 from ⟨k + 1, hk5, congrArg _ (by omega), by rw [HST.out]; exact HO.out, HR.out, HZ.out, HB.out⟩)
         first
          | exact REL.out
          | ((repeat apply Exists.intro); refine ⟨?_, rfl⟩; exact REL.out)
        case measure => (first | (simp [intOf]; done) | (simp [intOf]; omega))
      · have HST := ϕ (HYS.out (by rw [h9]; decide))
        have hat : (254 : Int) - (k : Int) = 3 := by omega
        rw [hat]
        clear hat HYS HNS
        go_wp2_with (first
         | ((with_reducible refine gate_ ?_); refine Cv.load_cells rfl 49 _ rfl ob 0 rfl (u64s (sq y).l) _ (fun j v hv => by rw [Nat.zero_add]; exact Rg.Blk.cell (row_blk HO.out) j hv) Tryz.underlying49 rfl (by rw [u64s_size]; kernel_rfl) ?_; skip)
         | ((with_reducible refine gate_ ?_); refine Cv.load_cells rfl 49 _ rfl xb 0 rfl (u64s x.l) _ (fun j v hv => by rw [Nat.zero_add]; exact Rg.Blk.cell (row_blk HR.out) j hv) Tryz.underlying49 rfl (by rw [u64s_size]; kernel_rfl) ?_; skip)
         | (go_at_call 47; refine (Mul_any _ (sq y) x (mul_ok y y) HOX.out).mono ?_; rintro e w9 ⟨rfl, hb9⟩; have HO9 := ϕ (HO.out.below hb9 HO.out.lt); have HR9 := ϕ (HR.out.below hb9 HR.out.lt); have HZ9 := ϕ (HZ.out.below hb9 HZ.out.lt); have HB9 := ϕ (HB.out.trans (hb9.mono (HB.out.size_le HXB.out))); clear hb9 HO HR HZ HB)
         | ((with_reducible refine gate_ ?_); refine Cv.store_blk rfl 49 _ _ rfl ob (u64s (mul (sq y) x).l) (u64s (sq y).l) 49 rfl rfl (row_blk HO9.out) (by rw [u64s_size]; kernel_rfl) (by rw [u64s_size]; first | rfl | rw [u64s_size]) (u64s_one _) ?_; intro V4 hV hgV; have HO := ϕ (show Row V4 ob 49 (mul (sq y) x).l from hV); have HR := ϕ (row_other HR9.out hgV HNO.out.1); have HZ := ϕ (blk_other HZ9.out hgV HNO.out.2.1); have HB := ϕ (HB9.out.grown hgV (HB9.out.size_le HXB.out) (fun j e => by cases e; exact HNO.out.2.2)); clear hV hgV))
        go_roundw
        case rel =>
         have REL := ϕ (show ∃ k' : Nat, k' ≤ 253 ∧ Value.int .i64 ((2 : Int)) = .int .i64 (254 - (k' : Int)) ∧ Row V4 ob 49 (pw 236 x k').l ∧ Row V4 xb 49 x.l ∧ Rg.Blk V4 rb 49 Z5 ∧ Below xb w V4 from ⟨k + 1, hk5, congrArg _ (by omega), by rw [HST.out]; exact HO.out, HR.out, HZ.out, HB.out⟩)
         first
          | exact REL.out
          | ((repeat apply Exists.intro); refine ⟨?_, rfl⟩; exact REL.out)
        case measure => (first | (simp [intOf]; done) | (simp [intOf]; omega))
      · have HST := ϕ (HYS.out (by rw [h9]; decide))
        have hat : (254 : Int) - (k : Int) = 2 := by omega
        rw [hat]
        clear hat HYS HNS
        go_wp2_with (first
         | ((with_reducible refine gate_ ?_); refine Cv.load_cells rfl 49 _ rfl ob 0 rfl (u64s (sq y).l) _ (fun j v hv => by rw [Nat.zero_add]; exact Rg.Blk.cell (row_blk HO.out) j hv) Tryz.underlying49 rfl (by rw [u64s_size]; kernel_rfl) ?_; skip)
         | ((with_reducible refine gate_ ?_); refine Cv.load_cells rfl 49 _ rfl xb 0 rfl (u64s x.l) _ (fun j v hv => by rw [Nat.zero_add]; exact Rg.Blk.cell (row_blk HR.out) j hv) Tryz.underlying49 rfl (by rw [u64s_size]; kernel_rfl) ?_; skip)
         | (go_at_call 47; refine (Mul_any _ (sq y) x (mul_ok y y) HOX.out).mono ?_; rintro e w9 ⟨rfl, hb9⟩; have HO9 := ϕ (HO.out.below hb9 HO.out.lt); have HR9 := ϕ (HR.out.below hb9 HR.out.lt); have HZ9 := ϕ (HZ.out.below hb9 HZ.out.lt); have HB9 := ϕ (HB.out.trans (hb9.mono (HB.out.size_le HXB.out))); clear hb9 HO HR HZ HB)
         | ((with_reducible refine gate_ ?_); refine Cv.store_blk rfl 49 _ _ rfl ob (u64s (mul (sq y) x).l) (u64s (sq y).l) 49 rfl rfl (row_blk HO9.out) (by rw [u64s_size]; kernel_rfl) (by rw [u64s_size]; first | rfl | rw [u64s_size]) (u64s_one _) ?_; intro V4 hV hgV; have HO := ϕ (show Row V4 ob 49 (mul (sq y) x).l from hV); have HR := ϕ (row_other HR9.out hgV HNO.out.1); have HZ := ϕ (blk_other HZ9.out hgV HNO.out.2.1); have HB := ϕ (HB9.out.grown hgV (HB9.out.size_le HXB.out) (fun j e => by cases e; exact HNO.out.2.2)); clear hV hgV))
        go_roundw
        case rel =>
         have REL := ϕ (show ∃ k' : Nat, k' ≤ 253 ∧ Value.int .i64 ((1 : Int)) = .int .i64 (254 - (k' : Int)) ∧ Row V4 ob 49 (pw 236 x k').l ∧ Row V4 xb 49 x.l ∧ Rg.Blk V4 rb 49 Z5 ∧ Below xb w V4 from ⟨k + 1, hk5, congrArg _ (by omega), by rw [HST.out]; exact HO.out, HR.out, HZ.out, HB.out⟩)
         first
          | exact REL.out
          | ((repeat apply Exists.intro); refine ⟨?_, rfl⟩; exact REL.out)
        case measure => (first | (simp [intOf]; done) | (simp [intOf]; omega))
  · obtain rfl : k = 253 := by omega
    have hd : decide ((2 : Int) ≤ 254 - ((253 : Nat) : Int)) = false := by simp
    go_wp2_with (first
     | ((with_reducible refine gate_ ?_); refine Cv.load_cells rfl 49 _ rfl ob 0 rfl (u64s (pw 236 x 253).l) _ (fun j v hv => by rw [Nat.zero_add]; exact Rg.Blk.cell (row_blk HO.out) j hv) Tryz.underlying49 rfl (by rw [u64s_size]; kernel_rfl) ?_; skip)
     | ((with_reducible refine gate_ ?_); refine Cv.store_blk rfl 49 _ _ rfl rb (u64s (pw 236 x 253).l) Z5 49 rfl rfl HZ.out (by rw [u64s_size]; kernel_rfl) (by rw [u64s_size]; first | rfl | rw [u64s_size]) (u64s_one _) ?_; intro V3 hV hgV; have HZZ := ϕ hV; have HBZ := ϕ (HB.out.grown hgV (HB.out.size_le HXB.out) (fun j e => by cases e; exact HNE.out.2)); clear hV hgV))
    refine bodyPost_ret (v := .agg (u64s (pw 236 x 253).l))
     (results_cell_row Tryz.results84 _ _ rb 49 _ (0, 0) _ rfl HZZ.out Tryz.underlying49 rfl (by rw [u64s_size]; kernel_rfl)) rfl ?_
    exact ⟨rfl, HXB.out ▸ HBZ.out⟩
theorem bits236 : BitsOf 236 (2 ^ 255 - 20) := bitsOf _ _ (by decide +kernel)
theorem pwa_e {x : E} {a : F} (hx : El x a) : ∃ r, El r (fpow a ((2 ^ 255 - 20) / 2 ^ 2)) ∧ ∀ W : World, Calls Tryz.prog 84 #[.agg (u64s x.l), .int .u64 20, .int .i64 2] W fun e w' => e = .returned (.agg (u64s r.l)) ∧ Below W.heap.size W w' :=
 ⟨pw 236 x 253, El.of (by rw [← hx.f]; exact pw_f bits236 hx.t 253 (by decide)), fun W => pwa_any W x hx.ok⟩
theorem pwb_yes (x : E) (k : Nat) (h : (decide (8 ≤ 254 - k) || 232 / 2 ^ (254 - k) % 2 == 1) = true) : pw 232 x (k + 1) = mul (sq (pw 232 x k)) x := by
 show (if (decide (8 ≤ 254 - k) || 232 / 2 ^ (254 - k) % 2 == 1) = true then mul (sq (pw 232 x k)) x else sq (pw 232 x k)) = _
 rw [if_pos h]
theorem pwb_no (x : E) (k : Nat) (h : (decide (8 ≤ 254 - k) || 232 / 2 ^ (254 - k) % 2 == 1) = false) : pw 232 x (k + 1) = sq (pw 232 x k) := by
 show (if (decide (8 ≤ 254 - k) || 232 / 2 ^ (254 - k) % 2 == 1) = true then mul (sq (pw 232 x k)) x else sq (pw 232 x k)) = _
 rw [if_neg (by rw [h]; decide)]
theorem pwb_any (w : World) (x : E) (hx : x.ok) : Calls Tryz.prog 84 #[.agg (u64s x.l), .int .u64 24, .int .i64 3] w fun e w' => e = .returned (.agg (u64s (pw 232 x 252).l)) ∧ Below w.heap.size w w' := by
 have HOX := ϕ hx
 clear hx
 go_enter Tryz.func84, Tryz.ntmps84
 go_upto_region 1 with ((with_reducible refine gate_ ?_); refine Rg.box_fresh rfl 49 _ rfl (u64s x.l) rfl ?_; intro X hX hbX hnX; have HX := ϕ hX; have HBX := ϕ hbX; have HNX := ϕ hnX; clear hX hbX hnX)
 obtain ⟨xb, hxb⟩ : ∃ xb, w.heap.size = xb := ⟨_, rfl⟩
 obtain ⟨rb, hrb⟩ : ∃ rb, X.heap.size = rb := ⟨_, rfl⟩
 have HR := ϕ (show Row (X.alloc (.cells Z5 49)) xb 49 x.l from (hxb ▸ HX.out).alloc _)
 have HZ := ϕ (show Rg.Blk (X.alloc (.cells Z5 49)) rb 49 Z5 from Rg.Blk.newAt hrb.symm _ _)
 have HB := ϕ (show Below xb w (X.alloc (.cells Z5 49)) from hxb ▸ HBX.out.alloc HBX.out.size _)
 have HNE := ϕ (show xb ≠ rb ∧ xb ≤ rb from by have h1 := HX.out.lt; constructor <;> omega)
 have HXB := ϕ hxb
 rw [hxb, hrb, show (#[.int .u64 0, .int .u64 0, .int .u64 0, .int .u64 0, .int .u64 0] : Array Value) = Z5 from rfl]
 generalize X.alloc (.cells Z5 49) = Y at *
 clear HX HBX HNX hxb hrb
 have HR0 := HR
 go_upto_region 2 with (first
  | (go_at_call 45; refine (Small_any _ 1 (by decide)).mono ?_; rintro e w9 ⟨rfl, hb9⟩; have HR9 := ϕ (HR.out.below hb9 HR.out.lt); have HZ9 := ϕ (HZ.out.below hb9 HZ.out.lt); have HB9 := ϕ (HB.out.trans (hb9.mono (HB.out.size_le HXB.out))); clear hb9)
  | (refine Rg.store_fresh rfl 49 _ _ rfl (u64s (small 1).l) _ 49 rfl rfl (by rw [u64s_size]; kernel_rfl) rfl (u64s_one _) ?_; intro X1 hX hbX; have HO0 := ϕ hX; have HB0 := ϕ hbX; clear hX hbX))
 obtain ⟨ob, hob⟩ : ∃ ob, w9.heap.size = ob := ⟨_, rfl⟩
 have HNO := ϕ (show ob ≠ xb ∧ ob ≠ rb ∧ xb ≤ ob from by have h1 := HR9.out.lt; have h2 := HZ9.out.lt; refine ⟨?_, ?_, ?_⟩ <;> omega)
 have HO := ϕ (show Row X1 ob 49 (small 1).l from hob ▸ HO0.out)
 clear HR HZ HB
 have HR := ϕ (HR9.out.below HB0.out HR9.out.lt)
 have HZ := ϕ (HZ9.out.below HB0.out HZ9.out.lt)
 have HB := ϕ (HB9.out.trans (HB0.out.mono (HB9.out.size_le HXB.out)))
 rw [hob]
 clear HR0 HR9 HZ9 HB9 HO0 HB0 hob
 go_upto_region 4 with fail
 go_loopw [9] (fun i wr => ∃ k : Nat, k ≤ 252 ∧ i = .int .i64 (254 - (k : Int)) ∧ Row wr ob 49 (pw 232 x k).l ∧ Row wr xb 49 x.l ∧ Rg.Blk wr rb 49 Z5 ∧ Below xb w wr) (fun i _ => (intOf i + 1).toNat)
 case atStart => exact ⟨0, Nat.zero_le _, rfl, HO.out, HR.out, HZ.out, HB.out⟩
 case round =>
  obtain ⟨k, hk, rfl, ho, hr, hz, hb⟩ := hrel
  clear HO HR HZ HB
  have HO := ϕ ho
  have HR := ϕ hr
  have HZ := ϕ hz
  have HB := ϕ hb
  clear ho hr hz hb
  have HOK := ϕ (pw_ok 232 x k)
  by_cases hk5 : k < 252
  · have hd : decide ((3 : Int) ≤ 254 - (k : Int)) = true := by simp; omega
    have hd0 : (3 : Int) ≤ 254 - (k : Int) := by omega
    have HYS := ϕ (pwb_yes x k)
    have HNS := ϕ (pwb_no x k)
    obtain ⟨y, hy⟩ : ∃ y, pw 232 x k = y := ⟨_, rfl⟩
    rw [hy] at HO HOK HYS HNS
    clear hy
    go_upto_region 7 with (first
     | ((with_reducible refine gate_ ?_); refine Cv.load_cells rfl 49 _ rfl ob 0 rfl (u64s y.l) _ (fun j v hv => by rw [Nat.zero_add]; exact Rg.Blk.cell (row_blk HO.out) j hv) Tryz.underlying49 rfl (by rw [u64s_size]; kernel_rfl) ?_; skip)
     | (go_at_call 85; refine (Square_any _ y HOK.out).mono ?_; rintro e w9 ⟨rfl, hb9⟩; have HO9 := ϕ (HO.out.below hb9 HO.out.lt); have HR9 := ϕ (HR.out.below hb9 HR.out.lt); have HZ9 := ϕ (HZ.out.below hb9 HZ.out.lt); have HB9 := ϕ (HB.out.trans (hb9.mono (HB.out.size_le HXB.out))); clear hb9 HO HR HZ HB)
     | ((with_reducible refine gate_ ?_); refine Cv.store_blk rfl 49 _ _ rfl ob (u64s (sq y).l) (u64s y.l) 49 rfl rfl (row_blk HO9.out) (by rw [u64s_size]; kernel_rfl) (by rw [u64s_size]; first | rfl | rw [u64s_size]) (u64s_one _) ?_; intro V3 hV hgV; have HO := ϕ (show Row V3 ob 49 (sq y).l from hV); have HR := ϕ (row_other HR9.out hgV HNO.out.1); have HZ := ϕ (blk_other HZ9.out hgV HNO.out.2.1); have HB := ϕ (HB9.out.grown hgV (HB9.out.size_le HXB.out) (fun j e => by cases e; exact HNO.out.2.2)); clear hV hgV))
    clear HO9 HR9 HZ9 HB9
    by_cases h8 : k ≤ 246
    · have hd8 : decide ((8 : Int) ≤ 254 - (k : Int)) = true := by simp; omega
      have hd9 : (8 : Int) ≤ 254 - (k : Int) := by omega
      have HST := ϕ (HYS.out (by rw [Bool.or_eq_true]; left; simp; omega))
      go_wp2_with (first
       | ((with_reducible refine gate_ ?_); refine Cv.load_cells rfl 49 _ rfl ob 0 rfl (u64s (sq y).l) _ (fun j v hv => by rw [Nat.zero_add]; exact Rg.Blk.cell (row_blk HO.out) j hv) Tryz.underlying49 rfl (by rw [u64s_size]; kernel_rfl) ?_; skip)
       | ((with_reducible refine gate_ ?_); refine Cv.load_cells rfl 49 _ rfl xb 0 rfl (u64s x.l) _ (fun j v hv => by rw [Nat.zero_add]; exact Rg.Blk.cell (row_blk HR.out) j hv) Tryz.underlying49 rfl (by rw [u64s_size]; kernel_rfl) ?_; skip)
       | (go_at_call 47; refine (Mul_any _ (sq y) x (mul_ok y y) HOX.out).mono ?_; rintro e w9 ⟨rfl, hb9⟩; have HO9 := ϕ (HO.out.below hb9 HO.out.lt); have HR9 := ϕ (HR.out.below hb9 HR.out.lt); have HZ9 := ϕ (HZ.out.below hb9 HZ.out.lt); have HB9 := ϕ (HB.out.trans (hb9.mono (HB.out.size_le HXB.out))); clear hb9 HO HR HZ HB)
       | ((with_reducible refine gate_ ?_); refine Cv.store_blk rfl 49 _ _ rfl ob (u64s (mul (sq y) x).l) (u64s (sq y).l) 49 rfl rfl (row_blk HO9.out) (by rw [u64s_size]; kernel_rfl) (by rw [u64s_size]; first | rfl | rw [u64s_size]) (u64s_one _) ?_; intro V4 hV hgV; have HO := ϕ (show Row V4 ob 49 (mul (sq y) x).l from hV); have HR := ϕ (row_other HR9.out hgV HNO.out.1); have HZ := ϕ (blk_other HZ9.out hgV HNO.out.2.1); have HB := ϕ (HB9.out.grown hgV (HB9.out.size_le HXB.out) (fun j e => by cases e; exact HNO.out.2.2)); clear hV hgV))
      go_roundw
      case rel =>
       have REL := ϕ (show ∃ k' : Nat, k' ≤ 252 ∧ Value.int .i64 (254 - (k : Int) - 1) = .int .i64 (254 - (k' : Int)) ∧ Row V4 ob 49 (pw 232 x k').l ∧ Row V4 xb 49 x.l ∧ Rg.Blk V4 rb 49 Z5 ∧ Below xb w V4 from ⟨k + 1, hk5, congrArg _ (by omega), by rw [HST.out]; exact HO.out, HR.out, HZ.out, HB.out⟩)
       first
        | exact REL.out
        | ((repeat apply Exists.intro); refine ⟨?_, rfl⟩; exact REL.out)
      case measure => (first | (simp [intOf]; done) | (simp [intOf]; omega))
    · have h9 : k = 247 ∨ k = 248 ∨ k = 249 ∨ k = 250 ∨ k = 251 := by omega
      clear hd hd0 h8
      rcases h9 with h9 | h9 | h9 | h9 | h9
      · have HST := ϕ (HYS.out (by rw [h9]; decide))
        have hat : (254 : Int) - (k : Int) = 7 := by omega
        rw [hat]
        clear hat HYS HNS
        go_wp2_with (first
         | ((with_reducible refine gate_ ?_); refine Cv.load_cells rfl 49 _ rfl ob 0 rfl (u64s (sq y).l) _ (fun j v hv => by rw [Nat.zero_add]; exact Rg.Blk.cell (row_blk HO.out) j hv) Tryz.underlying49 rfl (by rw [u64s_size]; kernel_rfl) ?_; skip)
         | ((with_reducible refine gate_ ?_); refine Cv.load_cells rfl 49 _ rfl xb 0 rfl (u64s x.l) _ (fun j v hv => by rw [Nat.zero_add]; exact Rg.Blk.cell (row_blk HR.out) j hv) Tryz.underlying49 rfl (by rw [u64s_size]; kernel_rfl) ?_; skip)
         | (go_at_call 47; refine (Mul_any _ (sq y) x (mul_ok y y) HOX.out).mono ?_; rintro e w9 ⟨rfl, hb9⟩; have HO9 := ϕ (HO.out.below hb9 HO.out.lt); have HR9 := ϕ (HR.out.below hb9 HR.out.lt); have HZ9 := ϕ (HZ.out.below hb9 HZ.out.lt); have HB9 := ϕ (HB.out.trans (hb9.mono (HB.out.size_le HXB.out))); clear hb9 HO HR HZ HB)
         | ((with_reducible refine gate_ ?_); refine Cv.store_blk rfl 49 _ _ rfl ob (u64s (mul (sq y) x).l) (u64s (sq y).l) 49 rfl rfl (row_blk HO9.out) (by rw [u64s_size]; kernel_rfl) (by rw [u64s_size]; first | rfl | rw [u64s_size]) (u64s_one _) ?_; intro V4 hV hgV; have HO := ϕ (show Row V4 ob 49 (mul (sq y) x).l from hV); have HR := ϕ (row_other HR9.out hgV HNO.out.1); have HZ := ϕ (blk_other HZ9.out hgV HNO.out.2.1); have HB := ϕ (HB9.out.grown hgV (HB9.out.size_le HXB.out) (fun j e => by cases e; exact HNO.out.2.2)); clear hV hgV))
        go_roundw
        case rel =>
         have REL := ϕ (show ∃ k' : Nat, k' ≤ 252 ∧ Value.int .i64 ((6 : Int)) = .int .i64 (254 - (k' : Int)) ∧ Row V4 ob 49 (pw 232 x k').l ∧ Row V4 xb 49 x.l ∧ Rg.Blk V4 rb 49 Z5 ∧ Below xb w V4 from ⟨k + 1, hk5, congrArg _ (by omega), by rw [HST.out]; exact HO.out, HR.out, HZ.out, HB.out⟩)
         first
          | exact REL.out
          | ((repeat apply Exists.intro); refine ⟨?_, rfl⟩; exact REL.out)
        case measure => (first | (simp [intOf]; done) | (simp [intOf]; omega))
      · have HST := ϕ (HYS.out (by rw [h9]; decide))
        have hat : (254 : Int) - (k : Int) = 6 := by omega
        rw [hat]
        clear hat HYS HNS
        go_wp2_with (first
         | ((with_reducible refine gate_ ?_); refine Cv.load_cells rfl 49 _ rfl ob 0 rfl (u64s (sq y).l) _ (fun j v hv => by rw [Nat.zero_add]; exact Rg.Blk.cell (row_blk HO.out) j hv) Tryz.underlying49 rfl (by rw [u64s_size]; kernel_rfl) ?_; skip)
         | ((with_reducible refine gate_ ?_); refine Cv.load_cells rfl 49 _ rfl xb 0 rfl (u64s x.l) _ (fun j v hv => by rw [Nat.zero_add]; exact Rg.Blk.cell (row_blk HR.out) j hv) Tryz.underlying49 rfl (by rw [u64s_size]; kernel_rfl) ?_; skip)
         | (go_at_call 47; refine (Mul_any _ (sq y) x (mul_ok y y) HOX.out).mono ?_; rintro e w9 ⟨rfl, hb9⟩; have HO9 := ϕ (HO.out.below hb9 HO.out.lt); have HR9 := ϕ (HR.out.below hb9 HR.out.lt); have HZ9 := ϕ (HZ.out.below hb9 HZ.out.lt); have HB9 := ϕ (HB.out.trans (hb9.mono (HB.out.size_le HXB.out))); clear hb9 HO HR HZ HB)
         | ((with_reducible refine gate_ ?_); refine Cv.store_blk rfl 49 _ _ rfl ob (u64s (mul (sq y) x).l) (u64s (sq y).l) 49 rfl rfl (row_blk HO9.out) (by rw [u64s_size]; kernel_rfl) (by rw [u64s_size]; first | rfl | rw [u64s_size]) (u64s_one _) ?_; intro V4 hV hgV; have HO := ϕ (show Row V4 ob 49 (mul (sq y) x).l from hV); have HR := ϕ (row_other HR9.out hgV HNO.out.1); have HZ := ϕ (blk_other HZ9.out hgV HNO.out.2.1); have HB := ϕ (HB9.out.grown hgV (HB9.out.size_le HXB.out) (fun j e => by cases e; exact HNO.out.2.2)); clear hV hgV))
        go_roundw
        case rel =>
         have REL := ϕ (show ∃ k' : Nat, k' ≤ 252 ∧ Value.int .i64 ((5 : Int)) = .int .i64 (254 - (k' : Int)) ∧ Row V4 ob 49 (pw 232 x k').l ∧ Row V4 xb 49 x.l ∧ Rg.Blk V4 rb 49 Z5 ∧ Below xb w V4 from ⟨k + 1, hk5, congrArg _ (by omega), by rw [HST.out]; exact HO.out, HR.out, HZ.out, HB.out⟩)
         first
          | exact REL.out
          | ((repeat apply Exists.intro); refine ⟨?_, rfl⟩; exact REL.out)
        case measure => (first | (simp [intOf]; done) | (simp [intOf]; omega))
      · have HST := ϕ (HYS.out (by rw [h9]; decide))
        have hat : (254 : Int) - (k : Int) = 5 := by omega
        rw [hat]
        clear hat HYS HNS
        go_wp2_with (first
         | ((with_reducible refine gate_ ?_); refine Cv.load_cells rfl 49 _ rfl ob 0 rfl (u64s (sq y).l) _ (fun j v hv => by rw [Nat.zero_add]; exact Rg.Blk.cell (row_blk HO.out) j hv) Tryz.underlying49 rfl (by rw [u64s_size]; kernel_rfl) ?_; skip)
         | ((with_reducible refine gate_ ?_); refine Cv.load_cells rfl 49 _ rfl xb 0 rfl (u64s x.l) _ (fun j v hv => by rw [Nat.zero_add]; exact Rg.Blk.cell (row_blk HR.out) j hv) Tryz.underlying49 rfl (by rw [u64s_size]; kernel_rfl) ?_; skip)
         | (go_at_call 47; refine (Mul_any _ (sq y) x (mul_ok y y) HOX.out).mono ?_; rintro e w9 ⟨rfl, hb9⟩; have HO9 := ϕ (HO.out.below hb9 HO.out.lt); have HR9 := ϕ (HR.out.below hb9 HR.out.lt); have HZ9 := ϕ (HZ.out.below hb9 HZ.out.lt); have HB9 := ϕ (HB.out.trans (hb9.mono (HB.out.size_le HXB.out))); clear hb9 HO HR HZ HB)
         | ((with_reducible refine gate_ ?_); refine Cv.store_blk rfl 49 _ _ rfl ob (u64s (mul (sq y) x).l) (u64s (sq y).l) 49 rfl rfl (row_blk HO9.out) (by rw [u64s_size]; kernel_rfl) (by rw [u64s_size]; first | rfl | rw [u64s_size]) (u64s_one _) ?_; intro V4 hV hgV; have HO := ϕ (show Row V4 ob 49 (mul (sq y) x).l from hV); have HR := ϕ (row_other HR9.out hgV HNO.out.1); have HZ := ϕ (blk_other HZ9.out hgV HNO.out.2.1); have HB := ϕ (HB9.out.grown hgV (HB9.out.size_le HXB.out) (fun j e => by cases e; exact HNO.out.2.2)); clear hV hgV))
        go_roundw
        case rel =>
         have REL := ϕ (show ∃ k' : Nat, k' ≤ 252 ∧ Value.int .i64 ((4 : Int)) = .int .i64 (254 - (k' : Int)) ∧ Row V4 ob 49 (pw 232 x k').l ∧ Row V4 xb 49 x.l ∧ Rg.Blk V4 rb 49 Z5 ∧ Below xb w V4 from ⟨k + 1, hk5, congrArg _ (by omega), by rw [HST.out]; exact HO.out, HR.out, HZ.out, HB.out⟩)
         first
          | exact REL.out
          | ((repeat apply Exists.intro); refine ⟨?_, rfl⟩; exact REL.out)
        case measure => (first | (simp [intOf]; done) | (simp [intOf]; omega))
      · have HST := ϕ (HNS.out (by rw [h9]; decide))
        have hat : (254 : Int) - (k : Int) = 4 := by omega
        rw [hat]
        clear hat HYS HNS
        go_wp2
        go_roundw
        case rel =>
         have REL := ϕ (show ∃ k' : Nat, k' ≤ 252 ∧ Value.int .i64 ((3 : Int)) = .int .i64 (254 - (k' : Int)) ∧ Row V3 ob 49 (pw 232 x k').l ∧ Row V3 xb 49 x.l ∧ Rg.Blk V3 rb 49 Z5 ∧ Below xb w V3 from ⟨k + 1, hk5, congrArg _ (by omega), by rw [HST.out]; exact HO.out, HR.out, HZ.out, HB.out⟩)
         first
          | exact REL.out
          | ((repeat apply Exists.intro); refine ⟨?_, rfl⟩; exact REL.out)
        case measure => (first | (simp [intOf]; done) | (simp [intOf]; omega))
      · have HST := ϕ (HYS.out (by rw [h9]; decide))
        have hat : (254 : Int) - (k : Int) = 3 := by omega
        rw [hat]
        clear hat HYS HNS
        go_wp2_with (first
         | ((with_reducible refine gate_ ?_); refine Cv.load_cells rfl 49 _ rfl ob 0 rfl (u64s (sq y).l) _ (fun j v hv => by rw [Nat.zero_add]; exact Rg.Blk.cell (row_blk HO.out) j hv) Tryz.underlying49 rfl (by rw [u64s_size]; kernel_rfl) ?_; skip)
         | ((with_reducible refine gate_ ?_); refine Cv.load_cells rfl 49 _ rfl xb 0 rfl (u64s x.l) _ (fun j v hv => by rw [Nat.zero_add]; exact Rg.Blk.cell (row_blk HR.out) j hv) Tryz.underlying49 rfl (by rw [u64s_size]; kernel_rfl) ?_; skip)
         | (go_at_call 47; refine (Mul_any _ (sq y) x (mul_ok y y) HOX.out).mono ?_; rintro e w9 ⟨rfl, hb9⟩; have HO9 := ϕ (HO.out.below hb9 HO.out.lt); have HR9 := ϕ (HR.out.below hb9 HR.out.lt); have HZ9 := ϕ (HZ.out.below hb9 HZ.out.lt); have HB9 := ϕ (HB.out.trans (hb9.mono (HB.out.size_le HXB.out))); clear hb9 HO HR HZ HB)
         | ((with_reducible refine gate_ ?_); refine Cv.store_blk rfl 49 _ _ rfl ob (u64s (mul (sq y) x).l) (u64s (sq y).l) 49 rfl rfl (row_blk HO9.out) (by rw [u64s_size]; kernel_rfl) (by rw [u64s_size]; first | rfl | rw [u64s_size]) (u64s_one _) ?_; intro V4 hV hgV; have HO := ϕ (show Row V4 ob 49 (mul (sq y) x).l from hV); have HR := ϕ (row_other HR9.out hgV HNO.out.1); have HZ := ϕ (blk_other HZ9.out hgV HNO.out.2.1); have HB := ϕ (HB9.out.grown hgV (HB9.out.size_le HXB.out) (fun j e => by cases e; exact HNO.out.2.2)); clear hV hgV))
        go_roundw
        case rel =>
         have REL := ϕ (show ∃ k' : Nat, k' ≤ 252 ∧ Value.int .i64 ((2 : Int)) = .int .i64 (254 - (k' : Int)) ∧ Row V4 ob 49 (pw 232 x k').l ∧ Row V4 xb 49 x.l ∧ Rg.Blk V4 rb 49 Z5 ∧ Below xb w V4 from ⟨k + 1, hk5, congrArg _ (by omega), by rw [HST.out]; exact HO.out, HR.out, HZ.out, HB.out⟩)
         first
          | exact REL.out
          | ((repeat apply Exists.intro); refine ⟨?_, rfl⟩; exact REL.out)
        case measure => (first | (simp [intOf]; done) | (simp [intOf]; omega))
  · obtain rfl : k = 252 := by omega
    have hd : decide ((3 : Int) ≤ 254 - ((252 : Nat) : Int)) = false := by simp
    go_wp2_with (first
     | ((with_reducible refine gate_ ?_); refine Cv.load_cells rfl 49 _ rfl ob 0 rfl (u64s (pw 232 x 252).l) _ (fun j v hv => by rw [Nat.zero_add]; exact Rg.Blk.cell (row_blk HO.out) j hv) Tryz.underlying49 rfl (by rw [u64s_size]; kernel_rfl) ?_; skip)
     | ((with_reducible refine gate_ ?_); refine Cv.store_blk rfl 49 _ _ rfl rb (u64s (pw 232 x 252).l) Z5 49 rfl rfl HZ.out (by rw [u64s_size]; kernel_rfl) (by rw [u64s_size]; first | rfl | rw [u64s_size]) (u64s_one _) ?_; intro V3 hV hgV; have HZZ := ϕ hV; have HBZ := ϕ (HB.out.grown hgV (HB.out.size_le HXB.out) (fun j e => by cases e; exact HNE.out.2)); clear hV hgV))
    refine bodyPost_ret (v := .agg (u64s (pw 232 x 252).l))
     (results_cell_row Tryz.results84 _ _ rb 49 _ (0, 0) _ rfl HZZ.out Tryz.underlying49 rfl (by rw [u64s_size]; kernel_rfl)) rfl ?_
    exact ⟨rfl, HXB.out ▸ HBZ.out⟩
theorem bits232 : BitsOf 232 (2 ^ 255 - 24) := bitsOf _ _ (by decide +kernel)
theorem pwb_e {x : E} {a : F} (hx : El x a) : ∃ r, El r (fpow a ((2 ^ 255 - 24) / 2 ^ 3)) ∧ ∀ W : World, Calls Tryz.prog 84 #[.agg (u64s x.l), .int .u64 24, .int .i64 3] W fun e w' => e = .returned (.agg (u64s r.l)) ∧ Below W.heap.size W w' :=
 ⟨pw 232 x 252, El.of (by rw [← hx.f]; exact pw_f bits232 hx.t 252 (by decide)), fun W => pwb_any W x hx.ok⟩
theorem choose2_e {x y : E} {a b : F} (f : Bool) (hx : El x a) (hy : El y b) : ∃ r, El r (if f = true then a else b) ∧ ∀ W : World, Calls Tryz.prog 97 #[.bool f, .agg (u64s x.l), .agg (u64s y.l)] W fun e w' => e = .returned (.agg (u64s r.l)) ∧ Below W.heap.size W w' :=
 ⟨if f = true then x else y, by cases f <;> assumption, choose_e f⟩
theorem wp_val {P : Program} {o : Oper} {a : Act} {w : World} {K : Act → World → Prop} {Q : Exit → Act → World → Prop} {v : Value} (h : (execOp a.eval o).run P w = .ok (.value v) w) (hk : K (a.put o.dst v) w) : Oper.wp P o a w K Q := by
 unfold Oper.wp
 rw [h]
 exact hk
theorem build_cells {P : Program} {ops : Array Oper} {rest : List Oper} {o : Oper} {a : Act} {w : World} {Q : Exit → Act → World → Prop} (hgd : o.guard = none) (t : TypeId) (parts : Array (Nat × Operand)) (ho : o.op = .build t parts) (vals : Array (Nat × Value)) (hv : (parts.map fun (x : Nat × Operand) => (x.1, a.eval x.2)) = vals) (cells : Array Value) (h : P.built t vals.toList = some cells)
 (hk : wpList P ops Q rest (a.put o.dst (.agg cells)) w) : wpList P ops Q (o :: rest) a w :=
 wpList_plain hgd fun _ hK => by
  have hr := run_build_op (o := o) (a := a) (w := w) t parts ho vals hv cells h
  unfold Oper.wp
  rw [hr]
  exact hK _ _ hk
theorem neg_e {x : E} {a : F} (hx : El x a) : ∃ r, El r (0 - a) ∧ ∀ W : World, Calls Tryz.prog 46 #[.agg (u64s x.l)] W fun e w' => e = .returned (.agg (u64s r.l)) ∧ Below W.heap.size W w' := by
 have Ex := ϕ hx
 clear hx
 have EzE := ϕ zE_e
 obtain ⟨v5, ev5, cv5⟩ := sub_e EzE.out Ex.out
 have Ev5 := ϕ ev5
 have Cv5 := ϕ cv5
 clear ev5 cv5
 refine ⟨v5, Ev5.out, fun w => ?_⟩
 go_enter Tryz.func46, Tryz.ntmps46
 have tb0 := True.intro
 go_upto_region 1 with (have _t := tb0; (with_reducible refine gate_ ?_); refine Rg.box_fresh rfl 49 _ rfl (u64s (els [x])) (by first | rfl | (rw [els_one])) ?_; intro X1 hX hbX hnX; have J0 := ϕ hX; have K0 := ϕ hbX; have M0 := ϕ hnX; clear hX hbX hnX; clear _t tb0; have tb1 := True.intro)
 clear tb1
 have HB := ϕ (Below.refl w.heap.size w)
 obtain ⟨b1, hb1⟩ : ∃ n, w.heap.size = n := ⟨_, rfl⟩
 have Hb1 := ϕ (show Rg.Blk X1 b1 49 (u64s (els [x])) from hb1 ▸ J0.out)
 have HB := ϕ (HB.out.trans (K0.out.mono HB.out.size))
 rw [hb1]
 clear hb1 J0 K0 M0
 obtain ⟨b2, hb2⟩ : ∃ n, X1.heap.size = n := ⟨_, rfl⟩
 have Gb2 := ϕ (show w.heap.size ≤ b2 from hb2 ▸ HB.out.size)
 have Hb1 := ϕ (Hb1.out.alloc (.cells #[.int .u64 0, .int .u64 0, .int .u64 0, .int .u64 0, .int .u64 0] 49))
 have Hb2 := ϕ (show Rg.Blk (X1.alloc (.cells #[.int .u64 0, .int .u64 0, .int .u64 0, .int .u64 0, .int .u64 0] 49)) b2 49 (u64s (els [zE])) from Rg.Blk.newAt hb2.symm _ _)
 have HB := ϕ (HB.out.alloc HB.out.size (.cells #[.int .u64 0, .int .u64 0, .int .u64 0, .int .u64 0, .int .u64 0] 49))
 rw [hb2]
 clear hb2
 generalize (X1.alloc (.cells #[.int .u64 0, .int .u64 0, .int .u64 0, .int .u64 0, .int .u64 0] 49)) = Y2 at *
 have tk3_0 := True.intro
 go_wp2_with (first
  | (have _t := tk3_0; (with_reducible refine gate_ ?_); refine Cv.load_cells rfl 49 _ rfl b1 0 rfl (u64s x.l) _ (el_part (Hb1.out) 0 0 x rfl rfl (by simp)) Tryz.underlying49 rfl (by kernel_rfl) ?_; clear _t tk3_0; have tk3_1 := True.intro)
  | (have _t := tk3_1; go_at_call 70; refine (Cv5.out Y2).mono ?_; rintro e W4 ⟨rfl, hb9⟩; have Hb2 := ϕ (Hb2.out.below hb9 Hb2.out.lt); have HB := tm HB hb9; clear hb9; clear _t tk3_1; have tk3_2 := True.intro)
  | (have _t := tk3_2; (with_reducible refine gate_ ?_); refine Cv.store_blk rfl 49 _ _ rfl b2 (u64s (els [v5])) (u64s (els [zE])) 49 rfl (by first | rfl | (rw [els_one])) Hb2.out (by kernel_rfl) (by first | rfl | kernel_rfl) (els_all _) ?_; intro X5 hV hgV; have Hb2 := ϕ hV; have HB := ϕ (HB.out.grown hgV HB.out.size (fun j e => by cases e; exact Gb2.out)); clear hV hgV; clear _t tk3_2; have tk3_3 := True.intro))
 clear tk3_3
 refine bodyPost_ret (v := .agg (u64s (els [v5])))
  (results_cell_row Tryz.results46 _ _ b2 49 _ (0, 0) _ rfl Hb2.out Tryz.underlying49 rfl (by kernel_rfl)) rfl ?_
 exact ⟨rfl, HB.out⟩
theorem odd_e {x : E} {a : F} (hx : El x a) : ∃ r, (a.val % 2 == 1) = r ∧ ∀ W : World, Calls Tryz.prog 56 #[.agg (u64s x.l)] W fun e w' => e = .returned (.bool r) ∧ Below W.heap.size W w' := by
 obtain ⟨r, hr⟩ : ∃ r, (a.val % 2 == 1) = r := ⟨_, rfl⟩
 obtain ⟨⟨n0, n1, n2, n3, n4⟩, hv4⟩ : ∃ z, least x = z := ⟨_, rfl⟩
 refine ⟨r, hr, fun w => ?_⟩
 have Cv4 := ϕ (show ∀ W : World, Calls Tryz.prog 89 #[.agg (u64s x.l)] W fun e w' => e = .returned (.agg #[.int .u64 (n0 : Nat), .int .u64 (n1 : Nat), .int .u64 (n2 : Nat), .int .u64 (n3 : Nat), .int .u64 (n4 : Nat)]) ∧ Below W.heap.size W w' from fun W => by
  have h := least_any W x
  rw [hv4] at h
  exact h)
 have HODD : n0 % 2 = a.val % 2 := by
  have h := odd_go hx.t
  rw [hv4, hx.f] at h
  exact h
 have HL : E.ok ⟨n0, n1, n2, n3, n4⟩ := hv4 ▸ least_ok x
 have hn1 : n0 < M := HL 0
 have han : bits .and .u64 (n0 : Int) 1 = ((n0 % 2 : Nat) : Int) := by rw [← Nat.and_one_is_mod]; exact u64_and_nat n0 1 hn1 (by decide)
 have hbb : ((n0 : Int) % 2 == 1) = r := by
  rw [show ((n0 : Int) % 2) = ((n0 % 2 : Nat) : Int) by omega, HODD, ← hr]
  by_cases h : a.val % 2 = 1
  · rw [h]; rfl
  · have : a.val % 2 = 0 := by omega
    rw [this]; rfl
 have HBB := ϕ hbb
 clear hx hv4 HODD HL hbb
 have hfd : ∀ W : World, (Instr.field 49 (.agg #[.int .u64 (n0 : Nat), .int .u64 (n1 : Nat), .int .u64 (n2 : Nat), .int .u64 (n3 : Nat), .int .u64 (n4 : Nat)]) 0).run Tryz.prog W = .ok (.agg #[.int .u64 (n0 : Nat), .int .u64 (n1 : Nat), .int .u64 (n2 : Nat), .int .u64 (n3 : Nat), .int .u64 (n4 : Nat)]) W := fun _ => by kernel_rfl
 have hfi : ∀ W : World, (Instr.index 47 (.agg #[.int .u64 (n0 : Nat), .int .u64 (n1 : Nat), .int .u64 (n2 : Nat), .int .u64 (n3 : Nat), .int .u64 (n4 : Nat)]) (.int .i64 0)).run Tryz.prog W = .ok (.int .u64 (n0 : Nat)) W := fun _ => by kernel_rfl
 go_enter Tryz.func56, Tryz.ntmps56
 have tb0 := True.intro
 go_upto_region 1 with (have _t := tb0; (with_reducible refine gate_ ?_); refine Rg.box_fresh rfl 49 _ rfl (u64s (els [x])) (by first | rfl | (rw [els_one])) ?_; intro X1 hX hbX hnX; have J0 := ϕ hX; have K0 := ϕ hbX; have M0 := ϕ hnX; clear hX hbX hnX; clear _t tb0; have tb1 := True.intro)
 clear tb1
 have HB := ϕ (Below.refl w.heap.size w)
 obtain ⟨b1, hb1⟩ : ∃ n, w.heap.size = n := ⟨_, rfl⟩
 have Hb1 := ϕ (show Rg.Blk X1 b1 49 (u64s (els [x])) from hb1 ▸ J0.out)
 have HB := ϕ (HB.out.trans (K0.out.mono HB.out.size))
 rw [hb1]
 clear hb1 J0 K0 M0
 have tk2_0 := True.intro
 go_wp2_with (first
  | (have _t := tk2_0; (with_reducible refine gate_ ?_); refine Cv.load_cells rfl 49 _ rfl b1 0 rfl (u64s x.l) _ (el_part (Hb1.out) 0 0 x rfl rfl (by simp)) Tryz.underlying49 rfl (by kernel_rfl) ?_; clear _t tk2_0; have tk2_1 := True.intro)
  | (have _t := tk2_1; go_at_call 89; refine (Cv4.out X1).mono ?_; rintro e W3 ⟨rfl, hb9⟩; have HB := tm HB hb9; clear hb9; clear _t tk2_1; have tk2_2 := True.intro))
 clear tk2_2
 go_ret
 exact ⟨congrArg (fun b => Ending.returned (.bool b)) HBB.out, HB.out⟩
theorem same_e {x y : E} {a b : F} (hx : El x a) (hy : El y b) : ∃ r, decide (a = b) = r ∧ ∀ W : World, Calls Tryz.prog 95 #[.agg (u64s x.l), .agg (u64s y.l)] W fun e w' => e = .returned (.bool r) ∧ Below W.heap.size W w' := by
 obtain ⟨v6, hv6⟩ : ∃ z, least x = z := ⟨_, rfl⟩
 have Cv6 := ϕ (show ∀ W : World, Calls Tryz.prog 89 #[.agg (u64s x.l)] W fun e w' => e = .returned (.agg (u64s v6.l)) ∧ Below W.heap.size W w' from fun W => hv6 ▸ least_any W x)
 obtain ⟨v8, hv8⟩ : ∃ z, least y = z := ⟨_, rfl⟩
 have Cv8 := ϕ (show ∀ W : World, Calls Tryz.prog 89 #[.agg (u64s y.l)] W fun e w' => e = .returned (.agg (u64s v8.l)) ∧ Below W.heap.size W w' from fun W => hv8 ▸ least_any W y)
 obtain ⟨r, hr⟩ : ∃ r, decide (a = b) = r := ⟨_, rfl⟩
 refine ⟨r, hr, fun w => ?_⟩
 have HEQ := ϕ (show ∀ W : World, (Op.equalIn 9999 47 (.agg ((u64s v6.l).extract 0 5)) (.agg ((u64s v8.l).extract 0 5))).run Tryz.prog W = .ok r W from fun W => by
  have h := run_equalInA W v6 v8 (hv6 ▸ least_ok x) (hv8 ▸ least_ok y)
  rw [show (u64s v8.l).extract 0 5 = u64s v8.l from by cases v8; rfl, h, ← hr]
  congr 1
  by_cases h1 : a = b
  · rw [decide_eq_true h1, ← hv6, ← hv8, (least_same hx.t hy.t).2 (by rw [hx.f, hy.f, h1])]
    exact beq_self_eq_true _
  · rw [decide_eq_false h1]
    have h2 : ¬ v6 = v8 := fun e => h1 (by
     rw [← hv6, ← hv8] at e
     have := (least_same hx.t hy.t).1 e
     rwa [hx.f, hy.f] at this)
    exact beq_eq_false_iff_ne.2 h2)
 clear hx hy hv6 hv8 hr
 go_enter Tryz.func95, Tryz.ntmps95
 have tb0 := True.intro
 go_upto_region 1 with (first
  | (have _t := tb0; (with_reducible refine gate_ ?_); refine Rg.box_fresh rfl 49 _ rfl (u64s (els [x])) (by first | rfl | (rw [els_one])) ?_; intro X1 hX hbX hnX; have J0 := ϕ hX; have K0 := ϕ hbX; have M0 := ϕ hnX; clear hX hbX hnX; clear _t tb0; have tb1 := True.intro)
  | (have _t := tb1; (with_reducible refine gate_ ?_); refine Rg.box_fresh rfl 49 _ rfl (u64s (els [y])) (by first | rfl | (rw [els_one])) ?_; intro X2 hX hbX hnX; have J1 := ϕ hX; have K1 := ϕ hbX; have M1 := ϕ hnX; clear hX hbX hnX; clear _t tb1; have tb2 := True.intro))
 clear tb2
 have HB := ϕ (Below.refl w.heap.size w)
 obtain ⟨b2, hb2⟩ : ∃ n, w.heap.size = n := ⟨_, rfl⟩
 have Hb2 := ϕ (show Rg.Blk X1 b2 49 (u64s (els [x])) from hb2 ▸ J0.out)
 have HB := ϕ (HB.out.trans (K0.out.mono HB.out.size))
 rw [hb2]
 clear hb2 J0 K0 M0
 obtain ⟨b3, hb3⟩ : ∃ n, X1.heap.size = n := ⟨_, rfl⟩
 have Hb2 := ϕ (Hb2.out.below K1.out Hb2.out.lt)
 have Hb3 := ϕ (show Rg.Blk X2 b3 49 (u64s (els [y])) from hb3 ▸ J1.out)
 have HB := ϕ (HB.out.trans (K1.out.mono HB.out.size))
 rw [hb3]
 clear hb3 J1 K1 M1
 refine RL.start (RL.Aft X2) (by kernel_rfl) (RL.Aft.drew (RL.Aft.refl X2)) ?_
 refine RL.tw 0 (v := .agg (u64s x.l)) rfl (fun W hSW => run_at 49 _ rfl b2 0 rfl (u64s x.l) (el_part (aft_blk hSW Hb2.out) 0 0 x rfl rfl (by simp)) Tryz.underlying49 rfl (by kernel_rfl)) ?_
 try go_frame
 refine' RL.tc 1 (v := (.agg (u64s v6.l))) 89 #[.agg (u64s x.l)] ?hk1 ?hc1 ?_
 case hk1 => (intro W; go_simp; try with_reducible rfl)
 case hc1 => (intro W hSW; exact (Cv6.out W).mono (fun e w9 h9 => ⟨h9.1, h9.2, RL.Aft.lat hSW h9.2⟩))
 try go_frame
 refine RL.tw 2 (v := .agg (u64s y.l)) rfl (fun W hSW => run_at 49 _ rfl b3 0 rfl (u64s y.l) (el_part (aft_blk hSW Hb3.out) 0 0 y rfl rfl (by simp)) Tryz.underlying49 rfl (by kernel_rfl)) ?_
 try go_frame
 refine' RL.tc 3 (v := (.agg (u64s v8.l))) 89 #[.agg (u64s y.l)] ?hk2 ?hc2 ?_
 case hk2 => (intro W; go_simp; try with_reducible rfl)
 case hc2 => (intro W hSW; exact (Cv8.out W).mono (fun e w9 h9 => ⟨h9.1, h9.2, RL.Aft.lat hSW h9.2⟩))
 try go_frame
 refine' RL.tw 4 (v := .bool r) rfl ?hkq ?_
 case hkq => (intro W hSW; have x1 := HEQ.out W; go_simp; clear x1; cases r <;> rfl)
 try go_frame
 refine' RL.tv 5 ?hk3 ?_
 case hk3 => (intro W hSW; go_simp; try with_reducible rfl)
 try go_frame
 refine RL.done (by kernel_rfl) (fun Z9 hlZ9 hsZ9 => ?_)
 have HB := ϕ (Below.trans HB.out (Below.mono (show RL.Aft X2 Z9 from hsZ9) (Below.size HB.out)))
 go_wp2_with fail
 go_ret
 exact ⟨rfl, HB.out⟩
theorem m0_e : fpow (fe 2) ((2 ^ 255 - 20) / 2 ^ 2) = iE := Fin.ext (by rw [fpow_pm _ _ (by decide +kernel)]; decide +kernel)
theorem iE_ev : ev iE = iE := ev_even (by decide +kernel)
theorem exp_a : (2 ^ 255 - 24) / 2 ^ 3 + 1 = (Ed.P + 3) / 2 ^ 3 := by decide +kernel
theorem exp_b : 8 * ((2 ^ 255 - 24) / 2 ^ 3) + 4 = Ed.P - 1 := by decide +kernel
theorem fpow_ml (a b : F) : ∀ n, fpow (a * b) n = fpow a n * fpow b n
 | 0 => by show (1 : F) = 1 * 1; grobner
 | n + 1 => by
  show fpow (a * b) n * (a * b) = fpow a n * a * (fpow b n * b)
  rw [fpow_ml a b n]; grobner
theorem fpow_8 (b : F) : ∀ n, fpow (b * b * (b * b) * (b * b * (b * b))) n = fpow b (8 * n)
 | 0 => rfl
 | n + 1 => by
  show fpow _ n * (b * b * (b * b) * (b * b * (b * b))) = fpow b (8 * n) * b * b * b * b * b * b * b * b
  rw [fpow_8 b n]; grobner
theorem root_ring (z b p q : F) (h : q * b * b * b * b = 1) : z * b * (b * b * b) * (p * q) = p * z := by
 have : z * b * (b * b * b) * (p * q) = p * z * (q * b * b * b * b) := by grobner
 rw [this, h]; grobner
theorem root_v7 (z b : F) : z * b * (b * b * b * (b * b * b) * b) = z * (b * b * (b * b) * (b * b * (b * b))) := by grobner
theorem root_r {a b : F} (hb : b ≠ 0) : a * (b * b * b) * fpow (a * (b * b * b * (b * b * b) * b)) ((2 ^ 255 - 24) / 2 ^ 3) = rt1 (a * Ed.inv b) := by
 obtain ⟨z, hz⟩ : ∃ z, a * Ed.inv b = z := ⟨_, rfl⟩
 have ha : a = z * b := by
  have h1 := mul_inv hb
  have : z * b = a * (b * Ed.inv b) := by rw [← hz]; grobner
  rw [this, h1]; grobner
 rw [hz, ha, root_v7, fpow_ml, fpow_8]
 unfold rt1
 rw [← exp_a]
 have h2 : fpow b (8 * ((2 ^ 255 - 24) / 2 ^ 3)) * b * b * b * b = 1 := by
  have h3 := fermat_f hb
  rw [← exp_b, fpow_add] at h3
  rw [← h3]
  show _ = fpow b _ * (1 * b * b * b * b)
  grobner
 generalize (2 ^ 255 - 24) / 2 ^ 3 = m at *
 exact root_ring z b _ _ h2
theorem root_y {a b r : F} (hb : b ≠ 0) : r * r * b = a ↔ r * r = a * Ed.inv b := by
 have h1 := mul_inv hb
 constructor
 · intro h
   have : r * r = r * r * (b * Ed.inv b) := by rw [h1]; grobner
   rw [this, ← h]; grobner
 · intro h
   rw [h]
   have : a * Ed.inv b * b = a * (b * Ed.inv b) := by grobner
   rw [this, h1]; grobner
theorem root_n {a b r : F} (hb : b ≠ 0) : r * r * b = 0 - a ↔ r * iE * (r * iE) = a * Ed.inv b := by
 rw [root_y hb, i_sq]
 constructor
 · intro h; rw [h]; grobner
 · intro h; have : (0 - a) * Ed.inv b = 0 - a * Ed.inv b := by grobner
   rw [this, ← h]; grobner
theorem m1root_e : ∃ r, El r iE ∧ ∀ W : World, Calls Tryz.prog 96 #[] W fun e w' => e = .returned (.agg (u64s r.l)) ∧ Below W.heap.size W w' := by
 obtain ⟨v2, ev2, cv2⟩ := small_e 2 (by decide) (Eq.refl (fe 2))
 have Ev2 := ϕ ev2
 have Cv2 := ϕ cv2
 clear ev2 cv2
 obtain ⟨v3, ev3, cv3⟩ := pwa_e Ev2.out
 have Ev3 := ϕ ev3
 have Cv3 := ϕ cv3
 clear ev3 cv3
 obtain ⟨v5, ev5, cv5⟩ := odd_e Ev3.out
 have Ev5 := ϕ ev5
 have Cv5 := ϕ cv5
 clear ev5 cv5
 obtain ⟨v7, ev7, cv7⟩ := neg_e Ev3.out
 have Ev7 := ϕ ev7
 have Cv7 := ϕ cv7
 clear ev7 cv7
 obtain ⟨v9, ev9, cv9⟩ := choose2_e v5 Ev7.out Ev3.out
 have Ev9 := ϕ ev9
 have Cv9 := ϕ cv9
 clear ev9 cv9
 have HM := ϕ m0_e
 refine ⟨v9, ?_, fun w => ?_⟩
 · have h := Ev9.out
   have h5 := Ev5.out
   rw [HM.out] at h h5
   rw [← h5] at h
   exact (show (if (iE.val % 2 == 1) = true then 0 - iE else iE) = iE from iE_ev) ▸ h
 go_enter Tryz.func96, Tryz.ntmps96
 go_upto_region 1 with fail
 have HB := ϕ (Below.refl w.heap.size w)
 obtain ⟨b0, hb0⟩ : ∃ n, w.heap.size = n := ⟨_, rfl⟩
 have Gb0 := ϕ (show w.heap.size ≤ b0 from hb0 ▸ HB.out.size)
 have Hb0 := ϕ (show Rg.Blk (w.alloc (.cells #[.int .u64 0, .int .u64 0, .int .u64 0, .int .u64 0, .int .u64 0] 49)) b0 49 (u64s (els [zE])) from Rg.Blk.newAt hb0.symm _ _)
 have HB := ϕ (HB.out.alloc HB.out.size (.cells #[.int .u64 0, .int .u64 0, .int .u64 0, .int .u64 0, .int .u64 0] 49))
 rw [hb0]
 clear hb0
 generalize (w.alloc (.cells #[.int .u64 0, .int .u64 0, .int .u64 0, .int .u64 0, .int .u64 0] 49)) = Y1 at *
 have tk2_0 := True.intro
 go_upto_region 2 with (first
  | (have _t := tk2_0; go_at_call 45; refine (Cv2.out Y1).mono ?_; rintro e W3 ⟨rfl, hb9⟩; have Hb0 := ϕ (Hb0.out.below hb9 Hb0.out.lt); have HB := tm HB hb9; clear hb9; clear _t tk2_0; have tk2_1 := True.intro)
  | (have _t := tk2_1; go_at_call 84; refine (Cv3.out W3).mono ?_; rintro e W4 ⟨rfl, hb9⟩; have Hb0 := ϕ (Hb0.out.below hb9 Hb0.out.lt); have HB := tm HB hb9; clear hb9; clear _t tk2_1; have tk2_2 := True.intro)
  | (have _t := tk2_2; refine Rg.store_fresh rfl 49 _ _ rfl (u64s (els [v3])) _ 49 rfl (by first | rfl | (rw [els_one])) (by kernel_rfl) rfl (els_all _) ?_; intro X5 hX hbX; obtain ⟨b1, hb1⟩ : ∃ n, W4.heap.size = n := ⟨_, rfl⟩; have Nb0_b1 := ϕ (show ¬ b0 = b1 from by have h1 := Hb0.out.lt; omega); have Nb1_b0 := ϕ (fun e : b1 = b0 => Nb0_b1.out e.symm); have Hb0 := ϕ (Hb0.out.below hbX Hb0.out.lt); have Hb1 := ϕ (show Rg.Blk X5 b1 49 (u64s (els [v3])) from hb1 ▸ hX); have HB := tm HB hbX; rw [hb1]; clear hb1 hX hbX; clear _t tk2_2; have tk2_3 := True.intro))
 clear tk2_3
 refine RL.start (fun W => Sp.Upd X5 W [b0]) (by kernel_rfl) (Sp.Upd.trans (Sp.Upd.refl _ _) (Sp.Upd.of_below (Below.drew (Below.refl _ _))) (by simp)) ?_
 refine RL.tw 0 (v := .agg (u64s v3.l)) rfl (fun W hSW => run_at 49 _ rfl b1 0 rfl (u64s v3.l) (el_part (upd_blk hSW Hb1.out (by simp; exact Nb1_b0.out)) 0 0 v3 rfl rfl (by simp)) Tryz.underlying49 rfl (by kernel_rfl)) ?_
 try go_frame
 refine' RL.tc 1 (v := (.bool v5)) 56 #[.agg (u64s v3.l)] ?hk1 ?hc1 ?_
 case hk1 => (intro W; go_simp; try with_reducible rfl)
 case hc1 => (intro W hSW; exact (Cv5.out W).mono (fun e w9 h9 => ⟨h9.1, h9.2, Sp.Upd.trans hSW (Sp.Upd.of_below h9.2) (by simp)⟩))
 try go_frame
 refine RL.tw 2 (v := .agg (u64s v3.l)) rfl (fun W hSW => run_at 49 _ rfl b1 0 rfl (u64s v3.l) (el_part (upd_blk hSW Hb1.out (by simp; exact Nb1_b0.out)) 0 0 v3 rfl rfl (by simp)) Tryz.underlying49 rfl (by kernel_rfl)) ?_
 try go_frame
 refine' RL.tc 3 (v := (.agg (u64s v7.l))) 46 #[.agg (u64s v3.l)] ?hk2 ?hc2 ?_
 case hk2 => (intro W; go_simp; try with_reducible rfl)
 case hc2 => (intro W hSW; exact (Cv7.out W).mono (fun e w9 h9 => ⟨h9.1, h9.2, Sp.Upd.trans hSW (Sp.Upd.of_below h9.2) (by simp)⟩))
 try go_frame
 refine RL.tw 4 (v := .agg (u64s v3.l)) rfl (fun W hSW => run_at 49 _ rfl b1 0 rfl (u64s v3.l) (el_part (upd_blk hSW Hb1.out (by simp; exact Nb1_b0.out)) 0 0 v3 rfl rfl (by simp)) Tryz.underlying49 rfl (by kernel_rfl)) ?_
 try go_frame
 refine' RL.tc 5 (v := (.agg (u64s v9.l))) 97 #[.bool v5, .agg (u64s v7.l), .agg (u64s v3.l)] ?hk3 ?hc3 ?_
 case hk3 => (intro W; go_simp; try with_reducible rfl)
 case hc3 => (intro W hSW; exact (Cv9.out W).mono (fun e w9 h9 => ⟨h9.1, h9.2, Sp.Upd.trans hSW (Sp.Upd.of_below h9.2) (by simp)⟩))
 try go_frame
 refine RL.sk 6 (fun va hlva hsva K hK => ?_)
 have hO := (Hb0.out.below (Below.drew (Below.refl _ _)) Hb0.out.lt).below hlva (by have := Hb0.out.lt; simpa using this)
 refine store_blk_op 49 _ _ rfl b0 (u64s (els [v9])) _ 49 rfl (by first | rfl | (rw [els_one])) hO (by kernel_rfl) (by first | rfl | kernel_rfl) (els_all _) ?_
 intro Y hY hgY
 have hsY : Sp.Upd X5 Y [b0] := Sp.Upd.trans hsva (Sp.Upd.of_grown1 hgY) (fun k hk => .inl (by simp at hk; simp [hk]))
 refine hK.out _ _ hsY ?_
 clear hK
 try go_frame
 refine RL.done (by kernel_rfl) (fun Z6 hlZ6 hsZ6 => ?_)
 have Hb0 := ϕ (show Rg.Blk Z6 b0 49 (u64s (els [v9])) from Rg.Blk.below hY hlZ6 hY.lt)
 have HB := ϕ (below_upd HB.out hsZ6 (fun k hk => by simp at hk; rw [hk]; exact Gb0.out) HB.out.size)
 clear hsY hY hgY hlva hsva hlZ6 hsZ6 hO
 go_wp2_with fail
 refine bodyPost_ret (v := .agg (u64s (els [v9])))
  (results_cell_row Tryz.results96 _ _ b0 49 _ (0, 0) _ rfl Hb0.out Tryz.underlying49 rfl (by kernel_rfl)) rfl ?_
 exact ⟨rfl, HB.out⟩
theorem root_e {u v : E} {a b : F} (hu : El u a) (hv : El v b) (hb : b ≠ 0) : ∃ r ok, ((ok = true ∧ ∃ s, rt (a * Ed.inv b) = some s ∧ El r s) ∨ (ok = false ∧ rt (a * Ed.inv b) = none ∧ El r 0)) ∧ ∀ W : World, Calls Tryz.prog 86 #[.agg (u64s u.l), .agg (u64s v.l)] W fun e w' => e = .returned (.tuple #[.agg (u64s r.l), .bool ok]) ∧ Below W.heap.size W w' := by
 have Eu := ϕ hu
 have Ev := ϕ hv
 have EzE := ϕ zE_e
 have HRR := ϕ (root_r (a := a) hb)
 have HRY := ϕ (fun r => root_y (a := a) (r := r) hb)
 have HRN := ϕ (fun r => root_n (a := a) (r := r) hb)
 clear hu hv hb
 obtain ⟨v11, ev11, cv11⟩ := sq_e Ev.out
 have Ev11 := ϕ ev11
 have Cv11 := ϕ cv11
 clear ev11 cv11
 obtain ⟨v13, ev13, cv13⟩ := mul_e Ev11.out Ev.out
 have Ev13 := ϕ ev13
 have Cv13 := ϕ cv13
 clear ev13 cv13
 obtain ⟨v15, ev15, cv15⟩ := sq_e Ev13.out
 have Ev15 := ϕ ev15
 have Cv15 := ϕ cv15
 clear ev15 cv15
 obtain ⟨v17, ev17, cv17⟩ := mul_e Ev15.out Ev.out
 have Ev17 := ϕ ev17
 have Cv17 := ϕ cv17
 clear ev17 cv17
 obtain ⟨v20, ev20, cv20⟩ := mul_e Eu.out Ev13.out
 have Ev20 := ϕ ev20
 have Cv20 := ϕ cv20
 clear ev20 cv20
 obtain ⟨v23, ev23, cv23⟩ := mul_e Eu.out Ev17.out
 have Ev23 := ϕ ev23
 have Cv23 := ϕ cv23
 clear ev23 cv23
 obtain ⟨v24, ev24, cv24⟩ := pwb_e Ev23.out
 have Ev24 := ϕ ev24
 have Cv24 := ϕ cv24
 clear ev24 cv24
 obtain ⟨v25, ev25, cv25⟩ := mul_e Ev20.out Ev24.out
 have Ev25 := ϕ ev25
 have Cv25 := ϕ cv25
 clear ev25 cv25
 obtain ⟨v27, ev27, cv27⟩ := sq_e Ev25.out
 have Ev27 := ϕ ev27
 have Cv27 := ϕ cv27
 clear ev27 cv27
 obtain ⟨v29, ev29, cv29⟩ := mul_e Ev27.out Ev.out
 have Ev29 := ϕ ev29
 have Cv29 := ϕ cv29
 clear ev29 cv29
 obtain ⟨v34, ev34, cv34⟩ := same_e Ev29.out Eu.out
 have Ev34 := ϕ ev34
 have Cv34 := ϕ cv34
 clear ev34 cv34
 obtain ⟨v44, ev44, cv44⟩ := odd_e Ev25.out
 have Ev44 := ϕ ev44
 have Cv44 := ϕ cv44
 clear ev44 cv44
 obtain ⟨v46, ev46, cv46⟩ := neg_e Ev25.out
 have Ev46 := ϕ ev46
 have Cv46 := ϕ cv46
 clear ev46 cv46
 obtain ⟨v48, ev48, cv48⟩ := choose2_e v44 Ev46.out Ev25.out
 have Ev48 := ϕ ev48
 have Cv48 := ϕ cv48
 clear ev48 cv48
 obtain ⟨v38, ev38, cv38⟩ := neg_e Eu.out
 have Ev38 := ϕ ev38
 have Cv38 := ϕ cv38
 clear ev38 cv38
 obtain ⟨v39, ev39, cv39⟩ := same_e Ev29.out Ev38.out
 have Ev39 := ϕ ev39
 have Cv39 := ϕ cv39
 clear ev39 cv39
 obtain ⟨v41, ev41, cv41⟩ := m1root_e 
 have Ev41 := ϕ ev41
 have Cv41 := ϕ cv41
 clear ev41 cv41
 obtain ⟨v42, ev42, cv42⟩ := mul_e Ev25.out Ev41.out
 have Ev42 := ϕ ev42
 have Cv42 := ϕ cv42
 clear ev42 cv42
 obtain ⟨v44y, ev44y, cv44y⟩ := odd_e Ev42.out
 have Ev44y := ϕ ev44y
 have Cv44y := ϕ cv44y
 clear ev44y cv44y
 obtain ⟨v46y, ev46y, cv46y⟩ := neg_e Ev42.out
 have Ev46y := ϕ ev46y
 have Cv46y := ϕ cv46y
 clear ev46y cv46y
 obtain ⟨v48y, ev48y, cv48y⟩ := choose2_e v44y Ev46y.out Ev42.out
 have Ev48y := ϕ ev48y
 have Cv48y := ϕ cv48y
 clear ev48y cv48y
 have E34 := Ev34
 obtain ⟨r0, hr0⟩ : ∃ r, a * (b * b * b) * fpow (a * (b * b * b * (b * b * b) * b)) ((2 ^ 255 - 24) / 2 ^ 3) = r := ⟨_, rfl⟩
 have HR0 := ϕ (show r0 = rt1 (a * Ed.inv b) from hr0 ▸ HRR.out)
 have E34 := ϕ (show decide (r0 * r0 * b = a) = v34 from hr0 ▸ Ev34.out)
 have E39 := ϕ (show decide (r0 * r0 * b = 0 - a) = v39 from hr0 ▸ Ev39.out)
 have F48 := ϕ (show El v48 (ev r0) from by
  have h := Ev48.out
  rw [← Ev44.out, hr0] at h
  exact h)
 have F48y := ϕ (show El v48y (ev (r0 * iE)) from by
  have h := Ev48y.out
  rw [← Ev44y.out, hr0] at h
  exact h)
 refine ⟨bif v34 then v48 else bif v39 then v48y else zE, v34 || v39, ?_, fun w => ?_⟩
 · cases v34 with
   | true =>
    have hq := of_decide_eq_true E34.out
    rw [HRY.out] at hq
    exact Or.inl ⟨rfl, ev r0, rt_a HR0.out hq, F48.out⟩
   | false =>
    have hq := of_decide_eq_false E34.out
    rw [HRY.out] at hq
    cases v39 with
    | true =>
     have hq2 := of_decide_eq_true E39.out
     rw [HRN.out] at hq2
     exact Or.inl ⟨rfl, ev (r0 * iE), rt_b HR0.out hq hq2, F48y.out⟩
    | false =>
     have hq2 := of_decide_eq_false E39.out
     rw [HRN.out] at hq2
     exact Or.inr ⟨rfl, rt_c HR0.out hq hq2, EzE.out⟩
 clear E34 E39 F48 F48y Ev34 Ev39 HR0 hr0
 go_enter Tryz.func86, Tryz.ntmps86
 have tb0 := True.intro
 go_upto_region 1 with (first
  | (have _t := tb0; (with_reducible refine gate_ ?_); refine Rg.box_fresh rfl 49 _ rfl (u64s (els [u])) (by first | rfl | (rw [els_one])) ?_; intro X1 hX hbX hnX; have J0 := ϕ hX; have K0 := ϕ hbX; have M0 := ϕ hnX; clear hX hbX hnX; clear _t tb0; have tb1 := True.intro)
  | (have _t := tb1; (with_reducible refine gate_ ?_); refine Rg.box_fresh rfl 49 _ rfl (u64s (els [v])) (by first | rfl | (rw [els_one])) ?_; intro X2 hX hbX hnX; have J1 := ϕ hX; have K1 := ϕ hbX; have M1 := ϕ hnX; clear hX hbX hnX; clear _t tb1; have tb2 := True.intro))
 clear tb2
 have HB := ϕ (Below.refl w.heap.size w)
 obtain ⟨b2, hb2⟩ : ∃ n, w.heap.size = n := ⟨_, rfl⟩
 have Hb2 := ϕ (show Rg.Blk X1 b2 49 (u64s (els [u])) from hb2 ▸ J0.out)
 have HB := ϕ (HB.out.trans (K0.out.mono HB.out.size))
 rw [hb2]
 clear hb2 J0 K0 M0
 obtain ⟨b3, hb3⟩ : ∃ n, X1.heap.size = n := ⟨_, rfl⟩
 have Hb2 := ϕ (Hb2.out.below K1.out Hb2.out.lt)
 have Hb3 := ϕ (show Rg.Blk X2 b3 49 (u64s (els [v])) from hb3 ▸ J1.out)
 have HB := ϕ (HB.out.trans (K1.out.mono HB.out.size))
 rw [hb3]
 clear hb3 J1 K1 M1
 obtain ⟨b4, hb4⟩ : ∃ n, X2.heap.size = n := ⟨_, rfl⟩
 have Gb4 := ϕ (show w.heap.size ≤ b4 from hb4 ▸ HB.out.size)
 have Hb2 := ϕ (Hb2.out.alloc (.cells #[.int .u64 0, .int .u64 0, .int .u64 0, .int .u64 0, .int .u64 0] 49))
 have Hb3 := ϕ (Hb3.out.alloc (.cells #[.int .u64 0, .int .u64 0, .int .u64 0, .int .u64 0, .int .u64 0] 49))
 have Hb4 := ϕ (show Rg.Blk (X2.alloc (.cells #[.int .u64 0, .int .u64 0, .int .u64 0, .int .u64 0, .int .u64 0] 49)) b4 49 (u64s (els [zE])) from Rg.Blk.newAt hb4.symm _ _)
 have HB := ϕ (HB.out.alloc HB.out.size (.cells #[.int .u64 0, .int .u64 0, .int .u64 0, .int .u64 0, .int .u64 0] 49))
 rw [hb4]
 clear hb4
 generalize (X2.alloc (.cells #[.int .u64 0, .int .u64 0, .int .u64 0, .int .u64 0, .int .u64 0] 49)) = Y3 at *
 refine RL.start (RL.Aft Y3) (by kernel_rfl) (RL.Aft.drew (RL.Aft.refl Y3)) ?_
 refine RL.tw 0 (v := .agg (u64s v.l)) rfl (fun W hSW => run_at 49 _ rfl b3 0 rfl (u64s v.l) (el_part (aft_blk hSW Hb3.out) 0 0 v rfl rfl (by simp)) Tryz.underlying49 rfl (by kernel_rfl)) ?_
 try go_frame
 refine' RL.tc 1 (v := (.agg (u64s v11.l))) 85 #[.agg (u64s v.l)] ?hk4 ?hc4 ?_
 case hk4 => (intro W; go_simp; try with_reducible rfl)
 case hc4 => (intro W hSW; exact (Cv11.out W).mono (fun e w9 h9 => ⟨h9.1, h9.2, RL.Aft.lat hSW h9.2⟩))
 try go_frame
 refine RL.tw 2 (v := .agg (u64s v.l)) rfl (fun W hSW => run_at 49 _ rfl b3 0 rfl (u64s v.l) (el_part (aft_blk hSW Hb3.out) 0 0 v rfl rfl (by simp)) Tryz.underlying49 rfl (by kernel_rfl)) ?_
 try go_frame
 refine' RL.tc 3 (v := (.agg (u64s v13.l))) 47 #[.agg (u64s v11.l), .agg (u64s v.l)] ?hk5 ?hc5 ?_
 case hk5 => (intro W; go_simp; try with_reducible rfl)
 case hc5 => (intro W hSW; exact (Cv13.out W).mono (fun e w9 h9 => ⟨h9.1, h9.2, RL.Aft.lat hSW h9.2⟩))
 try go_frame
 refine RL.sk 4 (fun wa hlwa hswa K hK => ?_)
 go_simp
 obtain ⟨b6, hb6⟩ : ∃ n, wa.heap.size = n := ⟨_, rfl⟩
 have hZb6 := Rg.Blk.newAt hb6.symm #[.int .u64 0, .int .u64 0, .int .u64 0, .int .u64 0, .int .u64 0] 49
 have Fb6 := ϕ (show Y3.heap.size ≤ b6 from hb6 ▸ Below.size hswa)
 refine hK.out _ _ (RL.Aft.alloc hswa _) ?_
 try rw [hb6]
 clear hK
 try go_frame
 refine RL.sk 5 (fun va0 hlva0 hsva0 K hK => ?_)
 have hZb6 := hZb6.below hlva0 hZb6.lt
 refine store_blk_op 49 _ _ rfl b6 (u64s (els [v13])) _ 49 rfl (by first | rfl | (rw [els_one])) hZb6 (by kernel_rfl) rfl (els_all _) ?_
 intro Y0 hY hgY
 replace hZb6 := hY
 refine hK.out _ _ (Below.grown hsva0 hgY (Below.size hsva0) (fun k hk => by cases hk; exact Fb6.out)) ?_
 clear hK hgY
 try go_frame
 refine RL.done (by kernel_rfl) (fun Z4 hlZ4 hsZ4 => ?_)
 have HA := ϕ (show RL.Aft Y3 Z4 from hsZ4)
 have Hb6 := ϕ (show Rg.Blk Z4 b6 49 (u64s (els [v13])) from hZb6.below hlZ4 hZb6.lt)
 have Hb2 := ϕ (aft_blk HA.out Hb2.out)
 have Hb3 := ϕ (aft_blk HA.out Hb3.out)
 have Hb4 := ϕ (aft_blk HA.out Hb4.out)
 have HB := ϕ (Below.trans HB.out (Below.mono HA.out (Below.size HB.out)))
 clear HA hsZ4 hlZ4 hZb6 Fb6
 go_upto_region 2 with fail
 refine RL.start (RL.Aft Z4) (by kernel_rfl) (RL.Aft.drew (RL.Aft.refl Z4)) ?_
 refine RL.tw 0 (v := .agg (u64s v13.l)) rfl (fun W hSW => run_at 49 _ rfl b6 0 rfl (u64s v13.l) (el_part (aft_blk hSW Hb6.out) 0 0 v13 rfl rfl (by simp)) Tryz.underlying49 rfl (by kernel_rfl)) ?_
 try go_frame
 refine' RL.tc 1 (v := (.agg (u64s v15.l))) 85 #[.agg (u64s v13.l)] ?hk6 ?hc6 ?_
 case hk6 => (intro W; go_simp; try with_reducible rfl)
 case hc6 => (intro W hSW; exact (Cv15.out W).mono (fun e w9 h9 => ⟨h9.1, h9.2, RL.Aft.lat hSW h9.2⟩))
 try go_frame
 refine RL.tw 2 (v := .agg (u64s v.l)) rfl (fun W hSW => run_at 49 _ rfl b3 0 rfl (u64s v.l) (el_part (aft_blk hSW Hb3.out) 0 0 v rfl rfl (by simp)) Tryz.underlying49 rfl (by kernel_rfl)) ?_
 try go_frame
 refine' RL.tc 3 (v := (.agg (u64s v17.l))) 47 #[.agg (u64s v15.l), .agg (u64s v.l)] ?hk7 ?hc7 ?_
 case hk7 => (intro W; go_simp; try with_reducible rfl)
 case hc7 => (intro W hSW; exact (Cv17.out W).mono (fun e w9 h9 => ⟨h9.1, h9.2, RL.Aft.lat hSW h9.2⟩))
 try go_frame
 refine RL.sk 4 (fun wa hlwa hswa K hK => ?_)
 go_simp
 obtain ⟨b7, hb7⟩ : ∃ n, wa.heap.size = n := ⟨_, rfl⟩
 have hZb7 := Rg.Blk.newAt hb7.symm #[.int .u64 0, .int .u64 0, .int .u64 0, .int .u64 0, .int .u64 0] 49
 have Fb7 := ϕ (show Z4.heap.size ≤ b7 from hb7 ▸ Below.size hswa)
 refine hK.out _ _ (RL.Aft.alloc hswa _) ?_
 try rw [hb7]
 clear hK
 try go_frame
 refine RL.sk 5 (fun va0 hlva0 hsva0 K hK => ?_)
 have hZb7 := hZb7.below hlva0 hZb7.lt
 refine store_blk_op 49 _ _ rfl b7 (u64s (els [v17])) _ 49 rfl (by first | rfl | (rw [els_one])) hZb7 (by kernel_rfl) rfl (els_all _) ?_
 intro Y0 hY hgY
 replace hZb7 := hY
 refine hK.out _ _ (Below.grown hsva0 hgY (Below.size hsva0) (fun k hk => by cases hk; exact Fb7.out)) ?_
 clear hK hgY
 try go_frame
 refine RL.done (by kernel_rfl) (fun Z5 hlZ5 hsZ5 => ?_)
 have HA := ϕ (show RL.Aft Z4 Z5 from hsZ5)
 have Hb7 := ϕ (show Rg.Blk Z5 b7 49 (u64s (els [v17])) from hZb7.below hlZ5 hZb7.lt)
 have Hb2 := ϕ (aft_blk HA.out Hb2.out)
 have Hb3 := ϕ (aft_blk HA.out Hb3.out)
 have Hb4 := ϕ (aft_blk HA.out Hb4.out)
 have Hb6 := ϕ (aft_blk HA.out Hb6.out)
 have HB := ϕ (Below.trans HB.out (Below.mono HA.out (Below.size HB.out)))
 clear HA hsZ5 hlZ5 hZb7 Fb7
 go_upto_region 3 with fail
 refine RL.start (RL.Aft Z5) (by kernel_rfl) (RL.Aft.drew (RL.Aft.refl Z5)) ?_
 refine RL.tw 0 (v := .agg (u64s u.l)) rfl (fun W hSW => run_at 49 _ rfl b2 0 rfl (u64s u.l) (el_part (aft_blk hSW Hb2.out) 0 0 u rfl rfl (by simp)) Tryz.underlying49 rfl (by kernel_rfl)) ?_
 try go_frame
 refine RL.tw 1 (v := .agg (u64s v13.l)) rfl (fun W hSW => run_at 49 _ rfl b6 0 rfl (u64s v13.l) (el_part (aft_blk hSW Hb6.out) 0 0 v13 rfl rfl (by simp)) Tryz.underlying49 rfl (by kernel_rfl)) ?_
 try go_frame
 refine' RL.tc 2 (v := (.agg (u64s v20.l))) 47 #[.agg (u64s u.l), .agg (u64s v13.l)] ?hk8 ?hc8 ?_
 case hk8 => (intro W; go_simp; try with_reducible rfl)
 case hc8 => (intro W hSW; exact (Cv20.out W).mono (fun e w9 h9 => ⟨h9.1, h9.2, RL.Aft.lat hSW h9.2⟩))
 try go_frame
 refine RL.tw 3 (v := .agg (u64s u.l)) rfl (fun W hSW => run_at 49 _ rfl b2 0 rfl (u64s u.l) (el_part (aft_blk hSW Hb2.out) 0 0 u rfl rfl (by simp)) Tryz.underlying49 rfl (by kernel_rfl)) ?_
 try go_frame
 refine RL.tw 4 (v := .agg (u64s v17.l)) rfl (fun W hSW => run_at 49 _ rfl b7 0 rfl (u64s v17.l) (el_part (aft_blk hSW Hb7.out) 0 0 v17 rfl rfl (by simp)) Tryz.underlying49 rfl (by kernel_rfl)) ?_
 try go_frame
 refine' RL.tc 5 (v := (.agg (u64s v23.l))) 47 #[.agg (u64s u.l), .agg (u64s v17.l)] ?hk9 ?hc9 ?_
 case hk9 => (intro W; go_simp; try with_reducible rfl)
 case hc9 => (intro W hSW; exact (Cv23.out W).mono (fun e w9 h9 => ⟨h9.1, h9.2, RL.Aft.lat hSW h9.2⟩))
 try go_frame
 refine' RL.tc 6 (v := (.agg (u64s v24.l))) 84 #[.agg (u64s v23.l), .int .u64 24, .int .i64 3] ?hk10 ?hc10 ?_
 case hk10 => (intro W; go_simp; try with_reducible rfl)
 case hc10 => (intro W hSW; exact (Cv24.out W).mono (fun e w9 h9 => ⟨h9.1, h9.2, RL.Aft.lat hSW h9.2⟩))
 try go_frame
 refine' RL.tc 7 (v := (.agg (u64s v25.l))) 47 #[.agg (u64s v20.l), .agg (u64s v24.l)] ?hk11 ?hc11 ?_
 case hk11 => (intro W; go_simp; try with_reducible rfl)
 case hc11 => (intro W hSW; exact (Cv25.out W).mono (fun e w9 h9 => ⟨h9.1, h9.2, RL.Aft.lat hSW h9.2⟩))
 try go_frame
 refine RL.sk 8 (fun wa hlwa hswa K hK => ?_)
 go_simp
 obtain ⟨b8, hb8⟩ : ∃ n, wa.heap.size = n := ⟨_, rfl⟩
 have hZb8 := Rg.Blk.newAt hb8.symm #[.int .u64 0, .int .u64 0, .int .u64 0, .int .u64 0, .int .u64 0] 49
 have Fb8 := ϕ (show Z5.heap.size ≤ b8 from hb8 ▸ Below.size hswa)
 refine hK.out _ _ (RL.Aft.alloc hswa _) ?_
 try rw [hb8]
 clear hK
 try go_frame
 refine RL.sk 9 (fun va0 hlva0 hsva0 K hK => ?_)
 have hZb8 := hZb8.below hlva0 hZb8.lt
 refine store_blk_op 49 _ _ rfl b8 (u64s (els [v25])) _ 49 rfl (by first | rfl | (rw [els_one])) hZb8 (by kernel_rfl) rfl (els_all _) ?_
 intro Y0 hY hgY
 replace hZb8 := hY
 refine hK.out _ _ (Below.grown hsva0 hgY (Below.size hsva0) (fun k hk => by cases hk; exact Fb8.out)) ?_
 clear hK hgY
 try go_frame
 refine RL.done (by kernel_rfl) (fun Z6 hlZ6 hsZ6 => ?_)
 have HA := ϕ (show RL.Aft Z5 Z6 from hsZ6)
 have Hb8 := ϕ (show Rg.Blk Z6 b8 49 (u64s (els [v25])) from hZb8.below hlZ6 hZb8.lt)
 have Gb8 := ϕ (show w.heap.size ≤ b8 from Nat.le_trans HB.out.size Fb8.out)
 have Nb4_b8 := ϕ (show ¬ b4 = b8 from by have h1 := Hb4.out.lt; have h2 := Fb8.out; omega)
 have Nb8_b4 := ϕ (fun e : b8 = b4 => Nb4_b8.out e.symm)
 have Hb2 := ϕ (aft_blk HA.out Hb2.out)
 have Hb3 := ϕ (aft_blk HA.out Hb3.out)
 have Hb4 := ϕ (aft_blk HA.out Hb4.out)
 have HB := ϕ (Below.trans HB.out (Below.mono HA.out (Below.size HB.out)))
 clear HA hsZ6 hlZ6 hZb8 Fb8
 go_upto_region 4 with fail
 refine RL.start (RL.Aft Z6) (by kernel_rfl) (RL.Aft.drew (RL.Aft.refl Z6)) ?_
 refine RL.tw 0 (v := .agg (u64s v25.l)) rfl (fun W hSW => run_at 49 _ rfl b8 0 rfl (u64s v25.l) (el_part (aft_blk hSW Hb8.out) 0 0 v25 rfl rfl (by simp)) Tryz.underlying49 rfl (by kernel_rfl)) ?_
 try go_frame
 refine' RL.tc 1 (v := (.agg (u64s v27.l))) 85 #[.agg (u64s v25.l)] ?hk12 ?hc12 ?_
 case hk12 => (intro W; go_simp; try with_reducible rfl)
 case hc12 => (intro W hSW; exact (Cv27.out W).mono (fun e w9 h9 => ⟨h9.1, h9.2, RL.Aft.lat hSW h9.2⟩))
 try go_frame
 refine RL.tw 2 (v := .agg (u64s v.l)) rfl (fun W hSW => run_at 49 _ rfl b3 0 rfl (u64s v.l) (el_part (aft_blk hSW Hb3.out) 0 0 v rfl rfl (by simp)) Tryz.underlying49 rfl (by kernel_rfl)) ?_
 try go_frame
 refine' RL.tc 3 (v := (.agg (u64s v29.l))) 47 #[.agg (u64s v27.l), .agg (u64s v.l)] ?hk13 ?hc13 ?_
 case hk13 => (intro W; go_simp; try with_reducible rfl)
 case hc13 => (intro W hSW; exact (Cv29.out W).mono (fun e w9 h9 => ⟨h9.1, h9.2, RL.Aft.lat hSW h9.2⟩))
 try go_frame
 refine RL.sk 4 (fun wa hlwa hswa K hK => ?_)
 go_simp
 obtain ⟨b9, hb9⟩ : ∃ n, wa.heap.size = n := ⟨_, rfl⟩
 have hZb9 := Rg.Blk.newAt hb9.symm #[.int .u64 0, .int .u64 0, .int .u64 0, .int .u64 0, .int .u64 0] 49
 have Fb9 := ϕ (show Z6.heap.size ≤ b9 from hb9 ▸ Below.size hswa)
 refine hK.out _ _ (RL.Aft.alloc hswa _) ?_
 try rw [hb9]
 clear hK
 try go_frame
 refine RL.sk 5 (fun va0 hlva0 hsva0 K hK => ?_)
 have hZb9 := hZb9.below hlva0 hZb9.lt
 refine store_blk_op 49 _ _ rfl b9 (u64s (els [v29])) _ 49 rfl (by first | rfl | (rw [els_one])) hZb9 (by kernel_rfl) rfl (els_all _) ?_
 intro Y0 hY hgY
 replace hZb9 := hY
 refine hK.out _ _ (Below.grown hsva0 hgY (Below.size hsva0) (fun k hk => by cases hk; exact Fb9.out)) ?_
 clear hK hgY
 try go_frame
 refine RL.done (by kernel_rfl) (fun Z7 hlZ7 hsZ7 => ?_)
 have HA := ϕ (show RL.Aft Z6 Z7 from hsZ7)
 have Hb9 := ϕ (show Rg.Blk Z7 b9 49 (u64s (els [v29])) from hZb9.below hlZ7 hZb9.lt)
 have Hb2 := ϕ (aft_blk HA.out Hb2.out)
 have Hb4 := ϕ (aft_blk HA.out Hb4.out)
 have Hb8 := ϕ (aft_blk HA.out Hb8.out)
 have HB := ϕ (Below.trans HB.out (Below.mono HA.out (Below.size HB.out)))
 clear HA hsZ7 hlZ7 hZb9 Fb9
 go_upto_region 6 with fail
 cases v34 with
 | true =>
  have tk8_0 := True.intro
  go_upto_region 9 with (first
   | (have _t := tk8_0; (with_reducible refine gate_ ?_); refine Cv.load_cells rfl 49 _ rfl b9 0 rfl (u64s v29.l) _ (el_part (Hb9.out) 0 0 v29 rfl rfl (by simp)) Tryz.underlying49 rfl (by kernel_rfl) ?_; clear _t tk8_0; have tk8_1 := True.intro)
   | (have _t := tk8_1; (with_reducible refine gate_ ?_); refine Cv.load_cells rfl 49 _ rfl b2 0 rfl (u64s u.l) _ (el_part (Hb2.out) 0 0 u rfl rfl (by simp)) Tryz.underlying49 rfl (by kernel_rfl) ?_; clear _t tk8_1; have tk8_2 := True.intro)
   | (have _t := tk8_2; go_at_call 95; refine (Cv34.out Z7).mono ?_; rintro e W9 ⟨rfl, hb9⟩; have Hb4 := ϕ (Hb4.out.below hb9 Hb4.out.lt); have Hb8 := ϕ (Hb8.out.below hb9 Hb8.out.lt); have HB := tm HB hb9; clear hb9; clear _t tk8_2; have tk8_3 := True.intro))
  clear tk8_3
  go_upto_region 9 with fail
  refine RL.start (fun W => Sp.Upd W9 W [b4]) (by kernel_rfl) (Sp.Upd.trans (Sp.Upd.refl _ _) (Sp.Upd.of_below (Below.drew (Below.refl _ _))) (by simp)) ?_
  refine RL.tw 0 (v := .agg (u64s v25.l)) rfl (fun W hSW => run_at 49 _ rfl b8 0 rfl (u64s v25.l) (el_part (upd_blk hSW Hb8.out (by simp; exact Nb8_b4.out)) 0 0 v25 rfl rfl (by simp)) Tryz.underlying49 rfl (by kernel_rfl)) ?_
  try go_frame
  refine' RL.tc 1 (v := (.bool v44)) 56 #[.agg (u64s v25.l)] ?hk14 ?hc14 ?_
  case hk14 => (intro W; go_simp; try with_reducible rfl)
  case hc14 => (intro W hSW; exact (Cv44.out W).mono (fun e w9 h9 => ⟨h9.1, h9.2, Sp.Upd.trans hSW (Sp.Upd.of_below h9.2) (by simp)⟩))
  try go_frame
  refine RL.tw 2 (v := .agg (u64s v25.l)) rfl (fun W hSW => run_at 49 _ rfl b8 0 rfl (u64s v25.l) (el_part (upd_blk hSW Hb8.out (by simp; exact Nb8_b4.out)) 0 0 v25 rfl rfl (by simp)) Tryz.underlying49 rfl (by kernel_rfl)) ?_
  try go_frame
  refine' RL.tc 3 (v := (.agg (u64s v46.l))) 46 #[.agg (u64s v25.l)] ?hk15 ?hc15 ?_
  case hk15 => (intro W; go_simp; try with_reducible rfl)
  case hc15 => (intro W hSW; exact (Cv46.out W).mono (fun e w9 h9 => ⟨h9.1, h9.2, Sp.Upd.trans hSW (Sp.Upd.of_below h9.2) (by simp)⟩))
  try go_frame
  refine RL.tw 4 (v := .agg (u64s v25.l)) rfl (fun W hSW => run_at 49 _ rfl b8 0 rfl (u64s v25.l) (el_part (upd_blk hSW Hb8.out (by simp; exact Nb8_b4.out)) 0 0 v25 rfl rfl (by simp)) Tryz.underlying49 rfl (by kernel_rfl)) ?_
  try go_frame
  refine' RL.tc 5 (v := (.agg (u64s v48.l))) 97 #[.bool v44, .agg (u64s v46.l), .agg (u64s v25.l)] ?hk16 ?hc16 ?_
  case hk16 => (intro W; go_simp; try with_reducible rfl)
  case hc16 => (intro W hSW; exact (Cv48.out W).mono (fun e w9 h9 => ⟨h9.1, h9.2, Sp.Upd.trans hSW (Sp.Upd.of_below h9.2) (by simp)⟩))
  try go_frame
  refine RL.sk 6 (fun va hlva hsva K hK => ?_)
  have hO := (Hb4.out.below (Below.drew (Below.refl _ _)) Hb4.out.lt).below hlva (by have := Hb4.out.lt; simpa using this)
  refine store_blk_op 49 _ _ rfl b4 (u64s (els [v48])) _ 49 rfl (by first | rfl | (rw [els_one])) hO (by kernel_rfl) (by first | rfl | kernel_rfl) (els_all _) ?_
  intro Y hY hgY
  have hsY : Sp.Upd W9 Y [b4] := Sp.Upd.trans hsva (Sp.Upd.of_grown1 hgY) (fun k hk => .inl (by simp at hk; simp [hk]))
  refine hK.out _ _ hsY ?_
  clear hK
  try go_frame
  refine' RL.tv 7 ?hk17 ?_
  case hk17 => (intro W hSW; go_simp; try with_reducible rfl)
  try go_frame
  refine RL.done (by kernel_rfl) (fun Z10 hlZ10 hsZ10 => ?_)
  have Hb4 := ϕ (show Rg.Blk Z10 b4 49 (u64s (els [v48])) from Rg.Blk.below hY hlZ10 hY.lt)
  have HB := ϕ (below_upd HB.out hsZ10 (fun k hk => by simp at hk; rw [hk]; exact Gb4.out) HB.out.size)
  clear hsY hY hgY hlva hsva hlZ10 hsZ10 hO
  go_wp2_with fail
  refine bodyPost_ret (v := .tuple #[.agg (u64s (els [v48])), .bool true])
   (results_cell_slot Tryz.results86 _ _ b4 49 _ (0, 0) _ _ rfl rfl Hb4.out Tryz.underlying49 rfl (by kernel_rfl)) rfl ?_
  exact ⟨rfl, HB.out⟩
 | false =>
  have tk8_0 := True.intro
  go_upto_region 7 with (first
   | (have _t := tk8_0; (with_reducible refine gate_ ?_); refine Cv.load_cells rfl 49 _ rfl b9 0 rfl (u64s v29.l) _ (el_part (Hb9.out) 0 0 v29 rfl rfl (by simp)) Tryz.underlying49 rfl (by kernel_rfl) ?_; clear _t tk8_0; have tk8_1 := True.intro)
   | (have _t := tk8_1; (with_reducible refine gate_ ?_); refine Cv.load_cells rfl 49 _ rfl b2 0 rfl (u64s u.l) _ (el_part (Hb2.out) 0 0 u rfl rfl (by simp)) Tryz.underlying49 rfl (by kernel_rfl) ?_; clear _t tk8_1; have tk8_2 := True.intro)
   | (have _t := tk8_2; go_at_call 95; refine (Cv34.out Z7).mono ?_; rintro e W9 ⟨rfl, hb9⟩; have Hb2 := ϕ (Hb2.out.below hb9 Hb2.out.lt); have Hb4 := ϕ (Hb4.out.below hb9 Hb4.out.lt); have Hb8 := ϕ (Hb8.out.below hb9 Hb8.out.lt); have Hb9 := ϕ (Hb9.out.below hb9 Hb9.out.lt); have HB := tm HB hb9; clear hb9; clear _t tk8_2; have tk8_3 := True.intro))
  clear tk8_3
  refine RL.start (RL.Aft W9) (by kernel_rfl) (RL.Aft.drew (RL.Aft.refl W9)) ?_
  refine RL.tw 0 (v := .agg (u64s v29.l)) rfl (fun W hSW => run_at 49 _ rfl b9 0 rfl (u64s v29.l) (el_part (aft_blk hSW Hb9.out) 0 0 v29 rfl rfl (by simp)) Tryz.underlying49 rfl (by kernel_rfl)) ?_
  try go_frame
  refine RL.tw 1 (v := .agg (u64s u.l)) rfl (fun W hSW => run_at 49 _ rfl b2 0 rfl (u64s u.l) (el_part (aft_blk hSW Hb2.out) 0 0 u rfl rfl (by simp)) Tryz.underlying49 rfl (by kernel_rfl)) ?_
  try go_frame
  refine' RL.tc 2 (v := (.agg (u64s v38.l))) 46 #[.agg (u64s u.l)] ?hk28 ?hc28 ?_
  case hk28 => (intro W; go_simp; try with_reducible rfl)
  case hc28 => (intro W hSW; exact (Cv38.out W).mono (fun e w9 h9 => ⟨h9.1, h9.2, RL.Aft.lat hSW h9.2⟩))
  try go_frame
  refine' RL.tc 3 (v := (.bool v39)) 95 #[.agg (u64s v29.l), .agg (u64s v38.l)] ?hk29 ?hc29 ?_
  case hk29 => (intro W; go_simp; try with_reducible rfl)
  case hc29 => (intro W hSW; exact (Cv39.out W).mono (fun e w9 h9 => ⟨h9.1, h9.2, RL.Aft.lat hSW h9.2⟩))
  try go_frame
  refine' RL.tv 4 ?hk30 ?_
  case hk30 => (intro W hSW; go_simp; try with_reducible rfl)
  try go_frame
  refine RL.done (by kernel_rfl) (fun Z10 hlZ10 hsZ10 => ?_)
  have HA := ϕ (show RL.Aft W9 Z10 from hsZ10)
  have Hb4 := ϕ (aft_blk HA.out Hb4.out)
  have Hb8 := ϕ (aft_blk HA.out Hb8.out)
  have HB := ϕ (Below.trans HB.out (Below.mono HA.out (Below.size HB.out)))
  clear HA hsZ10 hlZ10
  cases v39 with
  | true =>
   go_upto_region 8 with fail
   refine RL.start (fun W => Sp.Upd Z10 W [b8]) (by kernel_rfl) (Sp.Upd.trans (Sp.Upd.refl _ _) (Sp.Upd.of_below (Below.drew (Below.refl _ _))) (by simp)) ?_
   refine' RL.tc 1 (v := (.agg (u64s v41.l))) 96 #[] ?hk31 ?hc31 ?_
   case hk31 => (intro W; go_simp; try with_reducible rfl)
   case hc31 => (intro W hSW; exact (Cv41.out W).mono (fun e w9 h9 => ⟨h9.1, h9.2, Sp.Upd.trans hSW (Sp.Upd.of_below h9.2) (by simp)⟩))
   try go_frame
   refine RL.sk 0 (fun q11 hlq11 hsq11 K hK => ?_)
   have hO := (Hb8.out.below (Below.drew (Below.refl _ _)) Hb8.out.lt).below hlq11 (by have := Hb8.out.lt; simpa using this)
   refine wp_val (run_at 49 _ rfl b8 0 rfl (u64s v25.l) (el_part (hO) 0 0 v25 rfl rfl (by simp)) Tryz.underlying49 rfl (by kernel_rfl)) ?_
   refine hK.out _ _ hsq11 ?_
   clear hK hO
   try go_frame
   refine' RL.tc 2 (v := (.agg (u64s v42.l))) 47 #[.agg (u64s v25.l), .agg (u64s v41.l)] ?hk32 ?hc32 ?_
   case hk32 => (intro W; go_simp; try with_reducible rfl)
   case hc32 => (intro W hSW; exact (Cv42.out W).mono (fun e w9 h9 => ⟨h9.1, h9.2, Sp.Upd.trans hSW (Sp.Upd.of_below h9.2) (by simp)⟩))
   try go_frame
   refine RL.sk 3 (fun va hlva hsva K hK => ?_)
   have hO := (Hb8.out.below (Below.drew (Below.refl _ _)) Hb8.out.lt).below (hlq11.trans hlva) (by have := Hb8.out.lt; simpa using this)
   refine store_blk_op 49 _ _ rfl b8 (u64s (els [v42])) _ 49 rfl (by first | rfl | (rw [els_one])) hO (by kernel_rfl) (by first | rfl | kernel_rfl) (els_all _) ?_
   intro Y hY hgY
   have hsY : Sp.Upd Z10 Y [b8] := Sp.Upd.trans hsva (Sp.Upd.of_grown1 hgY) (fun k hk => .inl (by simp at hk; simp [hk]))
   refine hK.out _ _ hsY ?_
   clear hK
   try go_frame
   refine RL.done (by kernel_rfl) (fun Z12 hlZ12 hsZ12 => ?_)
   have Hb8 := ϕ (show Rg.Blk Z12 b8 49 (u64s (els [v42])) from Rg.Blk.below hY hlZ12 hY.lt)
   have Hb4 := ϕ (upd_blk hsZ12 Hb4.out (by simp; exact Nb4_b8.out))
   have HB := ϕ (below_upd HB.out hsZ12 (fun k hk => by simp at hk; rw [hk]; exact Gb8.out) HB.out.size)
   clear hsY hY hgY hlva hsva hlZ12 hsZ12 hO
   go_upto_region 9 with fail
   refine RL.start (fun W => Sp.Upd Z12 W [b4]) (by kernel_rfl) (Sp.Upd.trans (Sp.Upd.refl _ _) (Sp.Upd.of_below (Below.drew (Below.refl _ _))) (by simp)) ?_
   refine RL.tw 0 (v := .agg (u64s v42.l)) rfl (fun W hSW => run_at 49 _ rfl b8 0 rfl (u64s v42.l) (el_part (upd_blk hSW Hb8.out (by simp; exact Nb8_b4.out)) 0 0 v42 rfl rfl (by simp)) Tryz.underlying49 rfl (by kernel_rfl)) ?_
   try go_frame
   refine' RL.tc 1 (v := (.bool v44y)) 56 #[.agg (u64s v42.l)] ?hk33 ?hc33 ?_
   case hk33 => (intro W; go_simp; try with_reducible rfl)
   case hc33 => (intro W hSW; exact (Cv44y.out W).mono (fun e w9 h9 => ⟨h9.1, h9.2, Sp.Upd.trans hSW (Sp.Upd.of_below h9.2) (by simp)⟩))
   try go_frame
   refine RL.tw 2 (v := .agg (u64s v42.l)) rfl (fun W hSW => run_at 49 _ rfl b8 0 rfl (u64s v42.l) (el_part (upd_blk hSW Hb8.out (by simp; exact Nb8_b4.out)) 0 0 v42 rfl rfl (by simp)) Tryz.underlying49 rfl (by kernel_rfl)) ?_
   try go_frame
   refine' RL.tc 3 (v := (.agg (u64s v46y.l))) 46 #[.agg (u64s v42.l)] ?hk34 ?hc34 ?_
   case hk34 => (intro W; go_simp; try with_reducible rfl)
   case hc34 => (intro W hSW; exact (Cv46y.out W).mono (fun e w9 h9 => ⟨h9.1, h9.2, Sp.Upd.trans hSW (Sp.Upd.of_below h9.2) (by simp)⟩))
   try go_frame
   refine RL.tw 4 (v := .agg (u64s v42.l)) rfl (fun W hSW => run_at 49 _ rfl b8 0 rfl (u64s v42.l) (el_part (upd_blk hSW Hb8.out (by simp; exact Nb8_b4.out)) 0 0 v42 rfl rfl (by simp)) Tryz.underlying49 rfl (by kernel_rfl)) ?_
   try go_frame
   refine' RL.tc 5 (v := (.agg (u64s v48y.l))) 97 #[.bool v44y, .agg (u64s v46y.l), .agg (u64s v42.l)] ?hk35 ?hc35 ?_
   case hk35 => (intro W; go_simp; try with_reducible rfl)
   case hc35 => (intro W hSW; exact (Cv48y.out W).mono (fun e w9 h9 => ⟨h9.1, h9.2, Sp.Upd.trans hSW (Sp.Upd.of_below h9.2) (by simp)⟩))
   try go_frame
   refine RL.sk 6 (fun va hlva hsva K hK => ?_)
   have hO := (Hb4.out.below (Below.drew (Below.refl _ _)) Hb4.out.lt).below hlva (by have := Hb4.out.lt; simpa using this)
   refine store_blk_op 49 _ _ rfl b4 (u64s (els [v48y])) _ 49 rfl (by first | rfl | (rw [els_one])) hO (by kernel_rfl) (by first | rfl | kernel_rfl) (els_all _) ?_
   intro Y hY hgY
   have hsY : Sp.Upd Z12 Y [b4] := Sp.Upd.trans hsva (Sp.Upd.of_grown1 hgY) (fun k hk => .inl (by simp at hk; simp [hk]))
   refine hK.out _ _ hsY ?_
   clear hK
   try go_frame
   refine' RL.tv 7 ?hk36 ?_
   case hk36 => (intro W hSW; go_simp; try with_reducible rfl)
   try go_frame
   refine RL.done (by kernel_rfl) (fun Z13 hlZ13 hsZ13 => ?_)
   have Hb4 := ϕ (show Rg.Blk Z13 b4 49 (u64s (els [v48y])) from Rg.Blk.below hY hlZ13 hY.lt)
   have HB := ϕ (below_upd HB.out hsZ13 (fun k hk => by simp at hk; rw [hk]; exact Gb4.out) HB.out.size)
   clear hsY hY hgY hlva hsva hlZ13 hsZ13 hO
   go_wp2_with fail
   refine bodyPost_ret (v := .tuple #[.agg (u64s (els [v48y])), .bool true])
    (results_cell_slot Tryz.results86 _ _ b4 49 _ (0, 0) _ _ rfl rfl Hb4.out Tryz.underlying49 rfl (by kernel_rfl)) rfl ?_
   exact ⟨rfl, HB.out⟩
  | false =>
   have tk11_0 := True.intro
   go_wp2_with (have _t := tk11_0; (with_reducible refine gate_ ?_); refine Cv.store_blk rfl 49 _ _ rfl b4 (u64s (els [zE])) (u64s (els [zE])) 49 rfl (by first | rfl | (rw [els_one])) Hb4.out (by kernel_rfl) (by first | rfl | kernel_rfl) (els_all _) ?_; intro X12 hV hgV; have Hb4 := ϕ hV; have HB := ϕ (HB.out.grown hgV HB.out.size (fun j e => by cases e; exact Gb4.out)); clear hV hgV; clear _t tk11_0; have tk11_1 := True.intro)
   clear tk11_1
   go_wp2_with fail
   refine bodyPost_ret (v := .tuple #[.agg (u64s (els [zE])), .bool false])
    (results_cell_slot Tryz.results86 _ _ b4 49 _ (0, 0) _ _ rfl rfl Hb4.out Tryz.underlying49 rfl (by kernel_rfl)) rfl ?_
   exact ⟨rfl, HB.out⟩
end Go.Proofs.YtfpcelmekfdafaaGreatDoor.Kx
namespace Go.Proofs.YtfpcelmekfdafaaGreatDoor.Ed
open Go.Proofs.YtfpcelmekfdafaaGreatDoor.Nt
/-- (X, Y, Z, T) stands for p -/
structure RepE (p : Pt) (X Y Z T : F) : Prop where
 r : Rep p X Y Z
 t : T = p.x * p.y * Z
theorem ex_e (x1 y1 z1 x2 y2 z2 : F) : (y1 * z1 + x1 * z1) * (y2 * z2 + x2 * z2) - (y1 * z1 - x1 * z1) * (y2 * z2 - x2 * z2) = (z1 * z2 + z1 * z2) * (x1 * y2 + y1 * x2) := by grobner
theorem ex_h (x1 y1 z1 x2 y2 z2 : F) : (y1 * z1 + x1 * z1) * (y2 * z2 + x2 * z2) + (y1 * z1 - x1 * z1) * (y2 * z2 - x2 * z2) = (z1 * z2 + z1 * z2) * (y1 * y2 + x1 * x2) := by grobner
theorem ex_f (d x1 y1 z1 x2 y2 z2 : F) : (z1 * z2 + z1 * z2) - (x1 * y1 * z1) * (d + d) * (x2 * y2 * z2) = (z1 * z2 + z1 * z2) * (1 - d * x1 * x2 * y1 * y2) := by grobner
theorem ex_g (d x1 y1 z1 x2 y2 z2 : F) : (z1 * z2 + z1 * z2) + (x1 * y1 * z1) * (d + d) * (x2 * y2 * z2) = (z1 * z2 + z1 * z2) * (1 + d * x1 * x2 * y1 * y2) := by grobner
theorem ex_x (k N D G u : F) (hu : G * u = 1) : k * N * (k * D) = N * u * (k * D * (k * G)) := by
 have : N * u * (k * D * (k * G)) = k * N * (k * D) * (G * u) := by grobner
 rw [this, hu]; grobner
theorem ex_y (k M D G v : F) (hv : D * v = 1) : k * G * (k * M) = M * v * (k * D * (k * G)) := by
 have : M * v * (k * D * (k * G)) = k * G * (k * M) * (D * v) := by grobner
 rw [this, hv]; grobner
theorem ex_t (k N M D G u v : F) (hu : G * u = 1) (hv : D * v = 1) : k * N * (k * M) = N * u * (M * v) * (k * D * (k * G)) := by
 have : N * u * (M * v) * (k * D * (k * G)) = k * N * (k * M) * ((G * u) * (D * v)) := by grobner
 rw [this, hu, hv]; grobner
theorem two_k (z : F) : z + z = 2 * z := by grobner
theorem RepE.add {p q : Pt} {X1 Y1 Z1 T1 X2 Y2 Z2 T2 : F} (hp : RepE p X1 Y1 Z1 T1) (hq : RepE q X2 Y2 Z2 T2) :
 RepE (p.add q) (((Y1 + X1) * (Y2 + X2) - (Y1 - X1) * (Y2 - X2)) * ((Z1 * Z2 + Z1 * Z2) - T1 * (dE + dE) * T2)) (((Z1 * Z2 + Z1 * Z2) + T1 * (dE + dE) * T2) * ((Y1 + X1) * (Y2 + X2) + (Y1 - X1) * (Y2 - X2)))
  (((Z1 * Z2 + Z1 * Z2) - T1 * (dE + dE) * T2) * ((Z1 * Z2 + Z1 * Z2) + T1 * (dE + dE) * T2)) (((Y1 + X1) * (Y2 + X2) - (Y1 - X1) * (Y2 - X2)) * ((Y1 + X1) * (Y2 + X2) + (Y1 - X1) * (Y2 - X2))) := by
 obtain ⟨⟨a1, a2, a3⟩, a4⟩ := hp
 obtain ⟨⟨b1, b2, b3⟩, b4⟩ := hq
 subst a1 a2 a4 b1 b2 b4
 have hm := den_m p.h q.h
 have hpp := den_p p.h q.h
 have hk : Z1 * Z2 + Z1 * Z2 ≠ 0 := by rw [two_k]; exact mul_ne two_ne (mul_ne a3 b3)
 rw [ex_e, ex_h, ex_f, ex_g]
 refine ⟨⟨?_, ?_, ?_⟩, ?_⟩
 · exact ex_x _ _ _ _ _ (mul_inv hpp)
 · exact ex_y _ _ _ _ _ (mul_inv hm)
 · exact mul_ne (mul_ne hk hm) (mul_ne hk hpp)
 · exact ex_t _ _ _ _ _ _ _ (mul_inv hpp) (mul_inv hm)
theorem RepE.zero : RepE Pt.zero 0 1 1 0 := ⟨Rep.zero, by show (0 : F) = 0 * 1 * 1; grobner⟩
theorem RepE.of (p : Pt) : RepE p p.x p.y 1 (p.x * p.y) := ⟨Rep.of p, by rw [m_one]⟩
theorem n_z (x z : F) : 0 - x * z = (0 - x) * z := by grobner
theorem n_t (x y z : F) : 0 - x * y * z = (0 - x) * y * z := by grobner
theorem RepE.neg {p : Pt} {X Y Z T : F} (h : RepE p X Y Z T) : RepE p.neg (0 - X) Y Z (0 - T) := by
 obtain ⟨⟨a1, a2, a3⟩, a4⟩ := h
 subst a1 a4
 exact ⟨⟨n_z _ _, a2, a3⟩, n_t _ _ _⟩
end Go.Proofs.YtfpcelmekfdafaaGreatDoor.Ed
namespace Go.Proofs.YtfpcelmekfdafaaGreatDoor.RL
open Go.RowKit
theorem stepCall {P : Program} {md : Region.Mode} {ops : Array Oper} {Q : Exit → Act → World → Prop} {S : World → Prop} {i : Nat} {o : Oper} {fuel : Nat} {listed : Array Bool} {a : Act} {w : World} (F : FuncId) (args : Array Value) (ho : ops.toList[i]? = some o) (hr : Region.ready md ops listed = [i]) (hw : Region.wanted o (yielded ops a.tmps) = true)
 (hv : ∀ W : World, (execOp a.eval o).run P W = .ok (.enter F args) W)
 (hc : ∀ w', Lat w w' → S w' → Calls P F args w' fun e w'' => ∃ v, e = .returned v ∧ S w'' ∧ H P md ops Q S w'' fuel (listed.setIfInBounds i true) (a.put o.dst v)) : H P md ops Q S w (fuel + 1) listed a := by
 refine step hr fun w' hl hS => wpOp_step (by simpa using ho) fun K hK => ?_
 rw [if_pos hw]
 unfold Oper.wp
 rw [hv]
 refine Calls.mono (hc w' hl hS) ?_
 rintro e w'' ⟨v, rfl, hs, hh⟩
 exact hK _ _ ⟨hs, hh⟩
/-- two that may come up, whichever first -/
theorem step2 {P : Program} {md : Region.Mode} {ops : Array Oper} {Q : Exit → Act → World → Prop} {S : World → Prop} {i j : Nat} {oi oj : Oper} {fuel : Nat} {listed : Array Bool} {a : Act} {w : World} (hoi : ops.toList[i]? = some oi) (hoj : ops.toList[j]? = some oj) (hr : Region.ready md ops listed = [i, j]) (hwi : Region.wanted oi (yielded ops a.tmps) = true) (hwj : Region.wanted oj (yielded ops a.tmps) = true)
 (hi : ∀ w', Lat w w' → S w' → ∀ K : Act → World → Prop, Shut (∀ a' w'', S w'' → H P md ops Q S w'' fuel (listed.setIfInBounds i true) a' → K a' w'') → Oper.wp P oi a w' K Q)
 (hj : ∀ w', Lat w w' → S w' → ∀ K : Act → World → Prop, Shut (∀ a' w'', S w'' → H P md ops Q S w'' fuel (listed.setIfInBounds j true) a' → K a' w'') → Oper.wp P oj a w' K Q) : H P md ops Q S w (fuel + 1) listed a := by
 intro w' hl hS
 refine ⟨fun h0 => ?_, fun k hk => ?_⟩
 · rw [h0] at hr
   cases hr
 · rw [hr] at hk
   rcases List.mem_cons.1 hk with rfl | hk
   · exact wpOp_step (by simpa using hoi) fun K hK => by
      rw [if_pos hwi]
      exact hi w' hl hS K (fun a' w'' hs hh => hK a' w'' ⟨hs, hh⟩)
   · rw [List.mem_singleton.1 hk]
     exact wpOp_step (by simpa using hoj) fun K hK => by
      rw [if_pos hwj]
      exact hj w' hl hS K (fun a' w'' hs hh => hK a' w'' ⟨hs, hh⟩)
def pa (b : Nat) : Value := .pointer (some ⟨b, 0, none⟩)
def ptb (x : Bool) (d : Option Tmp) (v : Value) (a : Act) : Act := if x = true then a.put d v else a
theorem put_ptb {x : Bool} {d d' : Option Tmp} {v u : Value} {a : Act} (h : ∀ e, d = some e → d' ≠ some e) : (ptb x d v a).put d' u = ptb x d v (a.put d' u) := by
 cases x
 · rfl
 · exact Act.put_comm _ _ _ h
def cntb (a b c d : Bool) : Nat := (if a = true then 0 else 1) + (if b = true then 0 else 1) + (if c = true then 0 else 1) + (if d = true then 0 else 1)
theorem cnt0 {b c d : Bool} {n : Nat} (h : cntb false b c d = n + 1) : cntb true b c d = n := by
 cases b <;> cases c <;> cases d <;> simp [cntb] at h ⊢ <;> omega
theorem cnt1 {a c d : Bool} {n : Nat} (h : cntb a false c d = n + 1) : cntb a true c d = n := by
 cases a <;> cases c <;> cases d <;> simp [cntb] at h ⊢ <;> omega
theorem cnt2 {a b d : Bool} {n : Nat} (h : cntb a b false d = n + 1) : cntb a b true d = n := by
 cases a <;> cases b <;> cases d <;> simp [cntb] at h ⊢ <;> omega
theorem cnt3 {a b c : Bool} {n : Nat} (h : cntb a b c false = n + 1) : cntb a b c true = n := by
 cases a <;> cases b <;> cases c <;> simp [cntb] at h ⊢ <;> omega
theorem alloc4 {P : Program} {md : Region.Mode} {ops : Array Oper} {Q : Exit → Act → World → Prop} {S : World → Prop} {i j k l : Nat} {oi oj ok ol : Oper} {fuel : Nat} {listed : Array Bool} {a : Act} {w : World} (T : TypeId) (Z : Array Value)
 (hoi : ops.toList[i]? = some oi) (hoj : ops.toList[j]? = some oj) (hok : ops.toList[k]? = some ok) (hol : ops.toList[l]? = some ol)
 (hl0 : ((((listed.setIfInBounds i false).setIfInBounds j false).setIfInBounds k false).setIfInBounds l false) = listed)
 (hR : ∀ xi xj xk xl : Bool, (xi && xj && xk && xl) = false → Region.ready md ops ((((listed.setIfInBounds i xi).setIfInBounds j xj).setIfInBounds k xk).setIfInBounds l xl) = (if xi = true then [] else [i]) ++ ((if xj = true then [] else [j]) ++ ((if xk = true then [] else [k]) ++ (if xl = true then [] else [l]))))
 (hn : i ≠ j ∧ i ≠ k ∧ i ≠ l ∧ j ≠ k ∧ j ≠ l ∧ k ≠ l) (hd : oi.dst ≠ oj.dst ∧ oi.dst ≠ ok.dst ∧ oi.dst ≠ ol.dst ∧ oj.dst ≠ ok.dst ∧ oj.dst ≠ ol.dst ∧ ok.dst ≠ ol.dst)
 (hwi : ∀ a : Act, Region.wanted oi (yielded ops a.tmps) = true) (hwj : ∀ a : Act, Region.wanted oj (yielded ops a.tmps) = true) (hwk : ∀ a : Act, Region.wanted ok (yielded ops a.tmps) = true) (hwl : ∀ a : Act, Region.wanted ol (yielded ops a.tmps) = true)
 (hri : ∀ (a : Act) (W : World), (execOp a.eval oi).run P W = .ok (.value (.pointer (some ⟨W.heap.size, 0, none⟩))) (W.alloc (.cells Z T)))
 (hrj : ∀ (a : Act) (W : World), (execOp a.eval oj).run P W = .ok (.value (.pointer (some ⟨W.heap.size, 0, none⟩))) (W.alloc (.cells Z T)))
 (hrk : ∀ (a : Act) (W : World), (execOp a.eval ok).run P W = .ok (.value (.pointer (some ⟨W.heap.size, 0, none⟩))) (W.alloc (.cells Z T)))
 (hrl : ∀ (a : Act) (W : World), (execOp a.eval ol).run P W = .ok (.value (.pointer (some ⟨W.heap.size, 0, none⟩))) (W.alloc (.cells Z T)))
 (hS : ∀ W o, S W → S (W.alloc o))
 (h : ∀ b1 b2 b3 b4 W, Lat w W → S W → (b1 ≠ b2 ∧ b1 ≠ b3 ∧ b1 ≠ b4 ∧ b2 ≠ b3 ∧ b2 ≠ b4 ∧ b3 ≠ b4) → (w.heap.size ≤ b1 ∧ w.heap.size ≤ b2 ∧ w.heap.size ≤ b3 ∧ w.heap.size ≤ b4) → Rg.Blk W b1 T Z → Rg.Blk W b2 T Z → Rg.Blk W b3 T Z → Rg.Blk W b4 T Z →
  H P md ops Q S W fuel ((((listed.setIfInBounds i true).setIfInBounds j true).setIfInBounds k true).setIfInBounds l true) ((((a.put oi.dst (.pointer (some ⟨b1, 0, none⟩))).put oj.dst (.pointer (some ⟨b2, 0, none⟩))).put ok.dst (.pointer (some ⟨b3, 0, none⟩))).put ol.dst (.pointer (some ⟨b4, 0, none⟩)))) : H P md ops Q S w (fuel + 4) listed a := by
 obtain ⟨hnij, hnik, hnil, hnjk, hnjl, hnkl⟩ := hn
 obtain ⟨hdij, hdik, hdil, hdjk, hdjl, hdkl⟩ := hd
 have key : ∀ n xi xj xk xl, cntb xi xj xk xl = n → ∀ bi bj bk bl W, (Lat w W ∧ S W ∧ (xi = true → Rg.Blk W bi T Z ∧ w.heap.size ≤ bi) ∧ (xj = true → Rg.Blk W bj T Z ∧ w.heap.size ≤ bj) ∧ (xk = true → Rg.Blk W bk T Z ∧ w.heap.size ≤ bk) ∧ (xl = true → Rg.Blk W bl T Z ∧ w.heap.size ≤ bl) ∧ (xi = true → xj = true → bi ≠ bj) ∧ (xi = true → xk = true → bi ≠ bk) ∧ (xi = true → xl = true → bi ≠ bl) ∧ (xj = true → xk = true → bj ≠ bk) ∧ (xj = true → xl = true → bj ≠ bl) ∧ (xk = true → xl = true → bk ≠ bl)) → H P md ops Q S W (fuel + n) ((((listed.setIfInBounds i xi).setIfInBounds j xj).setIfInBounds k xk).setIfInBounds l xl) (ptb xl ol.dst (pa bl) (ptb xk ok.dst (pa bk) (ptb xj oj.dst (pa bj) (ptb xi oi.dst (pa bi) a)))) := by
  intro n
  induction n with
  | zero =>
   intro xi xj xk xl hn bi bj bk bl W hI
   have hx : xi = true ∧ xj = true ∧ xk = true ∧ xl = true := by cases xi <;> cases xj <;> cases xk <;> cases xl <;> simp [cntb] at hn ⊢
   obtain ⟨rfl, rfl, rfl, rfl⟩ := hx
   obtain ⟨i1, i2, p0, p1, p2, p3, q0, q1, q2, q3, q4, q5⟩ := hI
   exact h bi bj bk bl W i1 i2 ⟨q0 rfl rfl, q1 rfl rfl, q2 rfl rfl, q3 rfl rfl, q4 rfl rfl, q5 rfl rfl⟩ ⟨(p0 rfl).2, (p1 rfl).2, (p2 rfl).2, (p3 rfl).2⟩ (p0 rfl).1 (p1 rfl).1 (p2 rfl).1 (p3 rfl).1
  | succ n ih =>
  intro xi xj xk xl hn bi bj bk bl W0 hI0
  intro W hlW hsW
  have hI : (Lat w W ∧ S W ∧ (xi = true → Rg.Blk W bi T Z ∧ w.heap.size ≤ bi) ∧ (xj = true → Rg.Blk W bj T Z ∧ w.heap.size ≤ bj) ∧ (xk = true → Rg.Blk W bk T Z ∧ w.heap.size ≤ bk) ∧ (xl = true → Rg.Blk W bl T Z ∧ w.heap.size ≤ bl) ∧ (xi = true → xj = true → bi ≠ bj) ∧ (xi = true → xk = true → bi ≠ bk) ∧ (xi = true → xl = true → bi ≠ bl) ∧ (xj = true → xk = true → bj ≠ bk) ∧ (xj = true → xl = true → bj ≠ bl) ∧ (xk = true → xl = true → bk ≠ bl)) := by
   obtain ⟨i1, i2, p0, p1, p2, p3, q0, q1, q2, q3, q4, q5⟩ := hI0
   exact ⟨i1.trans hlW, hsW, fun e => ⟨(p0 e).1.below hlW (p0 e).1.lt, (p0 e).2⟩, fun e => ⟨(p1 e).1.below hlW (p1 e).1.lt, (p1 e).2⟩, fun e => ⟨(p2 e).1.below hlW (p2 e).1.lt, (p2 e).2⟩, fun e => ⟨(p3 e).1.below hlW (p3 e).1.lt, (p3 e).2⟩, q0, q1, q2, q3, q4, q5⟩
  have hxf : (xi && xj && xk && xl) = false := by cases xi <;> cases xj <;> cases xk <;> cases xl <;> first | rfl | (simp [cntb] at hn)
  refine ⟨fun h0 => ?_, fun k0 hk => ?_⟩
  · rw [hR _ _ _ _ hxf] at h0
    simp only [List.append_eq_nil_iff] at h0
    simp only [cntb] at hn
    obtain ⟨z1, z2, z3, z4⟩ := h0
    cases xi <;> cases xj <;> cases xk <;> cases xl <;> simp at z1 z2 z3 z4 hn
  rw [hR _ _ _ _ hxf] at hk
  clear hxf
  simp only [List.mem_append] at hk
  rcases hk with hk | hk | hk | hk
  · -- i
    cases hxi : xi with
    | true => rw [hxi] at hk; cases hk
    | false =>
     subst hxi
     rw [if_neg (by decide), List.mem_singleton] at hk
     rw [hk]
     refine wpOp_step (by simpa using hoi) fun K hK => ?_
     rw [if_pos (hwi _)]
     unfold Oper.wp
     rw [hri]
     refine hK _ _ ⟨hS _ _ hI.2.1, ?_⟩
     have e1 : ((((listed.setIfInBounds i false).setIfInBounds j xj).setIfInBounds k xk).setIfInBounds l xl).setIfInBounds i true = ((((listed.setIfInBounds i true).setIfInBounds j xj).setIfInBounds k xk).setIfInBounds l xl) := by
      rw [Array.setIfInBounds_comm _ _ (show l ≠ i from fun e => hnil e.symm)]
      rw [Array.setIfInBounds_comm _ _ (show k ≠ i from fun e => hnik e.symm)]
      rw [Array.setIfInBounds_comm _ _ (show j ≠ i from fun e => hnij e.symm)]
      rw [Array.setIfInBounds_setIfInBounds]
     have e2 : Act.put (ptb xl ol.dst (pa bl) (ptb xk ok.dst (pa bk) (ptb xj oj.dst (pa bj) (ptb false oi.dst (pa bi) a)))) oi.dst (pa W.heap.size) = (ptb xl ol.dst (pa bl) (ptb xk ok.dst (pa bk) (ptb xj oj.dst (pa bj) (ptb true oi.dst (pa W.heap.size) a)))) := by
      rw [put_ptb (fun d h1 h2 => hdil (h2.trans h1.symm))]
      rw [put_ptb (fun d h1 h2 => hdik (h2.trans h1.symm))]
      rw [put_ptb (fun d h1 h2 => hdij (h2.trans h1.symm))]
      rfl
     rw [e1]
     show H P md ops Q S (W.alloc (.cells Z T)) _ _ (Act.put _ _ (pa W.heap.size))
     rw [e2]
     refine ih _ _ _ _ (cnt0 hn) _ _ _ _ _ ?_
     obtain ⟨i1, i2, p0, p1, p2, p3, q0, q1, q2, q3, q4, q5⟩ := hI
     have hz := Below.size i1
     refine ⟨i1.trans ((Below.refl _ _).alloc (Nat.le_refl _) _), hS _ _ i2, ?_, ?_, ?_, ?_, ?_, ?_, ?_, ?_, ?_, ?_⟩
     · exact fun _ => ⟨Rg.Blk.new W Z T, hz⟩
     · exact fun h => ⟨(p1 h).1.alloc _, (p1 h).2⟩
     · exact fun h => ⟨(p2 h).1.alloc _, (p2 h).2⟩
     · exact fun h => ⟨(p3 h).1.alloc _, (p3 h).2⟩
     · exact fun _ h e => absurd ((p1 h).1.lt) (by omega)
     · exact fun _ h e => absurd ((p2 h).1.lt) (by omega)
     · exact fun _ h e => absurd ((p3 h).1.lt) (by omega)
     · exact q3
     · exact q4
     · exact q5
  · -- j
    cases hxj : xj with
    | true => rw [hxj] at hk; cases hk
    | false =>
     subst hxj
     rw [if_neg (by decide), List.mem_singleton] at hk
     rw [hk]
     refine wpOp_step (by simpa using hoj) fun K hK => ?_
     rw [if_pos (hwj _)]
     unfold Oper.wp
     rw [hrj]
     refine hK _ _ ⟨hS _ _ hI.2.1, ?_⟩
     have e1 : ((((listed.setIfInBounds i xi).setIfInBounds j false).setIfInBounds k xk).setIfInBounds l xl).setIfInBounds j true = ((((listed.setIfInBounds i xi).setIfInBounds j true).setIfInBounds k xk).setIfInBounds l xl) := by
      rw [Array.setIfInBounds_comm _ _ (show l ≠ j from fun e => hnjl e.symm)]
      rw [Array.setIfInBounds_comm _ _ (show k ≠ j from fun e => hnjk e.symm)]
      rw [Array.setIfInBounds_setIfInBounds]
     have e2 : Act.put (ptb xl ol.dst (pa bl) (ptb xk ok.dst (pa bk) (ptb false oj.dst (pa bj) (ptb xi oi.dst (pa bi) a)))) oj.dst (pa W.heap.size) = (ptb xl ol.dst (pa bl) (ptb xk ok.dst (pa bk) (ptb true oj.dst (pa W.heap.size) (ptb xi oi.dst (pa bi) a)))) := by
      rw [put_ptb (fun d h1 h2 => hdjl (h2.trans h1.symm))]
      rw [put_ptb (fun d h1 h2 => hdjk (h2.trans h1.symm))]
      rfl
     rw [e1]
     show H P md ops Q S (W.alloc (.cells Z T)) _ _ (Act.put _ _ (pa W.heap.size))
     rw [e2]
     refine ih _ _ _ _ (cnt1 hn) _ _ _ _ _ ?_
     obtain ⟨i1, i2, p0, p1, p2, p3, q0, q1, q2, q3, q4, q5⟩ := hI
     have hz := Below.size i1
     refine ⟨i1.trans ((Below.refl _ _).alloc (Nat.le_refl _) _), hS _ _ i2, ?_, ?_, ?_, ?_, ?_, ?_, ?_, ?_, ?_, ?_⟩
     · exact fun h => ⟨(p0 h).1.alloc _, (p0 h).2⟩
     · exact fun _ => ⟨Rg.Blk.new W Z T, hz⟩
     · exact fun h => ⟨(p2 h).1.alloc _, (p2 h).2⟩
     · exact fun h => ⟨(p3 h).1.alloc _, (p3 h).2⟩
     · exact fun h _ e => absurd ((p0 h).1.lt) (by omega)
     · exact q1
     · exact q2
     · exact fun _ h e => absurd ((p2 h).1.lt) (by omega)
     · exact fun _ h e => absurd ((p3 h).1.lt) (by omega)
     · exact q5
  · -- k
    cases hxk : xk with
    | true => rw [hxk] at hk; cases hk
    | false =>
     subst hxk
     rw [if_neg (by decide), List.mem_singleton] at hk
     rw [hk]
     refine wpOp_step (by simpa using hok) fun K hK => ?_
     rw [if_pos (hwk _)]
     unfold Oper.wp
     rw [hrk]
     refine hK _ _ ⟨hS _ _ hI.2.1, ?_⟩
     have e1 : ((((listed.setIfInBounds i xi).setIfInBounds j xj).setIfInBounds k false).setIfInBounds l xl).setIfInBounds k true = ((((listed.setIfInBounds i xi).setIfInBounds j xj).setIfInBounds k true).setIfInBounds l xl) := by
      rw [Array.setIfInBounds_comm _ _ (show l ≠ k from fun e => hnkl e.symm)]
      rw [Array.setIfInBounds_setIfInBounds]
     have e2 : Act.put (ptb xl ol.dst (pa bl) (ptb false ok.dst (pa bk) (ptb xj oj.dst (pa bj) (ptb xi oi.dst (pa bi) a)))) ok.dst (pa W.heap.size) = (ptb xl ol.dst (pa bl) (ptb true ok.dst (pa W.heap.size) (ptb xj oj.dst (pa bj) (ptb xi oi.dst (pa bi) a)))) := by
      rw [put_ptb (fun d h1 h2 => hdkl (h2.trans h1.symm))]
      rfl
     rw [e1]
     show H P md ops Q S (W.alloc (.cells Z T)) _ _ (Act.put _ _ (pa W.heap.size))
     rw [e2]
     refine ih _ _ _ _ (cnt2 hn) _ _ _ _ _ ?_
     obtain ⟨i1, i2, p0, p1, p2, p3, q0, q1, q2, q3, q4, q5⟩ := hI
     have hz := Below.size i1
     refine ⟨i1.trans ((Below.refl _ _).alloc (Nat.le_refl _) _), hS _ _ i2, ?_, ?_, ?_, ?_, ?_, ?_, ?_, ?_, ?_, ?_⟩
     · exact fun h => ⟨(p0 h).1.alloc _, (p0 h).2⟩
     · exact fun h => ⟨(p1 h).1.alloc _, (p1 h).2⟩
     · exact fun _ => ⟨Rg.Blk.new W Z T, hz⟩
     · exact fun h => ⟨(p3 h).1.alloc _, (p3 h).2⟩
     · exact q0
     · exact fun h _ e => absurd ((p0 h).1.lt) (by omega)
     · exact q2
     · exact fun h _ e => absurd ((p1 h).1.lt) (by omega)
     · exact q4
     · exact fun _ h e => absurd ((p3 h).1.lt) (by omega)
  · -- l
    cases hxl : xl with
    | true => rw [hxl] at hk; cases hk
    | false =>
     subst hxl
     rw [if_neg (by decide), List.mem_singleton] at hk
     rw [hk]
     refine wpOp_step (by simpa using hol) fun K hK => ?_
     rw [if_pos (hwl _)]
     unfold Oper.wp
     rw [hrl]
     refine hK _ _ ⟨hS _ _ hI.2.1, ?_⟩
     have e1 : ((((listed.setIfInBounds i xi).setIfInBounds j xj).setIfInBounds k xk).setIfInBounds l false).setIfInBounds l true = ((((listed.setIfInBounds i xi).setIfInBounds j xj).setIfInBounds k xk).setIfInBounds l true) := by
      rw [Array.setIfInBounds_setIfInBounds]
     have e2 : Act.put (ptb false ol.dst (pa bl) (ptb xk ok.dst (pa bk) (ptb xj oj.dst (pa bj) (ptb xi oi.dst (pa bi) a)))) ol.dst (pa W.heap.size) = (ptb true ol.dst (pa W.heap.size) (ptb xk ok.dst (pa bk) (ptb xj oj.dst (pa bj) (ptb xi oi.dst (pa bi) a)))) := by
      rfl
     rw [e1]
     show H P md ops Q S (W.alloc (.cells Z T)) _ _ (Act.put _ _ (pa W.heap.size))
     rw [e2]
     refine ih _ _ _ _ (cnt3 hn) _ _ _ _ _ ?_
     obtain ⟨i1, i2, p0, p1, p2, p3, q0, q1, q2, q3, q4, q5⟩ := hI
     have hz := Below.size i1
     refine ⟨i1.trans ((Below.refl _ _).alloc (Nat.le_refl _) _), hS _ _ i2, ?_, ?_, ?_, ?_, ?_, ?_, ?_, ?_, ?_, ?_⟩
     · exact fun h => ⟨(p0 h).1.alloc _, (p0 h).2⟩
     · exact fun h => ⟨(p1 h).1.alloc _, (p1 h).2⟩
     · exact fun h => ⟨(p2 h).1.alloc _, (p2 h).2⟩
     · exact fun _ => ⟨Rg.Blk.new W Z T, hz⟩
     · exact q0
     · exact q1
     · exact fun h _ e => absurd ((p0 h).1.lt) (by omega)
     · exact q3
     · exact fun h _ e => absurd ((p1 h).1.lt) (by omega)
     · exact fun h _ e => absurd ((p2 h).1.lt) (by omega)
 intro w' hl hs
 have := key 4 false false false false rfl (bi := 0) (bj := 0) (bk := 0) (bl := 0) w' ⟨hl, hs, by simp, by simp, by simp, by simp, by simp, by simp, by simp, by simp, by simp, by simp⟩
 rw [hl0] at this
 exact this w' (Lat.refl w') hs
end Go.Proofs.YtfpcelmekfdafaaGreatDoor.RL
