/- Plain mathematics of the two hashes: no program in sight. Plain mathematics of the two hashes: the rounds. Plain mathematics of the two hashes: padding, blocks, the answer's bytes. The functions of sha2 on words. The functions of sha2 on words, those that call. The two tables in memory. -/
import Derived.WalkKit
import Derived.Test.YtfaeigbfnjkojaaGreatDoorGenA
import Derived.Lib.UnsafeStr
import Derived.Test.YtfaeigbfnjkojaaGreatDoorRows
import Derived.Lib.Hide
import Derived.Deep.QuietTactic
import Derived.BigQuiet
set_option linter.unusedVariables false
set_option linter.unusedSimpArgs false
namespace Go.Proofs.YtfaeigbfnjkojaaGreatDoor.Sha
open Go.Proofs.YtfaeigbfnjkojaaGreatDoor.Cl (nth nth_getD)

/-- turned to the right, in words of W bits -/
def rot (W x n : Nat) : Nat := (x / 2 ^ n ||| x * 2 ^ (W - n)) % 2 ^ W

theorem rot_lt (W x n : Nat) : rot W x n < 2 ^ W := Nat.mod_lt _ (Nat.two_pow_pos W)

theorem rot_left (W x n : Nat) (hx : x < 2 ^ W) : (x * 2 ^ (W - n) % 2 ^ W) ||| (x / 2 ^ n) = rot W x n := by
  unfold rot
  rw [Nat.or_mod_two_pow, Nat.mod_eq_of_lt (Nat.lt_of_le_of_lt (Nat.div_le_self x _) hx), Nat.or_comm]

/-- two turns and a third thing -/
def three (W x a b c : Nat) : Nat := rot W x a ^^^ rot W x b ^^^ rot W x c
def threeS (W x a b c : Nat) : Nat := rot W x a ^^^ rot W x b ^^^ (x / 2 ^ c)

theorem three_lt (W x a b c : Nat) : three W x a b c < 2 ^ W :=
  Nat.xor_lt_two_pow (Nat.xor_lt_two_pow (rot_lt _ _ _) (rot_lt _ _ _)) (rot_lt _ _ _)
theorem threeS_lt (W x a b c : Nat) (hx : x < 2 ^ W) : threeS W x a b c < 2 ^ W :=
  Nat.xor_lt_two_pow (Nat.xor_lt_two_pow (rot_lt _ _ _) (rot_lt _ _ _)) (Nat.lt_of_le_of_lt (Nat.div_le_self x _) hx)

/-- bytes as a number, the first the highest -/
def beN (l : List UInt8) : Nat := l.foldl (fun a b => a * 256 + b.toNat) 0
theorem beN_snoc (l : List UInt8) (b : UInt8) : beN (l ++ [b]) = beN l * 256 + b.toNat := by simp [beN]
theorem beN_lt : ∀ (l : List UInt8), beN l < 256 ^ l.length := by
  suffices ∀ (l : List UInt8) (m : Nat), l.reverse.length = m → beN l.reverse < 256 ^ m by
    intro l; have := this l.reverse l.length (by simp); rwa [List.reverse_reverse] at this
  intro l
  induction l with
  | nil => intro m h; simp at h; subst h; decide
  | cons b l ih =>
    intro m h
    simp at h
    subst h
    rw [List.reverse_cons, beN_snoc]
    have := ih l.length (by simp)
    have hb : b.toNat < 256 := b.toNat_lt
    rw [Nat.pow_succ]
    omega

/-- the functions on words, at either width -/
def sg0 (W x : Nat) : Nat := if W = 32 then threeS 32 x 7 18 3 else threeS 64 x 1 8 7
def sg1 (W x : Nat) : Nat := if W = 32 then threeS 32 x 17 19 10 else threeS 64 x 19 61 6
def ep0 (W x : Nat) : Nat := if W = 32 then three 32 x 2 13 22 else three 64 x 28 34 39
def ep1 (W x : Nat) : Nat := if W = 32 then three 32 x 6 11 25 else three 64 x 14 18 41

/-- the first t words of a block -/
def sched (W : Nat) (blk : List UInt8) : Nat → List Nat
  | 0 => []
  | t + 1 =>
    let l := sched W blk t
    l ++ [if t < 16 then beN ((blk.drop (t * (W / 8))).take (W / 8))
      else (sg1 W (nth l (t - 2)) + nth l (t - 7) + sg0 W (nth l (t - 15)) + nth l (t - 16)) % 2 ^ W]
theorem sched_length (W : Nat) (blk : List UInt8) (t : Nat) : (sched W blk t).length = t := by
  induction t with
  | zero => rfl
  | succ t ih => simp [sched, ih]
theorem sched_lt (W : Nat) (hW : W = 32 ∨ W = 64) (blk : List UInt8) (t : Nat) : ∀ x ∈ sched W blk t, x < 2 ^ W := by
  induction t with
  | zero => simp [sched]
  | succ t ih =>
    intro x hx
    simp only [sched, List.mem_append, List.mem_singleton] at hx
    rcases hx with hx | rfl
    · exact ih x hx
    · split
      · have h1 := beN_lt ((blk.drop (t * (W / 8))).take (W / 8))
        have h2 : ((blk.drop (t * (W / 8))).take (W / 8)).length ≤ W / 8 := List.length_take_le _ _
        refine Nat.lt_of_lt_of_le h1 (Nat.le_trans (Nat.pow_le_pow_right (by decide) h2) ?_)
        rcases hW with rfl | rfl <;> decide
      · exact Nat.mod_lt _ (Nat.two_pow_pos W)
theorem getD_lt {l : List Nat} {b : Nat} (h : ∀ x ∈ l, x < b) (hb : 0 < b) (i : Nat) : nth l i < b := by
  rw [nth_getD, List.getD_eq_getElem?_getD]
  cases hi : l[i]? with
  | none => simpa using hb
  | some x => simpa using h x (List.mem_of_getElem? hi)

/-- 80 places -/
def pad80 (l : List Nat) : List Nat := l ++ List.replicate (80 - l.length) 0
theorem pad80_length (l : List Nat) (h : l.length ≤ 80) : (pad80 l).length = 80 := by simp [pad80]; omega
theorem pad80_getD (l : List Nat) (i : Nat) (h : i < l.length) : nth (pad80 l) i = nth l i := by
  simp [nth, pad80, List.getElem?_append_left h]
theorem pad80_set (l : List Nat) (x : Nat) (h : l.length < 80) : (pad80 l).set l.length x = pad80 (l ++ [x]) := by
  obtain ⟨m, hm⟩ : ∃ m, 80 - l.length = m + 1 := ⟨80 - l.length - 1, by omega⟩
  have h2 : 80 - (l.length + 1) = m := by omega
  simp [pad80, hm, h2, List.replicate_succ]
theorem pad80_at (l : List Nat) (h : l.length < 80) : nth (pad80 l) l.length = 0 := by
  simp only [nth, pad80, List.getD_eq_getElem?_getD, List.getElem?_append_right (Nat.le_refl _), List.getElem?_replicate]
  split <;> rfl

/-- partial word -/
def part (W : Nat) (blk : List UInt8) (t j : Nat) : Nat := beN ((blk.drop (t * (W / 8))).take j)
theorem part_succ (W : Nat) (blk : List UInt8) (t j : Nat) (h : t * (W / 8) + j < blk.length) : part W blk t (j + 1) = part W blk t j * 256 + (blk[t * (W / 8) + j]).toNat := by
  unfold part
  rw [List.take_add_one, List.getElem?_drop, List.getElem?_eq_getElem h]
  exact beN_snoc _ _
theorem part_lt (W : Nat) (blk : List UInt8) (t j : Nat) : part W blk t j < 256 ^ j :=
  Nat.lt_of_lt_of_le (beN_lt _) (Nat.pow_le_pow_right (by decide) (List.length_take_le _ _))
theorem or_byte (a : Nat) (b : UInt8) : a * 256 ||| b.toNat = a * 256 + b.toNat :=
  nat_join 8 (a * 256) b.toNat (by omega) (by have := b.toNat_lt; omega)
end Go.Proofs.YtfaeigbfnjkojaaGreatDoor.Sha
namespace Go.Proofs.YtfaeigbfnjkojaaGreatDoor.Sha
open Go.Proofs.YtfaeigbfnjkojaaGreatDoor.Cl (nth nth_getD)

def wordsL : List Nat := [4794697086780616226, 8158064640168781261, 13096744586834688815, 16840607885511220156, 4131703408338449720, 6480981068601479193, 10538285296894168987, 12329834152419229976, 15566598209576043074, 1334009975649890238, 2608012711638119052, 6128411473006802146, 8268148722764581231, 9286055187155687089, 11230858885718282805, 13951009754708518548, 16472876342353939154, 17275323862435702243, 1135362057144423861, 2597628984639134821, 3308224258029322869, 5365058923640841347, 6679025012923562964, 8573033837759648693, 10970295158949994411, 12119686244451234320, 12683024718118986047, 13788192230050041572, 14330467153632333762, 15395433587784984357, 489312712824947311, 1452737877330783856, 2861767655752347644, 3322285676063803686, 5560940570517711597, 5996557281743188959, 7280758554555802590, 8532644243296465576, 9350256976987008742, 10552545826968843579, 11727347734174303076, 12113106623233404929, 14000437183269869457, 14369950271660146224, 15101387698204529176, 15463397548674623760, 17586052441742319658, 1182934255886127544, 1847814050463011016, 2177327727835720531, 2830643537854262169, 3796741975233480872, 4115178125766777443, 5681478168544905931, 6601373596472566643, 7507060721942968483, 8399075790359081724, 8693463985226723168, 9568029438360202098, 10144078919501101548, 10430055236837252648, 11840083180663258601, 13761210420658862357, 14299343276471374635, 14566680578165727644, 15097957966210449927, 16922976911328602910, 17689382322260857208, 500013540394364858, 748580250866718886, 1242879168328830382, 1977374033974150939, 2944078676154940804, 3659926193048069267, 4368137639120453308, 4836135668995329356, 5532061633213252278, 6448918945643986474, 6902733635092675308, 7801388544844847127]
def firstL : List Nat := [7640891576956012808, 13503953896175478587, 4354685564936845355, 11912009170470909681, 5840696475078001361, 11170449401992604703, 2270897969802886507, 6620516959819538809]

/-- all words of a block, in 80 places; the name is not opened by unification -/
@[irreducible] def msg (W : Nat) (blk : List UInt8) : List Nat := pad80 (sched W blk (if W = 32 then 64 else 80))
theorem msg32 (blk : List UInt8) : msg 32 blk = pad80 (sched 32 blk 64) := by unfold msg; rfl
theorem msg64 (blk : List UInt8) : msg 64 blk = pad80 (sched 64 blk 80) := by unfold msg; rfl
theorem msg_length (W : Nat) (blk : List UInt8) : (msg W blk).length = 80 := by
  unfold msg; split <;> exact pad80_length _ (by rw [sched_length]; decide)
/-- the constant of round t -/
def hi32 (x : Nat) : Nat := x / 4294967296
def kw (W t : Nat) : Nat := if W = 32 then hi32 (nth wordsL t) else nth wordsL t
def add64 (a b : Nat) : Nat := (a + b) % 18446744073709551616
def not64 (a : Nat) : Nat := 18446744073709551615 - a
def ch (a b c : Nat) : Nat := (a &&& b) ^^^ (not64 a &&& c)
def mj (a b c : Nat) : Nat := ((a &&& b) ^^^ (a &&& c)) ^^^ (b &&& c)
def t1 (W : Nat) (x : List Nat) (k w : Nat) : Nat := add64 (add64 (add64 (add64 (nth x 7) (ep1 W (nth x 4))) (ch (nth x 4) (nth x 5) (nth x 6))) k) w
def t2 (W : Nat) (x : List Nat) : Nat := add64 (ep0 W (nth x 0)) (mj (nth x 0) (nth x 1) (nth x 2))
theorem add64_lt (a b : Nat) : add64 a b < 18446744073709551616 := by unfold add64; omega
theorem wrap_add64 (a b : Nat) : IntKind.u64.wrap ((a : Int) + (b : Int)) = (add64 a b : Int) := by
  rw [IntKind.wrap_u64]; unfold add64; omega
theorem and_lt64 {a : Nat} (b : Nat) (h : a < 18446744073709551616) : a &&& b < 18446744073709551616 := Nat.lt_of_le_of_lt Nat.and_le_left h
theorem xor_lt64 {a b : Nat} (h : a < 18446744073709551616) (h' : b < 18446744073709551616) : a ^^^ b < 18446744073709551616 := Nat.xor_lt_two_pow (n := 64) h h'
theorem not64_lt (a : Nat) : not64 a < 18446744073709551616 := by unfold not64; omega
theorem not_u64 (a : Nat) (h : a < 18446744073709551616) : bits .xor .u64 IntKind.u64.max (a : Int) = (not64 a : Int) := by
  have e : IntKind.u64.max = ((18446744073709551615 : Nat) : Int) := rfl
  rw [e, u64_xor_nat _ _ (by decide) h]
  congr 1
  have : (18446744073709551615 : Nat) = 2 ^ 64 - 1 := by decide
  unfold not64
  rw [this]
  apply Nat.eq_of_testBit_eq
  intro i
  rw [Nat.testBit_xor, Nat.testBit_two_pow_sub_one, show 2 ^ 64 - 1 - a = 2 ^ 64 - (a + 1) by omega, Nat.testBit_two_pow_sub_succ h]
  by_cases hi : i < 64
  · simp [hi]
  · have : a.testBit i = false := Nat.testBit_lt_two_pow (Nat.lt_of_lt_of_le h (Nat.pow_le_pow_right (n := 2) (by decide) (by omega : 64 ≤ i)))
    simp [hi, this]
theorem ch_e1 (a b : Nat) (ha : a < 18446744073709551616) (hb : b < 18446744073709551616) : bits .and .u64 (a : Int) (b : Int) = ((a &&& b : Nat) : Int) := u64_and_nat a b ha hb
theorem ch_e3 (a c : Nat) (hc : c < 18446744073709551616) : bits .and .u64 (not64 a : Int) (c : Int) = ((not64 a &&& c : Nat) : Int) := u64_and_nat _ _ (not64_lt a) hc
theorem ch_e4 (a b c : Nat) (ha : a < 18446744073709551616) : bits .xor .u64 ((a &&& b : Nat) : Int) ((not64 a &&& c : Nat) : Int) = (ch a b c : Int) :=
  u64_xor_nat _ _ (and_lt64 _ ha) (and_lt64 _ (not64_lt a))
theorem mj_e1 (a b c : Nat) (ha : a < 18446744073709551616) : bits .xor .u64 ((a &&& b : Nat) : Int) ((a &&& c : Nat) : Int) = (((a &&& b) ^^^ (a &&& c) : Nat) : Int) :=
  u64_xor_nat _ _ (and_lt64 _ ha) (and_lt64 _ ha)
theorem mj_e2 (a b c : Nat) (ha : a < 18446744073709551616) (hb : b < 18446744073709551616) : bits .xor .u64 (((a &&& b) ^^^ (a &&& c) : Nat) : Int) ((b &&& c : Nat) : Int) = (mj a b c : Int) :=
  u64_xor_nat _ _ (xor_lt64 (and_lt64 _ ha) (and_lt64 _ ha)) (and_lt64 _ hb)
def mixRound (W : Nat) (x : List Nat) (k w : Nat) : List Nat :=
  [(t1 W x k w + t2 W x) % 2 ^ W, nth x 0, nth x 1, nth x 2, (nth x 3 + t1 W x k w) % 2 ^ W, nth x 4, nth x 5, nth x 6]
/-- the eight words after t rounds -/
def mixTo (W : Nat) (ws h : List Nat) : Nat → List Nat
  | 0 => h
  | t + 1 => mixRound W (mixTo W ws h t) (kw W t) (nth ws t)
@[irreducible] def mixAll (W : Nat) (blk : List UInt8) (h : List Nat) : List Nat := mixTo W (msg W blk) h (if W = 32 then 64 else 80)
theorem mixAll32 (blk : List UInt8) (h : List Nat) : mixAll 32 blk h = mixTo 32 (msg 32 blk) h 64 := by unfold mixAll; rfl
theorem mixAll64 (blk : List UInt8) (h : List Nat) : mixAll 64 blk h = mixTo 64 (msg 64 blk) h 80 := by unfold mixAll; rfl
/-- a block mixed into the words h -/
def mixed (W : Nat) (blk : List UInt8) (h : List Nat) : List Nat :=
  let x := mixAll W blk h
  (List.range 8).map fun i => (nth h i + nth x i) % 2 ^ W
theorem mixTo_length (W : Nat) (ws h : List Nat) (hh : h.length = 8) (t : Nat) : (mixTo W ws h t).length = 8 := by
  cases t with
  | zero => exact hh
  | succ t => rfl
theorem mixTo_lt (W : Nat) (ws h : List Nat) (hh : ∀ i, nth h i < 2 ^ W) (t : Nat) : ∀ i, nth (mixTo W ws h t) i < 2 ^ W := by
  have hW : 0 < 2 ^ W := Nat.two_pow_pos W
  induction t with
  | zero => exact hh
  | succ t ih =>
    intro i
    have h0 := Nat.mod_lt (t1 W (mixTo W ws h t) (kw W t) (nth ws t) + t2 W (mixTo W ws h t)) hW
    have h4 := Nat.mod_lt (nth (mixTo W ws h t) 3 + t1 W (mixTo W ws h t) (kw W t) (nth ws t)) hW
    match i with
    | 0 => exact h0
    | 1 => exact ih 0
    | 2 => exact ih 1
    | 3 => exact ih 2
    | 4 => exact h4
    | 5 => exact ih 4
    | 6 => exact ih 5
    | 7 => exact ih 6
    | i + 8 => exact hW
end Go.Proofs.YtfaeigbfnjkojaaGreatDoor.Sha
namespace Go.Proofs.YtfaeigbfnjkojaaGreatDoor.Sha
open Go.Proofs.YtfaeigbfnjkojaaGreatDoor.Cl (nth nth_getD)

/-- a number's bytes, n of them, the highest first -/
def beBytes : Nat → Nat → List UInt8
  | 0, _ => []
  | n + 1, x => UInt8.ofNat (x / 256 ^ n) :: beBytes n x
theorem beBytes_length (n x : Nat) : (beBytes n x).length = n := by
  induction n with
  | zero => rfl
  | succ n ih => simp [beBytes, ih]
theorem beBytes_get : ∀ (m x k : Nat) (h : k < m), (beBytes m x)[k]? = some (UInt8.ofNat (x / 256 ^ (m - 1 - k)))
  | m + 1, x, 0, _ => by simp [beBytes]
  | m + 1, x, k + 1, h => by
    have := beBytes_get m x k (by omega)
    rw [show m + 1 - 1 - (k + 1) = m - 1 - k by omega, ← this]; rfl
theorem beBytes_take (m x k : Nat) (h : k < m) : (beBytes m x).take (k + 1) = (beBytes m x).take k ++ [UInt8.ofNat (x / 256 ^ (m - 1 - k))] := by
  rw [List.take_add_one, beBytes_get m x k h]; rfl
theorem be_cells (m x k : Nat) (h : k < m) (e : Nat) (he : e = 8 * (m - 1 - k)) :
    Lib.byteCells ((beBytes m x).take (k + 1)) = Lib.byteCells ((beBytes m x).take k) ++ [.int .u8 ((x : Int) / 2 ^ e % 256)] := by
  rw [beBytes_take m x k h]
  have e2 : (2 : Nat) ^ e = 256 ^ (m - 1 - k) := by rw [he, Nat.pow_mul]
  have e3 : ((UInt8.ofNat (x / 256 ^ (m - 1 - k))).toNat : Int) = (x : Int) / 2 ^ e % 256 := by
    rw [UInt8.toNat_ofNat', ← e2, Int.natCast_emod, Int.natCast_ediv, Int.natCast_pow]; rfl
  unfold Lib.byteCells
  rw [List.map_append, List.map_singleton, e3]
def h0 (W : Nat) : List Nat := (List.range 8).map fun i => if W = 32 then hi32 (nth firstL i) else nth firstL i
def zeros (W n : Nat) : Nat := (2 * W - (n + 1 + W / 4) % (2 * W)) % (2 * W) + W / 4 - 8
@[irreducible] def padded (W : Nat) (bs : List UInt8) : List UInt8 := bs ++ ([128] ++ List.replicate (zeros W bs.length) 0) ++ beBytes 8 (bs.length * 8)
/-- the words after k blocks -/
def hashTo (W : Nat) (m : List UInt8) : Nat → List Nat
  | 0 => h0 W
  | k + 1 => mixed W ((m.drop (k * (2 * W))).take (2 * W)) (hashTo W m k)
def outBytes (W : Nat) (h : List Nat) : List UInt8 := h.flatMap (beBytes (W / 8))
@[irreducible] def sha (W : Nat) (bs : List UInt8) : List UInt8 := outBytes W (hashTo W (padded W bs) ((padded W bs).length / (2 * W)))

theorem padded_length32 (bs : List UInt8) : (padded 32 bs).length % 64 = 0 := by
  unfold padded zeros
  simp only [List.length_append, List.length_cons, List.length_nil, List.length_replicate, beBytes_length]
  omega
theorem padded_length64 (bs : List UInt8) : (padded 64 bs).length % 128 = 0 := by
  unfold padded zeros
  simp only [List.length_append, List.length_cons, List.length_nil, List.length_replicate, beBytes_length]
  omega
theorem h0_length (W : Nat) : (h0 W).length = 8 := by simp [h0]
theorem mixed_length (W : Nat) (blk : List UInt8) (h : List Nat) : (mixed W blk h).length = 8 := by simp [mixed]
theorem hashTo_length (W : Nat) (m : List UInt8) (k : Nat) : (hashTo W m k).length = 8 := by
  cases k with
  | zero => exact h0_length W
  | succ k => exact mixed_length _ _ _
theorem first_lt (i : Nat) : nth firstL i < 18446744073709551616 := getD_lt (l := firstL) (by decide) (by decide) i
theorem h0_lt (W : Nat) (hW : W = 32 ∨ W = 64) (i : Nat) : nth (h0 W) i < 2 ^ W := by
  refine getD_lt (l := h0 W) ?_ (Nat.two_pow_pos W) i
  intro x hx
  simp only [h0, List.mem_map, List.mem_range] at hx
  obtain ⟨j, _, rfl⟩ := hx
  have := first_lt j
  rcases hW with rfl | rfl
  · simp only [if_true, hi32]; omega
  · simp only [Nat.reduceEqDiff, if_false]; omega
theorem hashTo_lt (W : Nat) (hW : W = 32 ∨ W = 64) (m : List UInt8) (k i : Nat) : nth (hashTo W m k) i < 2 ^ W := by
  cases k with
  | zero => exact h0_lt W hW i
  | succ k =>
    refine getD_lt (l := hashTo W m (k + 1)) ?_ (Nat.two_pow_pos W) i
    intro x hx
    simp only [hashTo, mixed, List.mem_map] at hx
    obtain ⟨j, _, rfl⟩ := hx
    exact Nat.mod_lt _ (Nat.two_pow_pos W)
theorem outBytes_length (W : Nat) (h : List Nat) : (outBytes W h).length = h.length * (W / 8) := by
  induction h with
  | nil => simp [outBytes]
  | cons x h ih =>
    have e : outBytes W (x :: h) = beBytes (W / 8) x ++ outBytes W h := by simp [outBytes]
    rw [e, List.length_append, ih, beBytes_length, List.length_cons, Nat.add_mul]; omega
theorem sha_length (W : Nat) (hW : W = 32 ∨ W = 64) (bs : List UInt8) : (sha W bs).length = W := by
  unfold sha
  rw [outBytes_length, hashTo_length]
  rcases hW with rfl | rfl <;> rfl
end Go.Proofs.YtfaeigbfnjkojaaGreatDoor.Sha
namespace Go.Proofs.YtfaeigbfnjkojaaGreatDoor.Sha
open Go.RowKit

def k256c : Array Value := #[.int .i64 32, .int .i64 64, .int .i64 7, .int .i64 18, .int .i64 3, .int .i64 17, .int .i64 19, .int .i64 10, .int .i64 2, .int .i64 13, .int .i64 22, .int .i64 6, .int .i64 11, .int .i64 25]
def k512c : Array Value := #[.int .i64 64, .int .i64 80, .int .i64 1, .int .i64 8, .int .i64 7, .int .i64 19, .int .i64 61, .int .i64 6, .int .i64 28, .int .i64 34, .int .i64 39, .int .i64 14, .int .i64 18, .int .i64 41]

abbrev K256 : Value := .agg k256c
abbrev K512 : Value := .agg k512c

theorem _root_.Go.RowKit.Below.drewN' {B : Nat} {a w : World} (h : Below B a w) (n : Nat) : Below B a (w.drewN n) := by
  induction n with
  | zero => exact h
  | succ n ih => exact ⟨h.os, h.tape, h.output, h.size, h.block⟩

theorem wrap_u64_lt {x : Nat} (h : x < 2 ^ 64) : IntKind.u64.wrap (x : Int) = x := by rw [IntKind.wrap_u64]; omega
theorem wrap_u64_rot32 (x n : Nat) : IntKind.u64.wrap (rot 32 x n : Int) = (rot 32 x n : Int) := wrap_u64_lt (Nat.lt_trans (rot_lt _ _ _) (by decide))
theorem wrap_u64_rot64 (x n : Nat) : IntKind.u64.wrap (rot 64 x n : Int) = (rot 64 x n : Int) := wrap_u64_lt (rot_lt _ _ _)
attribute [local go_sem] wrap_u64_rot32 wrap_u64_rot64

theorem kind256_any (w : World) : Calls Tryz.prog 54 #[] w fun e w' => e = .returned K256 ∧ Below w.heap.size w w' := by
  unfold K256 k256c
  go_enter Tryz.func54, Tryz.ntmps54
  go_wp2
  exact bodyPost_ret (v := K256) (by simp [results, Tryz.results54, go_sem, K256, k256c]) rfl ⟨rfl, (Below.refl _ _).alloc (Nat.le_refl _) _⟩

theorem word256_any (w : World) (x : Nat) : Calls Tryz.prog 68 #[K256, .int .u64 x] w fun e w' => e = .returned (.int .u64 (hi32 x : Nat)) ∧ Below w.heap.size w w' := by
  unfold K256 k256c
  go_enter Tryz.func68, Tryz.ntmps68
  go_wp2
  go_ret
  exact ⟨by simp [hi32], (Below.refl _ _).alloc (Nat.le_refl _) _⟩

theorem word512_any (w : World) (x : Nat) : Calls Tryz.prog 68 #[K512, .int .u64 x] w fun e w' => e = .returned (.int .u64 x) ∧ Below w.heap.size w w' := by
  unfold K512 k512c
  go_enter Tryz.func68, Tryz.ntmps68
  go_wp2
  go_ret
  exact ⟨by simp, (Below.refl _ _).alloc (Nat.le_refl _) _⟩

theorem cut256_any (w : World) (x : Nat) : Calls Tryz.prog 88 #[K256, .int .u64 x] w fun e w' => e = .returned (.int .u64 (x % 4294967296 : Nat)) ∧ Below w.heap.size w w' := by
  have e : (IntKind.u64.wrap ((x : Int) * 4294967296) / 4294967296) = ((x % 4294967296 : Nat) : Int) := by rw [IntKind.wrap_u64]; omega
  unfold K256 k256c
  go_enter Tryz.func88, Tryz.ntmps88
  go_wp2
  go_quiet (fail)
  go_wp2
  go_ret
  exact ⟨by simp, (((Below.refl _ _).alloc (Nat.le_refl _) _).drewN' _)⟩

theorem cut512_any (w : World) (x : Nat) (hx : x < 18446744073709551616) : Calls Tryz.prog 88 #[K512, .int .u64 x] w fun e w' => e = .returned (.int .u64 x) ∧ Below w.heap.size w w' := by
  have e : IntKind.u64.wrap (x : Int) = x := by rw [IntKind.wrap_u64]; omega
  unfold K512 k512c
  go_enter Tryz.func88, Tryz.ntmps88
  go_wp2
  go_quiet (fail)
  go_wp2
  go_ret
  exact ⟨by simp, (((Below.refl _ _).alloc (Nat.le_refl _) _).drewN' _)⟩

theorem neg_and (n m k : Nat) (hn : 0 < n) (hn' : n < 2 ^ k) (hm : m = 2 ^ k - 1) (hk : k ≤ 32) : bits .and .u64 (IntKind.u64.wrap (-(n:Int))) (m : Int) = ((2 ^ k - n : Nat) : Int) := by
  have hp : 2 ^ k ≤ 2 ^ 32 := Nat.pow_le_pow_right (by decide) hk
  have e2 : 2 ^ 64 = 2 ^ k * 2 ^ (64 - k) := by rw [← Nat.pow_add]; congr 1; omega
  have h1 : IntKind.u64.wrap (-(n:Int)) = ((18446744073709551616 - n : Nat) : Int) := by
    rw [IntKind.wrap_u64]; omega
  have h0 : 0 < 2 ^ (64 - k) := Nat.two_pow_pos _
  rw [h1, u64_and_nat _ _ (by omega) (by omega), hm, Nat.and_two_pow_sub_one_eq_mod]
  congr 1
  obtain ⟨c, hc⟩ : ∃ c, 2 ^ (64 - k) = c + 1 := ⟨2 ^ (64 - k) - 1, by omega⟩
  have e3 : 18446744073709551616 = 2 ^ k * c + 2 ^ k := by
    have : (18446744073709551616 : Nat) = 2 ^ 64 := by decide
    rw [this, e2, hc, Nat.mul_succ]
  have e4 : 18446744073709551616 - n = (2 ^ k - n) + 2 ^ k * c := by omega
  rw [e4, Nat.add_mul_mod_self_left, Nat.mod_eq_of_lt (by omega)]

theorem rotl32_any (w : World) (x n : Nat) (hx : x < 4294967296) (hn : 0 < n) (hn' : n < 32) : Calls Tryz.prog 105 #[.int .u32 x, .int .i64 (-(n:Int))] w fun e w' => e = .returned (.int .u32 (rot 32 x n : Nat)) ∧ w = w' := by
  have e : bits .and .u64 (IntKind.u64.wrap (-(n:Int))) 31 = ((32 - n : Nat) : Int) := neg_and n 31 5 hn (by omega) (by decide) (by decide)
  go_enter Tryz.func105, Tryz.ntmps105
  go_wp2
  go_ret
  refine ⟨?_, rfl⟩
  have h := rot_left 32 x n hx
  have h3 : 32 - (32 - n) = n := by omega
  simp only [Array.getD_eq_getD_getElem?, List.getElem?_toArray, List.getElem?_cons_succ, List.getElem?_cons_zero, Option.getD_some]
  rw [h3]
  have h4 : (x : Int) * 2 ^ (32 - n) % 4294967296 = ((x * 2 ^ (32 - n) % 2 ^ 32 : Nat) : Int) := by rw [Int.natCast_emod, Int.natCast_mul, Int.natCast_pow]; rfl
  have h5 : (x : Int) / 2 ^ n = ((x / 2 ^ n : Nat) : Int) := by rw [Int.natCast_ediv, Int.natCast_pow]; rfl
  rw [h4, h5, u32_or_nat _ _ (Nat.mod_lt _ (by decide)) (Nat.lt_of_le_of_lt (Nat.div_le_self x _) hx), h]

theorem rotl64_any (w : World) (x n : Nat) (hx : x < 18446744073709551616) (hn : 0 < n) (hn' : n < 64) : Calls Tryz.prog 106 #[.int .u64 x, .int .i64 (-(n:Int))] w fun e w' => e = .returned (.int .u64 (rot 64 x n : Nat)) ∧ w = w' := by
  have e : bits .and .u64 (IntKind.u64.wrap (-(n:Int))) 63 = ((64 - n : Nat) : Int) := neg_and n 63 6 hn (by omega) (by decide) (by decide)
  go_enter Tryz.func106, Tryz.ntmps106
  go_wp2
  go_ret
  refine ⟨?_, rfl⟩
  have h := rot_left 64 x n hx
  have h3 : 64 - (64 - n) = n := by omega
  simp only [Array.getD_eq_getD_getElem?, List.getElem?_toArray, List.getElem?_cons_succ, List.getElem?_cons_zero, Option.getD_some]
  rw [h3]
  have h4 : IntKind.u64.wrap ((x : Int) * 2 ^ (64 - n)) = ((x * 2 ^ (64 - n) % 2 ^ 64 : Nat) : Int) := by rw [IntKind.wrap_u64, Int.natCast_emod, Int.natCast_mul, Int.natCast_pow]; rfl
  have h5 : (x : Int) / 2 ^ n = ((x / 2 ^ n : Nat) : Int) := by rw [Int.natCast_ediv, Int.natCast_pow]; rfl
  rw [h4, h5, u64_or_nat _ _ (Nat.mod_lt _ (by decide)) (Nat.lt_of_le_of_lt (Nat.div_le_self x _) hx), h]

theorem turn256_any (w : World) (x n : Nat) (hx : x < 4294967296) (hn : 0 < n) (hn' : n < 32) : Calls Tryz.prog 98 #[K256, .int .u64 x, .int .i64 n] w fun e w' => e = .returned (.int .u64 (rot 32 x n : Nat)) ∧ Below w.heap.size w w' := by
  unfold K256 k256c
  have e : (x : Int) % 4294967296 = x := by omega
  go_enter Tryz.func98, Tryz.ntmps98
  go_wp2_with (go_at_call 105; refine (rotl32_any _ _ _ hx hn hn').mono ?_; rintro e w' ⟨rfl, rfl⟩)
  go_ret
  exact ⟨by simp, (((Below.refl _ _).alloc (Nat.le_refl _) _))⟩
theorem turn512_any (w : World) (x n : Nat) (hx : x < 18446744073709551616) (hn : 0 < n) (hn' : n < 64) : Calls Tryz.prog 98 #[K512, .int .u64 x, .int .i64 n] w fun e w' => e = .returned (.int .u64 (rot 64 x n : Nat)) ∧ Below w.heap.size w w' := by
  unfold K512 k512c
  go_enter Tryz.func98, Tryz.ntmps98
  go_wp2_with (go_at_call 106; refine (rotl64_any _ _ _ hx hn hn').mono ?_; rintro e w' ⟨rfl, rfl⟩)
  go_ret
  exact ⟨by simp, (((Below.refl _ _).alloc (Nat.le_refl _) _))⟩



theorem turn256_int (w : World) (x : Nat) (n : Int) (hx : x < 4294967296) (hn : 0 < n) (hn' : n < 32) : Calls Tryz.prog 98 #[K256, .int .u64 x, .int .i64 n] w fun e w' => e = .returned (.int .u64 (rot 32 x n.toNat : Nat)) ∧ Below w.heap.size w w' := by
  obtain ⟨m, rfl⟩ := Int.eq_ofNat_of_zero_le (Int.le_of_lt hn)
  exact turn256_any w x m hx (by omega) (by omega)
theorem turn512_int (w : World) (x : Nat) (n : Int) (hx : x < 18446744073709551616) (hn : 0 < n) (hn' : n < 64) : Calls Tryz.prog 98 #[K512, .int .u64 x, .int .i64 n] w fun e w' => e = .returned (.int .u64 (rot 64 x n.toNat : Nat)) ∧ Below w.heap.size w w' := by
  obtain ⟨m, rfl⟩ := Int.eq_ofNat_of_zero_le (Int.le_of_lt hn)
  exact turn512_any w x m hx (by omega) (by omega)
end Go.Proofs.YtfaeigbfnjkojaaGreatDoor.Sha
namespace Go.Proofs.YtfaeigbfnjkojaaGreatDoor.Sha
open Go.RowKit
theorem xor_rot (W x a b : Nat) (hW : W = 32 ∨ W = 64) : bits .xor .u64 (rot W x a : Int) (rot W x b : Int) = ((rot W x a ^^^ rot W x b : Nat) : Int) := by
  have h : 2 ^ W ≤ 18446744073709551616 := by rcases hW with rfl | rfl <;> decide
  exact u64_xor_nat _ _ (Nat.lt_of_lt_of_le (rot_lt _ _ _) h) (Nat.lt_of_lt_of_le (rot_lt _ _ _) h)
theorem xor_rot2_lt (W x a b : Nat) : rot W x a ^^^ rot W x b < 2 ^ W := Nat.xor_lt_two_pow (rot_lt _ _ _) (rot_lt _ _ _)
theorem xor_three (W x a b c : Nat) (hW : W = 32 ∨ W = 64) : bits .xor .u64 ((rot W x a ^^^ rot W x b : Nat) : Int) (rot W x c : Int) = ((three W x a b c : Nat) : Int) := by
  have h : 2 ^ W ≤ 18446744073709551616 := by rcases hW with rfl | rfl <;> decide
  exact u64_xor_nat _ _ (Nat.lt_of_lt_of_le (xor_rot2_lt _ _ _ _) h) (Nat.lt_of_lt_of_le (rot_lt _ _ _) h)
theorem xor_threeS (W x a b c : Nat) (hW : W = 32 ∨ W = 64) (hx : x < 2 ^ W) : bits .xor .u64 ((rot W x a ^^^ rot W x b : Nat) : Int) ((x / 2 ^ c : Nat) : Int) = ((threeS W x a b c : Nat) : Int) := by
  have h : 2 ^ W ≤ 18446744073709551616 := by rcases hW with rfl | rfl <;> decide
  exact u64_xor_nat _ _ (Nat.lt_of_lt_of_le (xor_rot2_lt _ _ _ _) h) (Nat.lt_of_lt_of_le (Nat.lt_of_le_of_lt (Nat.div_le_self x _) hx) h)

theorem small256_any (w : World) (x : Nat) (a b c : Int) (hx : x < 4294967296) (ha : 0 < a) (ha2 : a < 32) (hb : 0 < b) (hb2 : b < 32) (hc : 0 ≤ c) (hc2 : c < 64) : Calls Tryz.prog 97 #[K256, .int .u64 x, .agg #[.int .i64 a, .int .i64 b, .int .i64 c]] w fun e w' => e = .returned (.int .u64 (threeS 32 x a.toNat b.toNat c.toNat : Nat)) ∧ Below w.heap.size w w' := by
  unfold K256
  have hm : min c.toNat 64 = c.toNat := by omega
  go_enter Tryz.func97, Tryz.ntmps97
  go_wp2_with fail
  generalize hW : World.alloc (World.alloc w _) _ = W
  have L := Rg.Later.cellOf (B := w.heap.size + 2) hW
  have hB : w.heap.size + 2 ≤ W.heap.size := by subst hW; simp
  have hBW : Below w.heap.size w W := by subst hW; exact ((Below.refl _ _).alloc (Nat.le_refl _) _).alloc (by simp) _
  have HK := Lib.hid (show Rg.Blk W w.heap.size 102 k256c by subst hW; exact (Rg.Blk.new _ _ _).alloc _)
  clear hW
  refine Rg.wp_region_later_all (w.heap.size + 2) (by kernel_rfl) (by kernel_rfl) ?_
  repeat (first | (go_big_quiet_want; refine Rg.quiet_load_row 102 _ rfl _ rfl _ _ _ (HK.out.later (by omega)) Tryz.underlying102 rfl (by kernel_rfl) ?_; simp only [Act.put, List.setIfInBounds_toArray, List.set_cons_succ, List.set_cons_zero]; go_big_quiet_on) | go_big_quiet_step (exact Rg.later_of hB (turn256_int _ _ _ hx (by assumption) (by assumption))))
  refine wpQuiet_nil ?_
  rintro _ ⟨s, rfl⟩
  go_wp2
  go_ret
  have hb : Below w.heap.size w s.val := hBW.trans (s.is.mono (by omega))
  refine ⟨?_, hb⟩
  show Ending.returned (.int .u64 (bits .xor .u64 (bits .xor .u64 (rot 32 x a.toNat : Int) (rot 32 x b.toNat : Int)) ((x : Int) / 2 ^ c.toNat))) = _
  rw [xor_rot 32 x _ _ (by decide), show (x : Int) / 2 ^ c.toNat = ((x / 2 ^ c.toNat : Nat) : Int) by rw [Int.natCast_ediv, Int.natCast_pow]; rfl, xor_threeS 32 x _ _ _ (by decide) hx]

theorem large256_any (w : World) (x : Nat) (a b c : Int) (hx : x < 4294967296) (ha : 0 < a) (ha2 : a < 32) (hb : 0 < b) (hb2 : b < 32) (hc : 0 < c) (hc2 : c < 32) : Calls Tryz.prog 87 #[K256, .int .u64 x, .agg #[.int .i64 a, .int .i64 b, .int .i64 c]] w fun e w' => e = .returned (.int .u64 (three 32 x a.toNat b.toNat c.toNat : Nat)) ∧ Below w.heap.size w w' := by
  unfold K256
  have hm : min c.toNat 64 = c.toNat := by omega
  go_enter Tryz.func87, Tryz.ntmps87
  go_wp2_with fail
  generalize hW : World.alloc (World.alloc w _) _ = W
  have L := Rg.Later.cellOf (B := w.heap.size + 2) hW
  have hB : w.heap.size + 2 ≤ W.heap.size := by subst hW; simp
  have hBW : Below w.heap.size w W := by subst hW; exact ((Below.refl _ _).alloc (Nat.le_refl _) _).alloc (by simp) _
  have HK := Lib.hid (show Rg.Blk W w.heap.size 102 k256c by subst hW; exact (Rg.Blk.new _ _ _).alloc _)
  clear hW
  refine Rg.wp_region_later_all (w.heap.size + 2) (by kernel_rfl) (by kernel_rfl) ?_
  repeat (first | (go_big_quiet_want; refine Rg.quiet_load_row 102 _ rfl _ rfl _ _ _ (HK.out.later (by omega)) Tryz.underlying102 rfl (by kernel_rfl) ?_; simp only [Act.put, List.setIfInBounds_toArray, List.set_cons_succ, List.set_cons_zero]; go_big_quiet_on) | go_big_quiet_step (exact Rg.later_of hB (turn256_int _ _ _ hx (by assumption) (by assumption))))
  refine wpQuiet_nil ?_
  rintro _ ⟨s, rfl⟩
  go_wp2
  go_ret
  have hb : Below w.heap.size w s.val := hBW.trans (s.is.mono (by omega))
  refine ⟨?_, hb⟩
  show Ending.returned (.int .u64 (bits .xor .u64 (bits .xor .u64 (rot 32 x a.toNat : Int) (rot 32 x b.toNat : Int)) (rot 32 x c.toNat : Int))) = _
  rw [xor_rot 32 x _ _ (by decide), xor_three 32 x _ _ _ (by decide)]

theorem small512_any (w : World) (x : Nat) (a b c : Int) (hx : x < 18446744073709551616) (ha : 0 < a) (ha2 : a < 64) (hb : 0 < b) (hb2 : b < 64) (hc : 0 ≤ c) (hc2 : c < 64) : Calls Tryz.prog 97 #[K512, .int .u64 x, .agg #[.int .i64 a, .int .i64 b, .int .i64 c]] w fun e w' => e = .returned (.int .u64 (threeS 64 x a.toNat b.toNat c.toNat : Nat)) ∧ Below w.heap.size w w' := by
  unfold K512
  have hm : min c.toNat 64 = c.toNat := by omega
  go_enter Tryz.func97, Tryz.ntmps97
  go_wp2_with fail
  generalize hW : World.alloc (World.alloc w _) _ = W
  have L := Rg.Later.cellOf (B := w.heap.size + 2) hW
  have hB : w.heap.size + 2 ≤ W.heap.size := by subst hW; simp
  have hBW : Below w.heap.size w W := by subst hW; exact ((Below.refl _ _).alloc (Nat.le_refl _) _).alloc (by simp) _
  have HK := Lib.hid (show Rg.Blk W w.heap.size 102 k512c by subst hW; exact (Rg.Blk.new _ _ _).alloc _)
  clear hW
  refine Rg.wp_region_later_all (w.heap.size + 2) (by kernel_rfl) (by kernel_rfl) ?_
  repeat (first | (go_big_quiet_want; refine Rg.quiet_load_row 102 _ rfl _ rfl _ _ _ (HK.out.later (by omega)) Tryz.underlying102 rfl (by kernel_rfl) ?_; simp only [Act.put, List.setIfInBounds_toArray, List.set_cons_succ, List.set_cons_zero]; go_big_quiet_on) | go_big_quiet_step (exact Rg.later_of hB (turn512_int _ _ _ hx (by assumption) (by assumption))))
  refine wpQuiet_nil ?_
  rintro _ ⟨s, rfl⟩
  go_wp2
  go_ret
  have hb : Below w.heap.size w s.val := hBW.trans (s.is.mono (by omega))
  refine ⟨?_, hb⟩
  show Ending.returned (.int .u64 (bits .xor .u64 (bits .xor .u64 (rot 64 x a.toNat : Int) (rot 64 x b.toNat : Int)) ((x : Int) / 2 ^ c.toNat))) = _
  rw [xor_rot 64 x _ _ (by decide), show (x : Int) / 2 ^ c.toNat = ((x / 2 ^ c.toNat : Nat) : Int) by rw [Int.natCast_ediv, Int.natCast_pow]; rfl, xor_threeS 64 x _ _ _ (by decide) hx]

theorem large512_any (w : World) (x : Nat) (a b c : Int) (hx : x < 18446744073709551616) (ha : 0 < a) (ha2 : a < 64) (hb : 0 < b) (hb2 : b < 64) (hc : 0 < c) (hc2 : c < 64) : Calls Tryz.prog 87 #[K512, .int .u64 x, .agg #[.int .i64 a, .int .i64 b, .int .i64 c]] w fun e w' => e = .returned (.int .u64 (three 64 x a.toNat b.toNat c.toNat : Nat)) ∧ Below w.heap.size w w' := by
  unfold K512
  have hm : min c.toNat 64 = c.toNat := by omega
  go_enter Tryz.func87, Tryz.ntmps87
  go_wp2_with fail
  generalize hW : World.alloc (World.alloc w _) _ = W
  have L := Rg.Later.cellOf (B := w.heap.size + 2) hW
  have hB : w.heap.size + 2 ≤ W.heap.size := by subst hW; simp
  have hBW : Below w.heap.size w W := by subst hW; exact ((Below.refl _ _).alloc (Nat.le_refl _) _).alloc (by simp) _
  have HK := Lib.hid (show Rg.Blk W w.heap.size 102 k512c by subst hW; exact (Rg.Blk.new _ _ _).alloc _)
  clear hW
  refine Rg.wp_region_later_all (w.heap.size + 2) (by kernel_rfl) (by kernel_rfl) ?_
  repeat (first | (go_big_quiet_want; refine Rg.quiet_load_row 102 _ rfl _ rfl _ _ _ (HK.out.later (by omega)) Tryz.underlying102 rfl (by kernel_rfl) ?_; simp only [Act.put, List.setIfInBounds_toArray, List.set_cons_succ, List.set_cons_zero]; go_big_quiet_on) | go_big_quiet_step (exact Rg.later_of hB (turn512_int _ _ _ hx (by assumption) (by assumption))))
  refine wpQuiet_nil ?_
  rintro _ ⟨s, rfl⟩
  go_wp2
  go_ret
  have hb : Below w.heap.size w s.val := hBW.trans (s.is.mono (by omega))
  refine ⟨?_, hb⟩
  show Ending.returned (.int .u64 (bits .xor .u64 (bits .xor .u64 (rot 64 x a.toNat : Int) (rot 64 x b.toNat : Int)) (rot 64 x c.toNat : Int))) = _
  rw [xor_rot 64 x _ _ (by decide), xor_three 64 x _ _ _ (by decide)]

end Go.Proofs.YtfaeigbfnjkojaaGreatDoor.Sha
namespace Go.Proofs.YtfaeigbfnjkojaaGreatDoor.Sha
open Go.RowKit Go.Proofs.YtfaeigbfnjkojaaGreatDoor.Cl
/-- the world holds both tables -/
structure Tables (w : World) : Prop where
  words : ∀ t, t < 80 → w.cell? ⟨22, t, none⟩ = some (.int .u64 (nth wordsL t : Nat))
  first : ∀ t, t < 8 → w.cell? ⟨21, t, none⟩ = some (.int .u64 (nth firstL t : Nat))
  size : 23 ≤ w.heap.size
theorem Tables.below {w w' : World} {B : Nat} (h : Tables w) (hb : Below B w w') (hB : 23 ≤ B) : Tables w' :=
  ⟨fun t ht => (hb.cell (p := ⟨22, t, none⟩) (Nat.lt_of_lt_of_le (by dsimp only; decide) hB)).trans (h.words t ht),
   fun t ht => (hb.cell (p := ⟨21, t, none⟩) (Nat.lt_of_lt_of_le (by dsimp only; decide) hB)).trans (h.first t ht),
   Nat.le_trans h.size hb.size⟩
theorem nth_words_lt (t : Nat) : nth wordsL t < 18446744073709551616 :=
  getD_lt (l := wordsL) (by decide) (by decide) t
end Go.Proofs.YtfaeigbfnjkojaaGreatDoor.Sha
