/- Plain mathematics of the two hashes: the rounds. -/
import Derived.Test.YtfaeigbfnjkojaaGreatDoorShaMath
set_option linter.unusedVariables false
set_option linter.unusedSimpArgs false
namespace Go.Proofs.YtfaeigbfnjkojaaGreatDoor.Sha
open Go.Proofs.YtfaeigbfnjkojaaGreatDoor.Cl (nth nth_getD)

def wordsL : List Nat := [4794697086780616226, 8158064640168781261, 13096744586834688815, 16840607885511220156, 4131703408338449720, 6480981068601479193, 10538285296894168987, 12329834152419229976, 15566598209576043074, 1334009975649890238, 2608012711638119052, 6128411473006802146, 8268148722764581231, 9286055187155687089, 11230858885718282805, 13951009754708518548, 16472876342353939154, 17275323862435702243, 1135362057144423861, 2597628984639134821, 3308224258029322869, 5365058923640841347, 6679025012923562964, 8573033837759648693, 10970295158949994411, 12119686244451234320, 12683024718118986047, 13788192230050041572, 14330467153632333762, 15395433587784984357, 489312712824947311, 1452737877330783856, 2861767655752347644, 3322285676063803686, 5560940570517711597, 5996557281743188959, 7280758554555802590, 8532644243296465576, 9350256976987008742, 10552545826968843579, 11727347734174303076, 12113106623233404929, 14000437183269869457, 14369950271660146224, 15101387698204529176, 15463397548674623760, 17586052441742319658, 1182934255886127544, 1847814050463011016, 2177327727835720531, 2830643537854262169, 3796741975233480872, 4115178125766777443, 5681478168544905931, 6601373596472566643, 7507060721942968483, 8399075790359081724, 8693463985226723168, 9568029438360202098, 10144078919501101548, 10430055236837252648, 11840083180663258601, 13761210420658862357, 14299343276471374635, 14566680578165727644, 15097957966210449927, 16922976911328602910, 17689382322260857208, 500013540394364858, 748580250866718886, 1242879168328830382, 1977374033974150939, 2944078676154940804, 3659926193048069267, 4368137639120453308, 4836135668995329356, 5532061633213252278, 6448918945643986474, 6902733635092675308, 7801388544844847127]
def firstL : List Nat := [7640891576956012808, 13503953896175478587, 4354685564936845355, 11912009170470909681, 5840696475078001361, 11170449401992604703, 2270897969802886507, 6620516959819538809]

/-- all words of a block, in 80 places; the name is not opened by unification -/
@[irreducible] def msg (W : Nat) (blk : List UInt8) : List Nat := pad80 (sched W blk (if W = 32 then 64 else 80))
theorem msg32 (blk : List UInt8) : msg 32 blk = pad80 (sched 32 blk 64) := by unfold msg; rfl
theorem msg64 (blk : List UInt8) : msg 64 blk = pad80 (sched 64 blk 80) := by unfold msg; rfl
theorem msg_length (W : Nat) (blk : List UInt8) : (msg W blk).length = 80 := by
  unfold msg; split <;> exact pad80_length _ (by rw [sched_length]; decide)
/-- the constant of round t -/
def hi32 (x : Nat) : Nat := x / 4294967296
def kw (W t : Nat) : Nat := if W = 32 then hi32 (nth wordsL t) else nth wordsL t
def add64 (a b : Nat) : Nat := (a + b) % 18446744073709551616
def not64 (a : Nat) : Nat := 18446744073709551615 - a
def ch (a b c : Nat) : Nat := (a &&& b) ^^^ (not64 a &&& c)
def mj (a b c : Nat) : Nat := ((a &&& b) ^^^ (a &&& c)) ^^^ (b &&& c)
def t1 (W : Nat) (x : List Nat) (k w : Nat) : Nat := add64 (add64 (add64 (add64 (nth x 7) (ep1 W (nth x 4))) (ch (nth x 4) (nth x 5) (nth x 6))) k) w
def t2 (W : Nat) (x : List Nat) : Nat := add64 (ep0 W (nth x 0)) (mj (nth x 0) (nth x 1) (nth x 2))
theorem add64_lt (a b : Nat) : add64 a b < 18446744073709551616 := by unfold add64; omega
theorem wrap_add64 (a b : Nat) : IntKind.u64.wrap ((a : Int) + (b : Int)) = (add64 a b : Int) := by
  rw [IntKind.wrap_u64]; unfold add64; omega
theorem and_lt64 {a : Nat} (b : Nat) (h : a < 18446744073709551616) : a &&& b < 18446744073709551616 := Nat.lt_of_le_of_lt Nat.and_le_left h
theorem xor_lt64 {a b : Nat} (h : a < 18446744073709551616) (h' : b < 18446744073709551616) : a ^^^ b < 18446744073709551616 := Nat.xor_lt_two_pow (n := 64) h h'
theorem not64_lt (a : Nat) : not64 a < 18446744073709551616 := by unfold not64; omega
theorem not_u64 (a : Nat) (h : a < 18446744073709551616) : bits .xor .u64 IntKind.u64.max (a : Int) = (not64 a : Int) := by
  have e : IntKind.u64.max = ((18446744073709551615 : Nat) : Int) := rfl
  rw [e, u64_xor_nat _ _ (by decide) h]
  congr 1
  have : (18446744073709551615 : Nat) = 2 ^ 64 - 1 := by decide
  unfold not64
  rw [this]
  apply Nat.eq_of_testBit_eq
  intro i
  rw [Nat.testBit_xor, Nat.testBit_two_pow_sub_one, show 2 ^ 64 - 1 - a = 2 ^ 64 - (a + 1) by omega, Nat.testBit_two_pow_sub_succ h]
  by_cases hi : i < 64
  · simp [hi]
  · have : a.testBit i = false := Nat.testBit_lt_two_pow (Nat.lt_of_lt_of_le h (Nat.pow_le_pow_right (n := 2) (by decide) (by omega : 64 ≤ i)))
    simp [hi, this]
theorem ch_e1 (a b : Nat) (ha : a < 18446744073709551616) (hb : b < 18446744073709551616) : bits .and .u64 (a : Int) (b : Int) = ((a &&& b : Nat) : Int) := u64_and_nat a b ha hb
theorem ch_e3 (a c : Nat) (hc : c < 18446744073709551616) : bits .and .u64 (not64 a : Int) (c : Int) = ((not64 a &&& c : Nat) : Int) := u64_and_nat _ _ (not64_lt a) hc
theorem ch_e4 (a b c : Nat) (ha : a < 18446744073709551616) : bits .xor .u64 ((a &&& b : Nat) : Int) ((not64 a &&& c : Nat) : Int) = (ch a b c : Int) :=
  u64_xor_nat _ _ (and_lt64 _ ha) (and_lt64 _ (not64_lt a))
theorem mj_e1 (a b c : Nat) (ha : a < 18446744073709551616) : bits .xor .u64 ((a &&& b : Nat) : Int) ((a &&& c : Nat) : Int) = (((a &&& b) ^^^ (a &&& c) : Nat) : Int) :=
  u64_xor_nat _ _ (and_lt64 _ ha) (and_lt64 _ ha)
theorem mj_e2 (a b c : Nat) (ha : a < 18446744073709551616) (hb : b < 18446744073709551616) : bits .xor .u64 (((a &&& b) ^^^ (a &&& c) : Nat) : Int) ((b &&& c : Nat) : Int) = (mj a b c : Int) :=
  u64_xor_nat _ _ (xor_lt64 (and_lt64 _ ha) (and_lt64 _ ha)) (and_lt64 _ hb)
def mixRound (W : Nat) (x : List Nat) (k w : Nat) : List Nat :=
  [(t1 W x k w + t2 W x) % 2 ^ W, nth x 0, nth x 1, nth x 2, (nth x 3 + t1 W x k w) % 2 ^ W, nth x 4, nth x 5, nth x 6]
/-- the eight words after t rounds -/
def mixTo (W : Nat) (ws h : List Nat) : Nat → List Nat
  | 0 => h
  | t + 1 => mixRound W (mixTo W ws h t) (kw W t) (nth ws t)
@[irreducible] def mixAll (W : Nat) (blk : List UInt8) (h : List Nat) : List Nat := mixTo W (msg W blk) h (if W = 32 then 64 else 80)
theorem mixAll32 (blk : List UInt8) (h : List Nat) : mixAll 32 blk h = mixTo 32 (msg 32 blk) h 64 := by unfold mixAll; rfl
theorem mixAll64 (blk : List UInt8) (h : List Nat) : mixAll 64 blk h = mixTo 64 (msg 64 blk) h 80 := by unfold mixAll; rfl
/-- a block mixed into the words h -/
def mixed (W : Nat) (blk : List UInt8) (h : List Nat) : List Nat :=
  let x := mixAll W blk h
  (List.range 8).map fun i => (nth h i + nth x i) % 2 ^ W
theorem mixTo_length (W : Nat) (ws h : List Nat) (hh : h.length = 8) (t : Nat) : (mixTo W ws h t).length = 8 := by
  cases t with
  | zero => exact hh
  | succ t => rfl
theorem mixTo_lt (W : Nat) (ws h : List Nat) (hh : ∀ i, nth h i < 2 ^ W) (t : Nat) : ∀ i, nth (mixTo W ws h t) i < 2 ^ W := by
  have hW : 0 < 2 ^ W := Nat.two_pow_pos W
  induction t with
  | zero => exact hh
  | succ t ih =>
    intro i
    have h0 := Nat.mod_lt (t1 W (mixTo W ws h t) (kw W t) (nth ws t) + t2 W (mixTo W ws h t)) hW
    have h4 := Nat.mod_lt (nth (mixTo W ws h t) 3 + t1 W (mixTo W ws h t) (kw W t) (nth ws t)) hW
    match i with
    | 0 => exact h0
    | 1 => exact ih 0
    | 2 => exact ih 1
    | 3 => exact ih 2
    | 4 => exact h4
    | 5 => exact ih 4
    | 6 => exact ih 5
    | 7 => exact ih 6
    | i + 8 => exact hW
end Go.Proofs.YtfaeigbfnjkojaaGreatDoor.Sha
