/- Numbers modulo 2^255 - 19 in five limbs, as the program reckons them. -/
import Derived.Test.YtfaeigbfnjkojaaGreatDoorGenA
set_option linter.unusedVariables false
set_option linter.unusedSimpArgs false
namespace Go.Proofs.YtfaeigbfnjkojaaGreatDoor.Kx
open Go.RowKit Go.Proofs.YtfaeigbfnjkojaaGreatDoor.Cl
def M : Nat := 18446744073709551616
def M2 : Nat := 340282366920938463463374607431768211456
def W : Nat := 2251799813685248
/-- five limbs -/
structure E where
  a : Nat
  b : Nat
  c : Nat
  d : Nat
  e : Nat
deriving DecidableEq
def E.l (x : E) : List Nat := [x.a, x.b, x.c, x.d, x.e]
theorem E.len (x : E) : x.l.length = 5 := rfl
/-- each fits in a word -/
def E.ok (x : E) : Prop := ∀ j, nth x.l j < M
/-- each has 51 bits, or little more -/
def E.fit (x : E) : Prop := ∀ j, nth x.l j ≤ M
def it {S : Type} (f : Nat → S → S) : Nat → S → S
  | 0, s => s
  | n + 1, s => f n (it f n s)
def carry : E → E
  | ⟨a, b, c, d, e⟩ =>
    let a1 := a % M
    let b1 := (b + a1 / W) % M
    let c1 := (c + b1 / W) % M
    let d1 := (d + c1 / W) % M
    let e1 := (e + d1 / W) % M
    ⟨(a1 % W + e1 / W * 19 % M) % M, b1 % W, c1 % W, d1 % W, e1 % W⟩
/-- a round of carry -/
def cr (i : Nat) (s : Nat × List Nat) : Nat × List Nat := ((nth s.2 i + s.1) % M / W, s.2.set i ((nth s.2 i + s.1) % M % W))
theorem carry_it (x : E) : (it cr 5 (0, x.l)).2.set 0 ((nth (it cr 5 (0, x.l)).2 0 + (it cr 5 (0, x.l)).1 * 19 % M) % M) = (carry x).l := by
  cases x
  simp [it, cr, nth, E.l, carry]
theorem cr_len (i : Nat) (s : Nat × List Nat) : (cr i s).2.length = s.2.length := by unfold cr; simp
theorem it_cr_len (n : Nat) (s : Nat × List Nat) : (it cr n s).2.length = s.2.length := by
  induction n with
  | zero => rfl
  | succ n ih => unfold it; rw [cr_len, ih]
theorem nth_cons0 (x : Nat) (l : List Nat) : nth (x :: l) 0 = x := rfl
theorem nth_set_ne {l : List Nat} {i j v : Nat} (h : i ≠ j) : nth (l.set i v) j = nth l j := by unfold nth; simp [List.getElem?_set, h]
theorem nth_set {l : List Nat} {i : Nat} (h : i < l.length) (v : Nat) : nth (l.set i v) i = v := by unfold nth; simp [h]
theorem mod_lt_M (x : Nat) : x % M < M := Nat.mod_lt _ (by decide)
theorem mod_lt_W (x : Nat) : x % W < W := Nat.mod_lt _ (by decide)
theorem W_lt_M : W < M := by decide
theorem E.ok5 {a b c d e : Nat} (ha : a < M) (hb : b < M) (hc : c < M) (hd : d < M) (he : e < M) : E.ok ⟨a, b, c, d, e⟩ := fun j => by
  match j with
  | 0 => exact ha
  | 1 => exact hb
  | 2 => exact hc
  | 3 => exact hd
  | 4 => exact he
  | j + 5 => simp [E.l, nth, M]
theorem carry_ok (x : E) : (carry x).ok := by
  cases x
  exact E.ok5 (mod_lt_M _) (Nat.lt_trans (mod_lt_W _) W_lt_M) (Nat.lt_trans (mod_lt_W _) W_lt_M) (Nat.lt_trans (mod_lt_W _) W_lt_M) (Nat.lt_trans (mod_lt_W _) W_lt_M)
def small (n : Nat) : E := ⟨n % W, n / W, 0, 0, 0⟩
/-- limb by limb -/
def zip2 (f : Nat → Nat → Nat) (ys : List Nat) (i : Nat) (l : List Nat) : List Nat := l.set i (f (nth l i) (nth ys i))
theorem it_zip_len (f : Nat → Nat → Nat) (ys : List Nat) (n : Nat) (l : List Nat) : (it (zip2 f ys) n l).length = l.length := by
  induction n with
  | zero => rfl
  | succ n ih => unfold it zip2; rw [List.length_set]; exact ih
def addF (x y : Nat) : Nat := (x + y) % M
def subF (x y : Nat) : Nat := (x + (M - y)) % M
def add1 : E → E → E
  | ⟨a, b, c, d, e⟩, ⟨a', b', c', d', e'⟩ => ⟨(a + a') % M, (b + b') % M, (c + c') % M, (d + d') % M, (e + e') % M⟩
def add (x y : E) : E := carry (add1 x y)
theorem add_it (x y : E) : it (zip2 addF y.l) 5 x.l = (add1 x y).l := by
  cases x; cases y
  simp [it, zip2, addF, nth, E.l, add1]
def tw : Nat := 4503599627370494
def tw0 : Nat := 4503599627370458
def subM (m x y : Nat) : Nat := (x + (m - y)) % m
def sub1g (m t0 t : Nat) : E → E → E
  | ⟨a, b, c, d, e⟩, ⟨a', b', c', d', e'⟩ => ⟨((a + t0) % m + (m - a')) % m, ((b + t) % m + (m - b')) % m, ((c + t) % m + (m - c')) % m, ((d + t) % m + (m - d')) % m, ((e + t) % m + (m - e')) % m⟩
def twG (m t : Nat) (j : Nat) (l : List Nat) : List Nat := l.set (j + 1) ((nth l (j + 1) + t) % m)
theorem sub_itg (m t0 t : Nat) (x y : E) : it (zip2 (subM m) y.l) 5 (it (twG m t) 4 (x.l.set 0 ((nth x.l 0 + t0) % m))) = (sub1g m t0 t x y).l := by
  cases x; cases y
  simp [it, zip2, twG, subM, nth, E.l, sub1g]
def sub1 (x y : E) : E := sub1g M tw0 tw x y
def sub (x y : E) : E := carry (sub1 x (carry y))
def twR (j : Nat) (l : List Nat) : List Nat := twG M tw j l
theorem it_tw_len (n : Nat) (l : List Nat) : (it twR n l).length = l.length := by
  induction n with
  | zero => rfl
  | succ n ih => unfold it twR twG; rw [List.length_set]; exact ih
theorem sub_it (x y : E) : it (zip2 subF y.l) 5 (it twR 4 (x.l.set 0 ((nth x.l 0 + tw0) % M))) = (sub1 x y).l := sub_itg M tw0 tw x y
def mulT (xs ys : List Nat) (i k : Nat) (ts : List Nat) : List Nat :=
  if i + k < 5 then ts.set (i + k) (nth ts (i + k) + nth xs i * nth ys k) else ts.set (i + k - 5) (nth ts (i + k - 5) + nth xs i * 19 % M * nth ys k)
def mulR (xs ys : List Nat) (i : Nat) (ts : List Nat) : List Nat := it (mulT xs ys i) 5 ts
def mulS (xs ys : List Nat) : List Nat := it (mulR xs ys) 5 [0, 0, 0, 0, 0]
theorem mulT_len (xs ys : List Nat) (i k : Nat) (ts : List Nat) : (mulT xs ys i k ts).length = ts.length := by unfold mulT; split <;> simp
theorem it_mulT_len (xs ys : List Nat) (i n : Nat) (ts : List Nat) : (it (mulT xs ys i) n ts).length = ts.length := by
  induction n with
  | zero => rfl
  | succ n ih => unfold it; rw [mulT_len, ih]
theorem it_mulR_len (xs ys : List Nat) (n : Nat) (ts : List Nat) : (it (mulR xs ys) n ts).length = ts.length := by
  induction n with
  | zero => rfl
  | succ n ih => rw [show it (mulR xs ys) (n + 1) ts = it (mulT xs ys n) 5 (it (mulR xs ys) n ts) from rfl, it_mulT_len, ih]
/-- a round of what Mul does with the sums -/
def rd (ts : List Nat) (i : Nat) (s : Nat × List Nat) : Nat × List Nat := ((nth ts i + s.1) % M2 / W % M, s.2.set i ((nth ts i + s.1) % M2 % W))
theorem it_rd_len (ts : List Nat) (n : Nat) (s : Nat × List Nat) : (it (rd ts) n s).2.length = s.2.length := by
  induction n with
  | zero => rfl
  | succ n ih => unfold it rd; rw [List.length_set]; exact ih
theorem it_rd_c (ts : List Nat) (n : Nat) : (it (rd ts) n (0, [0, 0, 0, 0, 0])).1 < M := by
  cases n with
  | zero => show (0 : Nat) < M; decide
  | succ n => unfold it rd; exact mod_lt_M _
def mul : E → E → E
  | ⟨a0, a1, a2, a3, a4⟩, ⟨b0, b1, b2, b3, b4⟩ =>
    let c1 := a1 * 19 % M
    let c2 := a2 * 19 % M
    let c3 := a3 * 19 % M
    let c4 := a4 * 19 % M
    let s0 := (a0 * b0 + c1 * b4 + c2 * b3 + c3 * b2 + c4 * b1) % M2
    let s1 := (a0 * b1 + a1 * b0 + c2 * b4 + c3 * b3 + c4 * b2 + s0 / W % M) % M2
    let s2 := (a0 * b2 + a1 * b1 + a2 * b0 + c3 * b4 + c4 * b3 + s1 / W % M) % M2
    let s3 := (a0 * b3 + a1 * b2 + a2 * b1 + a3 * b0 + c4 * b4 + s2 / W % M) % M2
    let s4 := (a0 * b4 + a1 * b3 + a2 * b2 + a3 * b1 + a4 * b0 + s3 / W % M) % M2
    let t := (s4 / W % M * 19 + s0 % W)
    carry ⟨t % W, (s1 % W + t / W % M) % M, s2 % W, s3 % W, s4 % W⟩
theorem mulS_eq (a0 a1 a2 a3 a4 b0 b1 b2 b3 b4 : Nat) : mulS [a0, a1, a2, a3, a4] [b0, b1, b2, b3, b4] =
    [a0 * b0 + a1 * 19 % M * b4 + a2 * 19 % M * b3 + a3 * 19 % M * b2 + a4 * 19 % M * b1,
     a0 * b1 + a1 * b0 + a2 * 19 % M * b4 + a3 * 19 % M * b3 + a4 * 19 % M * b2,
     a0 * b2 + a1 * b1 + a2 * b0 + a3 * 19 % M * b4 + a4 * 19 % M * b3,
     a0 * b3 + a1 * b2 + a2 * b1 + a3 * b0 + a4 * 19 % M * b4,
     a0 * b4 + a1 * b3 + a2 * b2 + a3 * b1 + a4 * b0] := by
  simp [mulS, mulR, mulT, it, nth]
/-- what Mul makes of the sums -/
def mulE (x y : E) : E :=
  let s := it (rd (mulS x.l y.l)) 5 (0, [0, 0, 0, 0, 0])
  let t := s.1 * 19 + nth s.2 0
  carry ⟨t % W, (nth s.2 1 + t / W % M) % M, nth s.2 2, nth s.2 3, nth s.2 4⟩
theorem mulE_eq (x y : E) : mulE x y = mul x y := by
  cases x; cases y
  simp only [mulE, E.l, mulS_eq]
  simp [it, rd, nth, mul]
theorem mul_ok (x y : E) : (mul x y).ok := by rw [← mulE_eq]; unfold mulE; exact carry_ok _
def sq (x : E) : E := mul x x
def least1 : E → E
  | ⟨a, b, c, d, e⟩ =>
    let k := (e + (d + (c + (b + (a + 19) % M / W) % M / W) % M / W) % M / W) % M / W
    let a1 := (a + k * 19 % M) % M
    let b1 := (b + a1 / W) % M
    let c1 := (c + b1 / W) % M
    let d1 := (d + c1 / W) % M
    let e1 := (e + d1 / W) % M
    ⟨a1 % W, b1 % W, c1 % W, d1 % W, e1 % W⟩
def least (x : E) : E := least1 (carry (carry x))
def lc (l : List Nat) (i : Nat) (c : Nat) : Nat := (nth l i + c) % M / W
theorem least_it (x : E) : (it cr 5 (0, x.l.set 0 ((nth x.l 0 + it (lc x.l) 5 19 * 19 % M) % M))).2 = (least1 x).l := by
  cases x
  simp [it, cr, lc, nth, E.l, least1]
theorem least_fit (x : E) : ∀ j, nth (least x).l j < W := by
  unfold least
  cases carry (carry x)
  intro j
  match j with
  | 0 => exact mod_lt_W _
  | 1 => exact mod_lt_W _
  | 2 => exact mod_lt_W _
  | 3 => exact mod_lt_W _
  | 4 => exact mod_lt_W _
  | j + 5 => simp [E.l, nth, W]
def zero (x : E) : Bool := least x == ⟨0, 0, 0, 0, 0⟩
/-- a to the power: k squarings done -/
def pw (low : Nat) (x : E) : Nat → E
  | 0 => small 1
  | k + 1 => let o := sq (pw low x k); if (decide (8 ≤ 254 - k) || low / 2 ^ (254 - k) % 2 == 1) = true then mul o x else o
end Go.Proofs.YtfaeigbfnjkojaaGreatDoor.Kx
