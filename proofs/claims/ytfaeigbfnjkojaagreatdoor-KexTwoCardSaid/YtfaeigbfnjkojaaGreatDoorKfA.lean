/- Numbers modulo 2^255 - 19 in five limbs, as the program reckons them. The field's carry, Small, Choose. The field's Add. The field's Sub. A product's limb in two words: a product is added. A product is added to a sum in two words: the walk. Two words and what is carried, plainly. -/
import Derived.Test.YtfaeigbfnjkojaaGreatDoorGenA
import Derived.Laws.BitsAllLaws
import Derived.Test.YtfaeigbfnjkojaaGreatDoorShelf
import Derived.Test.YtfaeigbfnjkojaaGreatDoorRows
import Derived.Says
import Derived.Laws.Externs
import Derived.Shelf.Spec.BitsCarry
set_option linter.unusedVariables false
set_option linter.unusedSimpArgs false
namespace Go.Proofs.YtfaeigbfnjkojaaGreatDoor.Kx
open Go.RowKit Go.Proofs.YtfaeigbfnjkojaaGreatDoor.Cl
def M : Nat := 18446744073709551616
def M2 : Nat := 340282366920938463463374607431768211456
def W : Nat := 2251799813685248
/-- five limbs -/
structure E where
  a : Nat
  b : Nat
  c : Nat
  d : Nat
  e : Nat
deriving DecidableEq
def E.l (x : E) : List Nat := [x.a, x.b, x.c, x.d, x.e]
theorem E.len (x : E) : x.l.length = 5 := rfl
/-- each fits in a word -/
def E.ok (x : E) : Prop := ∀ j, nth x.l j < M
/-- each has 51 bits, or little more -/
def E.fit (x : E) : Prop := ∀ j, nth x.l j ≤ M
def it {S : Type} (f : Nat → S → S) : Nat → S → S
  | 0, s => s
  | n + 1, s => f n (it f n s)
def carry : E → E
  | ⟨a, b, c, d, e⟩ =>
    let a1 := a % M
    let b1 := (b + a1 / W) % M
    let c1 := (c + b1 / W) % M
    let d1 := (d + c1 / W) % M
    let e1 := (e + d1 / W) % M
    ⟨(a1 % W + e1 / W * 19 % M) % M, b1 % W, c1 % W, d1 % W, e1 % W⟩
/-- a round of carry -/
def cr (i : Nat) (s : Nat × List Nat) : Nat × List Nat := ((nth s.2 i + s.1) % M / W, s.2.set i ((nth s.2 i + s.1) % M % W))
theorem carry_it (x : E) : (it cr 5 (0, x.l)).2.set 0 ((nth (it cr 5 (0, x.l)).2 0 + (it cr 5 (0, x.l)).1 * 19 % M) % M) = (carry x).l := by
  cases x
  simp [it, cr, nth, E.l, carry]
theorem cr_len (i : Nat) (s : Nat × List Nat) : (cr i s).2.length = s.2.length := by unfold cr; simp
theorem it_cr_len (n : Nat) (s : Nat × List Nat) : (it cr n s).2.length = s.2.length := by
  induction n with
  | zero => rfl
  | succ n ih => unfold it; rw [cr_len, ih]
theorem nth_cons0 (x : Nat) (l : List Nat) : nth (x :: l) 0 = x := rfl
theorem nth_set_ne {l : List Nat} {i j v : Nat} (h : i ≠ j) : nth (l.set i v) j = nth l j := by unfold nth; simp [List.getElem?_set, h]
theorem nth_set {l : List Nat} {i : Nat} (h : i < l.length) (v : Nat) : nth (l.set i v) i = v := by unfold nth; simp [h]
theorem mod_lt_M (x : Nat) : x % M < M := Nat.mod_lt _ (by decide)
theorem mod_lt_W (x : Nat) : x % W < W := Nat.mod_lt _ (by decide)
theorem W_lt_M : W < M := by decide
theorem E.ok5 {a b c d e : Nat} (ha : a < M) (hb : b < M) (hc : c < M) (hd : d < M) (he : e < M) : E.ok ⟨a, b, c, d, e⟩ := fun j => by
  match j with
  | 0 => exact ha
  | 1 => exact hb
  | 2 => exact hc
  | 3 => exact hd
  | 4 => exact he
  | j + 5 => simp [E.l, nth, M]
theorem carry_ok (x : E) : (carry x).ok := by
  cases x
  exact E.ok5 (mod_lt_M _) (Nat.lt_trans (mod_lt_W _) W_lt_M) (Nat.lt_trans (mod_lt_W _) W_lt_M) (Nat.lt_trans (mod_lt_W _) W_lt_M) (Nat.lt_trans (mod_lt_W _) W_lt_M)
def small (n : Nat) : E := ⟨n % W, n / W, 0, 0, 0⟩
/-- limb by limb -/
def zip2 (f : Nat → Nat → Nat) (ys : List Nat) (i : Nat) (l : List Nat) : List Nat := l.set i (f (nth l i) (nth ys i))
theorem it_zip_len (f : Nat → Nat → Nat) (ys : List Nat) (n : Nat) (l : List Nat) : (it (zip2 f ys) n l).length = l.length := by
  induction n with
  | zero => rfl
  | succ n ih => unfold it zip2; rw [List.length_set]; exact ih
def addF (x y : Nat) : Nat := (x + y) % M
def subF (x y : Nat) : Nat := (x + (M - y)) % M
def add1 : E → E → E
  | ⟨a, b, c, d, e⟩, ⟨a', b', c', d', e'⟩ => ⟨(a + a') % M, (b + b') % M, (c + c') % M, (d + d') % M, (e + e') % M⟩
def add (x y : E) : E := carry (add1 x y)
theorem add_it (x y : E) : it (zip2 addF y.l) 5 x.l = (add1 x y).l := by
  cases x; cases y
  simp [it, zip2, addF, nth, E.l, add1]
def tw : Nat := 4503599627370494
def tw0 : Nat := 4503599627370458
def subM (m x y : Nat) : Nat := (x + (m - y)) % m
def sub1g (m t0 t : Nat) : E → E → E
  | ⟨a, b, c, d, e⟩, ⟨a', b', c', d', e'⟩ => ⟨((a + t0) % m + (m - a')) % m, ((b + t) % m + (m - b')) % m, ((c + t) % m + (m - c')) % m, ((d + t) % m + (m - d')) % m, ((e + t) % m + (m - e')) % m⟩
def twG (m t : Nat) (j : Nat) (l : List Nat) : List Nat := l.set (j + 1) ((nth l (j + 1) + t) % m)
theorem sub_itg (m t0 t : Nat) (x y : E) : it (zip2 (subM m) y.l) 5 (it (twG m t) 4 (x.l.set 0 ((nth x.l 0 + t0) % m))) = (sub1g m t0 t x y).l := by
  cases x; cases y
  simp [it, zip2, twG, subM, nth, E.l, sub1g]
def sub1 (x y : E) : E := sub1g M tw0 tw x y
def sub (x y : E) : E := carry (sub1 x (carry y))
def twR (j : Nat) (l : List Nat) : List Nat := twG M tw j l
theorem it_tw_len (n : Nat) (l : List Nat) : (it twR n l).length = l.length := by
  induction n with
  | zero => rfl
  | succ n ih => unfold it twR twG; rw [List.length_set]; exact ih
theorem sub_it (x y : E) : it (zip2 subF y.l) 5 (it twR 4 (x.l.set 0 ((nth x.l 0 + tw0) % M))) = (sub1 x y).l := sub_itg M tw0 tw x y
def mulT (xs ys : List Nat) (i k : Nat) (ts : List Nat) : List Nat :=
  if i + k < 5 then ts.set (i + k) (nth ts (i + k) + nth xs i * nth ys k) else ts.set (i + k - 5) (nth ts (i + k - 5) + nth xs i * 19 % M * nth ys k)
def mulR (xs ys : List Nat) (i : Nat) (ts : List Nat) : List Nat := it (mulT xs ys i) 5 ts
def mulS (xs ys : List Nat) : List Nat := it (mulR xs ys) 5 [0, 0, 0, 0, 0]
theorem mulT_len (xs ys : List Nat) (i k : Nat) (ts : List Nat) : (mulT xs ys i k ts).length = ts.length := by unfold mulT; split <;> simp
theorem it_mulT_len (xs ys : List Nat) (i n : Nat) (ts : List Nat) : (it (mulT xs ys i) n ts).length = ts.length := by
  induction n with
  | zero => rfl
  | succ n ih => unfold it; rw [mulT_len, ih]
theorem it_mulR_len (xs ys : List Nat) (n : Nat) (ts : List Nat) : (it (mulR xs ys) n ts).length = ts.length := by
  induction n with
  | zero => rfl
  | succ n ih => rw [show it (mulR xs ys) (n + 1) ts = it (mulT xs ys n) 5 (it (mulR xs ys) n ts) from rfl, it_mulT_len, ih]
/-- a round of what Mul does with the sums -/
def rd (ts : List Nat) (i : Nat) (s : Nat × List Nat) : Nat × List Nat := ((nth ts i + s.1) % M2 / W % M, s.2.set i ((nth ts i + s.1) % M2 % W))
theorem it_rd_len (ts : List Nat) (n : Nat) (s : Nat × List Nat) : (it (rd ts) n s).2.length = s.2.length := by
  induction n with
  | zero => rfl
  | succ n ih => unfold it rd; rw [List.length_set]; exact ih
theorem it_rd_c (ts : List Nat) (n : Nat) : (it (rd ts) n (0, [0, 0, 0, 0, 0])).1 < M := by
  cases n with
  | zero => show (0 : Nat) < M; decide
  | succ n => unfold it rd; exact mod_lt_M _
def mul : E → E → E
  | ⟨a0, a1, a2, a3, a4⟩, ⟨b0, b1, b2, b3, b4⟩ =>
    let c1 := a1 * 19 % M
    let c2 := a2 * 19 % M
    let c3 := a3 * 19 % M
    let c4 := a4 * 19 % M
    let s0 := (a0 * b0 + c1 * b4 + c2 * b3 + c3 * b2 + c4 * b1) % M2
    let s1 := (a0 * b1 + a1 * b0 + c2 * b4 + c3 * b3 + c4 * b2 + s0 / W % M) % M2
    let s2 := (a0 * b2 + a1 * b1 + a2 * b0 + c3 * b4 + c4 * b3 + s1 / W % M) % M2
    let s3 := (a0 * b3 + a1 * b2 + a2 * b1 + a3 * b0 + c4 * b4 + s2 / W % M) % M2
    let s4 := (a0 * b4 + a1 * b3 + a2 * b2 + a3 * b1 + a4 * b0 + s3 / W % M) % M2
    let t := (s4 / W % M * 19 + s0 % W)
    carry ⟨t % W, (s1 % W + t / W % M) % M, s2 % W, s3 % W, s4 % W⟩
theorem mulS_eq (a0 a1 a2 a3 a4 b0 b1 b2 b3 b4 : Nat) : mulS [a0, a1, a2, a3, a4] [b0, b1, b2, b3, b4] =
    [a0 * b0 + a1 * 19 % M * b4 + a2 * 19 % M * b3 + a3 * 19 % M * b2 + a4 * 19 % M * b1,
     a0 * b1 + a1 * b0 + a2 * 19 % M * b4 + a3 * 19 % M * b3 + a4 * 19 % M * b2,
     a0 * b2 + a1 * b1 + a2 * b0 + a3 * 19 % M * b4 + a4 * 19 % M * b3,
     a0 * b3 + a1 * b2 + a2 * b1 + a3 * b0 + a4 * 19 % M * b4,
     a0 * b4 + a1 * b3 + a2 * b2 + a3 * b1 + a4 * b0] := by
  simp [mulS, mulR, mulT, it, nth]
/-- what Mul makes of the sums -/
def mulE (x y : E) : E :=
  let s := it (rd (mulS x.l y.l)) 5 (0, [0, 0, 0, 0, 0])
  let t := s.1 * 19 + nth s.2 0
  carry ⟨t % W, (nth s.2 1 + t / W % M) % M, nth s.2 2, nth s.2 3, nth s.2 4⟩
theorem mulE_eq (x y : E) : mulE x y = mul x y := by
  cases x; cases y
  simp only [mulE, E.l, mulS_eq]
  simp [it, rd, nth, mul]
theorem mul_ok (x y : E) : (mul x y).ok := by rw [← mulE_eq]; unfold mulE; exact carry_ok _
def sq (x : E) : E := mul x x
def least1 : E → E
  | ⟨a, b, c, d, e⟩ =>
    let k := (e + (d + (c + (b + (a + 19) % M / W) % M / W) % M / W) % M / W) % M / W
    let a1 := (a + k * 19 % M) % M
    let b1 := (b + a1 / W) % M
    let c1 := (c + b1 / W) % M
    let d1 := (d + c1 / W) % M
    let e1 := (e + d1 / W) % M
    ⟨a1 % W, b1 % W, c1 % W, d1 % W, e1 % W⟩
def least (x : E) : E := least1 (carry (carry x))
def lc (l : List Nat) (i : Nat) (c : Nat) : Nat := (nth l i + c) % M / W
theorem least_it (x : E) : (it cr 5 (0, x.l.set 0 ((nth x.l 0 + it (lc x.l) 5 19 * 19 % M) % M))).2 = (least1 x).l := by
  cases x
  simp [it, cr, lc, nth, E.l, least1]
theorem least_fit (x : E) : ∀ j, nth (least x).l j < W := by
  unfold least
  cases carry (carry x)
  intro j
  match j with
  | 0 => exact mod_lt_W _
  | 1 => exact mod_lt_W _
  | 2 => exact mod_lt_W _
  | 3 => exact mod_lt_W _
  | 4 => exact mod_lt_W _
  | j + 5 => simp [E.l, nth, W]
def zero (x : E) : Bool := least x == ⟨0, 0, 0, 0, 0⟩
/-- a to the power: k squarings done -/
def pw (low : Nat) (x : E) : Nat → E
  | 0 => small 1
  | k + 1 => let o := sq (pw low x k); if (decide (8 ≤ 254 - k) || low / 2 ^ (254 - k) % 2 == 1) = true then mul o x else o
end Go.Proofs.YtfaeigbfnjkojaaGreatDoor.Kx
namespace Go.Proofs.YtfaeigbfnjkojaaGreatDoor.Kx
open Go.RowKit Go.Proofs.YtfaeigbfnjkojaaGreatDoor.Cl
theorem wrapM (x : Nat) : IntKind.u64.wrap (x : Int) = ((x % M : Nat) : Int) := by rw [IntKind.wrap_u64]; unfold M; omega
theorem wrap_add (x y : Nat) : IntKind.u64.wrap ((x : Int) + (y : Int)) = (((x + y) % M : Nat) : Int) := by rw [← wrapM]; congr 1
theorem wrap_mul (x y : Nat) : IntKind.u64.wrap ((x : Int) * (y : Int)) = ((x * y % M : Nat) : Int) := by rw [← wrapM]; congr 1
theorem and_mask (x : Nat) (hx : x < M) : bits .and .u64 (x : Int) 2251799813685247 = ((x % W : Nat) : Int) := by
  have h := u64_and_nat x 2251799813685247 hx (by decide)
  rw [show ((2251799813685247 : Nat) : Int) = 2251799813685247 from rfl] at h
  rw [h]
  have h2 := Nat.and_two_pow_sub_one_eq_mod x 51
  rw [show (2 ^ 51 - 1 : Nat) = 2251799813685247 from rfl, show (2 ^ 51 : Nat) = W from rfl] at h2
  rw [h2]
theorem gate_ {P : Program} {ops : Array Oper} {rest : List Oper} {o : Oper} {a : Act} {w : World} {Q : Exit → Act → World → Prop} (h : wpList P ops Q (o :: rest) a w) : wpList P ops Q (o :: rest) a w := h
theorem row_blk {w : World} {b T : Nat} {xs : List Nat} (h : Row w b T xs) : Rg.Blk w b T (u64s xs) := h
theorem blk_other {w w' : World} {b g T : Nat} {cs : Array Value} (h : Rg.Blk w b T cs) (hg : w.grownBy w' (some g)) (hn : g ≠ b) : Rg.Blk w' b T cs := by
  have hl := h.lt
  unfold Rg.Blk at *
  rw [hg.block b hl (fun e => hn (Option.some.inj e).symm)]; exact h
theorem _root_.Go.RowKit.Below.size_le {B : Nat} {w w' : World} (h : Below B w w') (hB : w.heap.size = B) : B ≤ w'.heap.size := hB ▸ h.size
theorem row_set_cell {w : World} {b T j v : Nat} {l : List Nat} (h : Row w b T (l.set j v)) (hj : j < l.length) : w.cell? ⟨b, j, none⟩ = some (.int .u64 (v : Nat)) := by
  have h1 := h.cell j (by rw [List.length_set]; exact hj)
  rw [nth_set hj] at h1
  exact h1
def Z5 : Array Value := #[.int .u64 0, .int .u64 0, .int .u64 0, .int .u64 0, .int .u64 0]
theorem cr_eq (i : Nat) (s : Nat × List Nat) : cr i s = ((nth s.2 i + s.1) % M / W, s.2.set i ((nth s.2 i + s.1) % M % W)) := rfl
theorem u64s_size (x : E) : (u64s x.l).size = 5 := rfl
set_option maxRecDepth 20000 in
set_option maxHeartbeats 2000000 in
theorem carry_any (w : World) (x : E) : Calls Tryz.prog 46 #[.agg (u64s x.l)] w fun e w' => e = .returned (.agg (u64s (carry x).l)) ∧ Below w.heap.size w w' := by
  go_enter Tryz.func46, Tryz.ntmps46
  go_upto_region 1 with (refine Rg.box_fresh rfl 53 _ rfl (u64s x.l) rfl ?_; intro X hX hbX hnX; have HX := Lib.hid hX; have HBX := Lib.hid hbX; clear hX hbX hnX)
  obtain ⟨xb, hxb⟩ : ∃ xb, w.heap.size = xb := ⟨_, rfl⟩
  obtain ⟨rb, hrb⟩ : ∃ rb, X.heap.size = rb := ⟨_, rfl⟩
  have HR := Lib.hid (show Row (X.alloc (.cells Z5 53)) xb 53 x.l from (hxb ▸ HX.out).alloc _)
  have HZ := Lib.hid (show Rg.Blk (X.alloc (.cells Z5 53)) rb 53 Z5 from Rg.Blk.newAt hrb.symm _ _)
  have HB := Lib.hid (show Below xb w (X.alloc (.cells Z5 53)) from hxb ▸ HBX.out.alloc HBX.out.size _)
  have HNE := Lib.hid (show xb ≠ rb ∧ xb ≤ rb from by have h1 := HX.out.lt; constructor <;> omega)
  have HXB := Lib.hid hxb
  rw [hxb, hrb, show (#[.int .u64 0, .int .u64 0, .int .u64 0, .int .u64 0, .int .u64 0] : Array Value) = Z5 from rfl]
  generalize X.alloc (.cells Z5 53) = Y at *
  clear HX HBX hxb hrb
  go_upto_region 3 with fail
  go_loopw [3, 5] (fun c i wr => ∃ k : Nat, k ≤ 5 ∧ i = .int .i64 k ∧ c = .int .u64 ((it cr k (0, x.l)).1 : Nat) ∧ Row wr xb 53 (it cr k (0, x.l)).2 ∧ Rg.Blk wr rb 53 Z5 ∧ Below xb w wr) (fun _ i _ => 5 - (intOf i).toNat)
  case atStart => exact ⟨0, Nat.zero_le _, rfl, rfl, HR.out, HZ.out, HB.out⟩
  case round =>
    obtain ⟨k, hk, rfl, rfl, hr, hz, hb⟩ := hrel
    clear HR HZ HB
    have HR := Lib.hid hr
    have HZ := Lib.hid hz
    have HB := Lib.hid hb
    have HL := Lib.hid (show (it cr k (0, x.l)).2.length = 5 by rw [it_cr_len]; rfl)
    by_cases hk5 : k < 5
    · have hd : decide (k < 5) = true := by simp; exact hk5
      have hki : (k : Int) < 5 := by omega
      have hk0 : (0 : Int) ≤ k := by omega
      have c1 := hr.cell k (by rw [HL.out]; exact hk5)
      have hst : it cr (k + 1) (0, x.l) = cr k (it cr k (0, x.l)) := rfl
      rw [cr_eq] at hst
      clear hr hz hb
      obtain ⟨n1, hn1⟩ : ∃ n1, nth (it cr k (0, x.l)).2 k = n1 := ⟨_, rfl⟩
      obtain ⟨q1, hq1⟩ : ∃ q1, (it cr k (0, x.l)).1 = q1 := ⟨_, rfl⟩
      obtain ⟨v1, hv1⟩ : ∃ v1, (n1 + q1) % M = v1 := ⟨_, rfl⟩
      have e1 : IntKind.u64.wrap ((n1 : Int) + (q1 : Int)) = (v1 : Int) := by rw [wrap_add, hv1]
      have e2 : bits .and .u64 (v1 : Int) 2251799813685247 = ((v1 % W : Nat) : Int) := and_mask v1 (hv1 ▸ mod_lt_M _)
      have HN1 := Lib.hid hn1
      have HQ1 := Lib.hid hq1
      have HV1 := Lib.hid hv1
      rw [hn1] at c1
      rw [hn1, hq1, hv1] at hst
      have HST := Lib.hid hst
      rw [hq1]
      clear hn1 hq1 hv1 hst
      have HLK := Lib.hid (show k < (it cr k (0, x.l)).2.length by rw [HL.out]; exact hk5)
      have HLK2 := Lib.hid (show k < ((it cr k (0, x.l)).2.set k v1).length by rw [List.length_set, HL.out]; exact hk5)
      have tok1 := True.intro
      go_wp2_with (first
        | (have _t := tok1; (with_reducible refine gate_ ?_); refine store_cell rfl 50 _ _ rfl (b := xb) (j := k) (v := v1) rfl rfl Tryz.underlying50 (by kernel_rfl) HR.out HLK.out ?_; intro V hV hgV; have HRV := Lib.hid hV; have HZV := Lib.hid (blk_other HZ.out hgV HNE.out.1); have HBV := Lib.hid (HB.out.grown hgV (HB.out.size_le HXB.out) (fun j e => by cases e; exact Nat.le_refl _)); have c2 := row_set_cell hV HLK.out; clear hV hgV c1; have tok2 := True.intro; clear _t tok1)
        | (have _t := tok2; (with_reducible refine gate_ ?_); refine store_cell rfl 50 _ _ rfl (b := xb) (j := k) (v := v1 % W) rfl rfl Tryz.underlying50 (by kernel_rfl) HRV.out HLK2.out ?_; intro V2 hV hgV; rw [List.set_set] at hV; have HRW := Lib.hid hV; have HZW := Lib.hid (blk_other HZV.out hgV HNE.out.1); have HBW := Lib.hid (HBV.out.grown hgV (HBV.out.size_le HXB.out) (fun j e => by cases e; exact Nat.le_refl _)); clear hV hgV c2 _t tok2))
      go_roundw
      case rel =>
        have REL := Lib.hid (show ∃ k' : Nat, k' ≤ 5 ∧ Value.int .i64 ((k : Int) + 1) = .int .i64 k' ∧ Value.int .u64 ((v1 : Int) / 2251799813685248) = .int .u64 ((it cr k' (0, x.l)).1 : Nat) ∧ Row V2 xb 53 (it cr k' (0, x.l)).2 ∧ Rg.Blk V2 rb 53 Z5 ∧ Below xb w V2 from ⟨k + 1, hk5, rfl, by rw [HST.out]; rfl, by rw [HST.out]; exact HRW.out, HZW.out, HBW.out⟩)
        first
          | exact REL.out
          | ((repeat apply Exists.intro); refine ⟨?_, rfl⟩; exact REL.out)
      case measure => (first | (simp [intOf]; done) | (simp [intOf]; omega))
    · obtain rfl : k = 5 := by omega
      have hd : decide ((5 : Nat) < 5) = false := by simp
      have c1 := hr.cell 0 (by rw [HL.out]; decide)
      have HCI := Lib.hid (carry_it x)
      clear hr hz hb
      obtain ⟨q1, hq1⟩ : ∃ q1, (it cr 5 (0, x.l)).1 = q1 := ⟨_, rfl⟩
      obtain ⟨l1, hl1⟩ : ∃ l1, (it cr 5 (0, x.l)).2 = l1 := ⟨_, rfl⟩
      rw [hq1, hl1] at HCI
      rw [hl1] at c1 HR HL
      rw [hq1]
      obtain ⟨n1, hn1⟩ : ∃ n1, nth l1 0 = n1 := ⟨_, rfl⟩
      rw [hn1] at c1 HCI
      have e1 : IntKind.u64.wrap ((q1 : Int) * 19) = ((q1 * 19 % M : Nat) : Int) := wrap_mul q1 19
      have e2 : IntKind.u64.wrap ((n1 : Int) + ((q1 * 19 % M : Nat) : Int)) = (((n1 + q1 * 19 % M) % M : Nat) : Int) := wrap_add _ _
      have HLK := Lib.hid (show 0 < l1.length by rw [HL.out]; decide)
      clear hq1 hl1 hn1
      generalize hp1 : q1 * 19 % M = p1 at *
      generalize hv1 : (n1 + p1) % M = v1 at *
      clear hp1 hv1
      have tok1 := True.intro
      go_wp2_with (first
        | (have _t := tok1; (with_reducible refine gate_ ?_); refine store_cell rfl 50 _ _ rfl (b := xb) (j := 0) (v := v1) rfl rfl Tryz.underlying50 (by kernel_rfl) HR.out HLK.out ?_; intro V hV hgV; have HRV := Lib.hid hV; have HZV := Lib.hid (blk_other HZ.out hgV HNE.out.1); have HBV := Lib.hid (HB.out.grown hgV (HB.out.size_le HXB.out) (fun j e => by cases e; exact Nat.le_refl _)); rw [HCI.out] at HRV; clear hV hgV c1; clear _t tok1)
        | ((with_reducible refine gate_ ?_); refine Cv.load_cells rfl 53 _ rfl xb 0 rfl (u64s (carry x).l) _ (fun j v hv => by rw [Nat.zero_add]; exact Rg.Blk.cell (row_blk HRV.out) j hv) Tryz.underlying53 rfl (by rw [u64s_size]; kernel_rfl) ?_; skip)
        | ((with_reducible refine gate_ ?_); refine Cv.store_blk rfl 53 _ _ rfl rb (u64s (carry x).l) Z5 53 rfl rfl HZV.out (by rw [u64s_size]; kernel_rfl) rfl (u64s_one _) ?_; intro V3 hV hgV; have HZZ := Lib.hid hV; have HBZ := Lib.hid (HBV.out.grown hgV (HBV.out.size_le HXB.out) (fun j e => by cases e; exact HNE.out.2)); clear hV hgV))
      refine bodyPost_ret (v := .agg (u64s (carry x).l))
        (results_cell_row Tryz.results46 _ _ rb 53 _ (0, 0) _ rfl HZZ.out Tryz.underlying53 rfl (by rw [u64s_size]; kernel_rfl)) rfl ?_
      exact ⟨rfl, HXB.out ▸ HBZ.out⟩
end Go.Proofs.YtfaeigbfnjkojaaGreatDoor.Kx
namespace Go.Proofs.YtfaeigbfnjkojaaGreatDoor.Kx
open Go.RowKit Go.Proofs.YtfaeigbfnjkojaaGreatDoor.Cl
theorem it_zero {S : Type} (f : Nat → S → S) (s : S) : it f 0 s = s := rfl
theorem it_zip_succ (f : Nat → Nat → Nat) (ys : List Nat) (k : Nat) (l : List Nat) : it (zip2 f ys) (k + 1) l = (it (zip2 f ys) k l).set k (f (nth (it (zip2 f ys) k l) k) (nth ys k)) := rfl
theorem row_other {w w' : World} {b g T : Nat} {xs : List Nat} (h : Row w b T xs) (hg : w.grownBy w' (some g)) (hn : g ≠ b) : Row w' b T xs := blk_other (row_blk h) hg hn
set_option maxRecDepth 20000 in
set_option maxHeartbeats 2000000 in
theorem Add_any (w : World) (x y : E) : Calls Tryz.prog 40 #[.agg (u64s x.l), .agg (u64s y.l)] w fun e w' => e = .returned (.agg (u64s (add x y).l)) ∧ Below w.heap.size w w' := by
  go_enter Tryz.func40, Tryz.ntmps40
  have tok1 := True.intro
  go_upto_region 1 with (first
    | (have _t := tok1; (with_reducible refine gate_ ?_); refine Rg.box_fresh rfl 53 _ rfl (u64s x.l) rfl ?_; intro X hX hbX hnX; have HX := Lib.hid hX; have HBX := Lib.hid hbX; have HNX := Lib.hid hnX; clear hX hbX hnX; have tok2 := True.intro; clear _t tok1)
    | (have _t := tok2; (with_reducible refine gate_ ?_); refine Rg.box_fresh rfl 53 _ rfl (u64s y.l) rfl ?_; intro X2 hX hbX hnX; have HY2 := Lib.hid hX; have HBY := Lib.hid hbX; have HNY := Lib.hid hnX; clear hX hbX hnX; clear _t tok2))
  obtain ⟨xb, hxb⟩ : ∃ xb, w.heap.size = xb := ⟨_, rfl⟩
  obtain ⟨yb, hyb⟩ : ∃ yb, X.heap.size = yb := ⟨_, rfl⟩
  obtain ⟨rb, hrb⟩ : ∃ rb, X2.heap.size = rb := ⟨_, rfl⟩
  have HR := Lib.hid (show Row (X2.alloc (.cells Z5 53)) xb 53 x.l from ((hxb ▸ HX.out).below HBY.out (hxb ▸ HX.out.lt)).alloc _)
  have HY := Lib.hid (show Row (X2.alloc (.cells Z5 53)) yb 53 y.l from (hyb ▸ HY2.out).alloc _)
  have HZ := Lib.hid (show Rg.Blk (X2.alloc (.cells Z5 53)) rb 53 Z5 from Rg.Blk.newAt hrb.symm _ _)
  have HB := Lib.hid (show Below xb w (X2.alloc (.cells Z5 53)) from hxb ▸ (HBX.out.trans (HBY.out.mono HBX.out.size)).alloc (Nat.le_trans HBX.out.size HBY.out.size) _)
  have HNE := Lib.hid (show xb ≠ yb ∧ xb ≠ rb ∧ xb ≤ rb from by have h1 := HNX.out; have h2 := HNY.out; refine ⟨?_, ?_, ?_⟩ <;> omega)
  have HN2 := Lib.hid (show yb ≠ rb ∧ xb ≤ yb from by have h1 := HNX.out; have h2 := HNY.out; refine ⟨?_, ?_⟩ <;> omega)
  have HXB := Lib.hid hxb
  rw [hxb, hyb, hrb, show (#[.int .u64 0, .int .u64 0, .int .u64 0, .int .u64 0, .int .u64 0] : Array Value) = Z5 from rfl]
  generalize X2.alloc (.cells Z5 53) = Z at *
  clear HX HBX HY2 HBY HNX HNY hxb hyb hrb
  go_upto_region 2 with fail
  go_loopw [6] (fun i wr => ∃ k : Nat, k ≤ 5 ∧ i = .int .i64 k ∧ Row wr xb 53 (it (zip2 addF y.l) k x.l) ∧ Row wr yb 53 y.l ∧ Rg.Blk wr rb 53 Z5 ∧ Below xb w wr) (fun i _ => 5 - (intOf i).toNat)
  case atStart => exact ⟨0, Nat.zero_le _, rfl, by rw [it_zero]; exact HR.out, HY.out, HZ.out, HB.out⟩
  case round =>
    obtain ⟨k, hk, rfl, hr, hy, hz, hb⟩ := hrel
    clear HR HY HZ HB
    have HR := Lib.hid hr
    have HY := Lib.hid hy
    have HZ := Lib.hid hz
    have HB := Lib.hid hb
    have HL := Lib.hid (show (it (zip2 addF y.l) k x.l).length = 5 by rw [it_zip_len]; rfl)
    clear hr hy hz hb
    by_cases hk5 : k < 5
    · have hd : decide (k < 5) = true := by simp; exact hk5
      have hki : (k : Int) < 5 := by omega
      have hk0 : (0 : Int) ≤ k := by omega
      have HLK := Lib.hid (show k < (it (zip2 addF y.l) k x.l).length by rw [HL.out]; exact hk5)
      have HLY := Lib.hid (show k < (y.l).length from hk5)
      have hst := it_zip_succ addF y.l k x.l
      obtain ⟨n1, hn1⟩ : ∃ n1, nth (it (zip2 addF y.l) k x.l) k = n1 := ⟨_, rfl⟩
      obtain ⟨n2, hn2⟩ : ∃ n2, nth y.l k = n2 := ⟨_, rfl⟩
      have e3 : IntKind.u64.wrap ((n1 : Int) + (n2 : Int)) = ((addF n1 n2 : Nat) : Int) := wrap_add n1 n2
      rw [hn1, hn2] at hst
      obtain ⟨v1, hv1⟩ : ∃ v1, addF n1 n2 = v1 := ⟨_, rfl⟩
      rw [hv1] at hst e3
      have HST := Lib.hid hst
      have HN1 := Lib.hid hn1
      have HN2 := Lib.hid hn2
      clear hst hn1 hn2 hv1
      go_upto_region 4 with fail
      refine RT.start (fun W => Below wr.heap.size wr W) 11 1 (by kernel_rfl) (by decide) rfl (by kernel_rfl) (by kernel_rfl) (Below.drew (Below.refl _ _)) ?_
      refine' RT.takeV (i := 0) (v := _) rfl (by kernel_rfl) (by kernel_rfl) (by kernel_rfl) (by decide) (fun _ _ _ h => h) (by rfl) ?hk1 ?_
      case hk1 => (intro W hSW; go_simp; try with_reducible rfl)
      (try simp only [Act.put, List.setIfInBounds_toArray, List.set_cons_zero, List.set_cons_succ])
      refine' RT.takeV (i := 1) (v := _) rfl (by kernel_rfl) (by kernel_rfl) (by kernel_rfl) (by decide) (fun _ _ _ h => h) (by rfl) ?hk2 ?_
      case hk2 => (intro W hSW; go_simp; try with_reducible rfl)
      (try simp only [Act.put, List.setIfInBounds_toArray, List.set_cons_zero, List.set_cons_succ])
      refine' RT.takeV (i := 2) (v := _) rfl (by kernel_rfl) (by kernel_rfl) (by kernel_rfl) (by decide) (fun _ _ _ h => h) (by rfl) ?hk3 ?_
      case hk3 => (intro W hSW; go_simp; try with_reducible rfl)
      (try simp only [Act.put, List.setIfInBounds_toArray, List.set_cons_zero, List.set_cons_succ])
      refine' RT.takeV (i := 3) (v := _) rfl (by kernel_rfl) (by kernel_rfl) (by kernel_rfl) (by decide) (fun _ _ _ h => h) (by rfl) ?hk4 ?_
      case hk4 => (intro W hSW; have k1 := (HR.out.below hSW HR.out.lt).cell k HLK.out; rw [HN1.out] at k1; go_simp; try with_reducible rfl)
      (try simp only [Act.put, List.setIfInBounds_toArray, List.set_cons_zero, List.set_cons_succ])
      refine' RT.takeV (i := 4) (v := _) rfl (by kernel_rfl) (by kernel_rfl) (by kernel_rfl) (by decide) (fun _ _ _ h => h) (by rfl) ?hk5 ?_
      case hk5 => (intro W hSW; go_simp; try with_reducible rfl)
      (try simp only [Act.put, List.setIfInBounds_toArray, List.set_cons_zero, List.set_cons_succ])
      refine' RT.takeV (i := 5) (v := _) rfl (by kernel_rfl) (by kernel_rfl) (by kernel_rfl) (by decide) (fun _ _ _ h => h) (by rfl) ?hk6 ?_
      case hk6 => (intro W hSW; go_simp; try with_reducible rfl)
      (try simp only [Act.put, List.setIfInBounds_toArray, List.set_cons_zero, List.set_cons_succ])
      refine' RT.takeV (i := 6) (v := _) rfl (by kernel_rfl) (by kernel_rfl) (by kernel_rfl) (by decide) (fun _ _ _ h => h) (by rfl) ?hk7 ?_
      case hk7 => (intro W hSW; go_simp; try with_reducible rfl)
      (try simp only [Act.put, List.setIfInBounds_toArray, List.set_cons_zero, List.set_cons_succ])
      refine' RT.takeV (i := 7) (v := _) rfl (by kernel_rfl) (by kernel_rfl) (by kernel_rfl) (by decide) (fun _ _ _ h => h) (by rfl) ?hk8 ?_
      case hk8 => (intro W hSW; have k2 := (HY.out.below hSW HY.out.lt).cell k HLY.out; rw [HN2.out] at k2; go_simp; try with_reducible rfl)
      (try simp only [Act.put, List.setIfInBounds_toArray, List.set_cons_zero, List.set_cons_succ])
      refine' RT.takeV (i := 8) (v := _) rfl (by kernel_rfl) (by kernel_rfl) (by kernel_rfl) (by decide) (fun _ _ _ h => h) (by rfl) ?hk9 ?_
      case hk9 => (intro W hSW; have e3x := e3; go_simp; try with_reducible rfl)
      (try simp only [Act.put, List.setIfInBounds_toArray, List.set_cons_zero, List.set_cons_succ])
      refine' RT.takeV (i := 9) (v := _) rfl (by kernel_rfl) (by kernel_rfl) (by kernel_rfl) (by decide) (fun _ _ _ h => h) (by rfl) ?hk10 ?_
      case hk10 => (intro W hSW; go_simp; try with_reducible rfl)
      (try simp only [Act.put, List.setIfInBounds_toArray, List.set_cons_zero, List.set_cons_succ])
      refine' RT.takeV (i := 10) (v := _) rfl (by kernel_rfl) (by kernel_rfl) (by kernel_rfl) (by decide) (fun _ _ _ h => h) (by rfl) ?hk11 ?_
      case hk11 => (intro W hSW; go_simp; try with_reducible rfl)
      (try simp only [Act.put, List.setIfInBounds_toArray, List.set_cons_zero, List.set_cons_succ])
      refine RT.tail (by kernel_rfl) rfl rfl ?_
      intro wd hlwd hswd
      have hlx : Below wr.heap.size wr wd := (Below.drew (Below.refl _ _)).trans hlwd
      have HRd := Lib.hid (HR.out.below hlx HR.out.lt)
      have HYd := Lib.hid (HY.out.below hlx HY.out.lt)
      have HZd := Lib.hid (HZ.out.below hlx HZ.out.lt)
      have HBd := Lib.hid (HB.out.trans (hlx.mono (HB.out.size_le HXB.out)))
      clear hlwd hswd hlx
      refine store_cell rfl 50 _ _ rfl (b := xb) (j := k) (v := v1) rfl rfl Tryz.underlying50 (by kernel_rfl) HRd.out HLK.out ?_
      intro V hV hgV
      have HRV := Lib.hid hV
      have HYV := Lib.hid (row_other HYd.out hgV HNE.out.1)
      have HZV := Lib.hid (blk_other HZd.out hgV HNE.out.2.1)
      have HBV := Lib.hid (HBd.out.grown hgV (HBd.out.size_le HXB.out) (fun j e => by cases e; exact Nat.le_refl _))
      clear hV hgV
      go_wp2_with fail
      go_roundw
      case rel =>
        have REL := Lib.hid (show ∃ k' : Nat, k' ≤ 5 ∧ Value.int .i64 ((k : Int) + 1) = .int .i64 k' ∧ Row V xb 53 (it (zip2 addF y.l) k' x.l) ∧ Row V yb 53 y.l ∧ Rg.Blk V rb 53 Z5 ∧ Below xb w V from ⟨k + 1, hk5, rfl, by rw [HST.out]; exact HRV.out, HYV.out, HZV.out, HBV.out⟩)
        first
          | exact REL.out
          | ((repeat apply Exists.intro); refine ⟨?_, rfl⟩; exact REL.out)
      case measure => (first | (simp [intOf]; done) | (simp [intOf]; omega))
    · obtain rfl : k = 5 := by omega
      have hd : decide ((5 : Nat) < 5) = false := by simp
      have HRC := Lib.hid (show Row wr xb 53 (add1 x y).l from by rw [← add_it x y]; exact HR.out)
      go_wp2_with (first
        | ((with_reducible refine gate_ ?_); refine Cv.load_cells rfl 53 _ rfl xb 0 rfl (u64s (add1 x y).l) _ (fun j v hv => by rw [Nat.zero_add]; exact Rg.Blk.cell (row_blk HRC.out) j hv) Tryz.underlying53 rfl (by rw [u64s_size]; kernel_rfl) ?_; skip)
        | (go_at_call 46; refine (carry_any _ (add1 x y)).mono ?_; rintro e w9 ⟨rfl, hb9⟩; skip; have HZ9 := Lib.hid (HZ.out.below hb9 HZ.out.lt); have HB9 := Lib.hid (HB.out.trans (hb9.mono (HB.out.size_le HXB.out))); clear hb9)
        | ((with_reducible refine gate_ ?_); refine Cv.store_blk rfl 53 _ _ rfl rb (u64s (carry (add1 x y)).l) Z5 53 rfl rfl HZ9.out (by rw [u64s_size]; kernel_rfl) (by rw [u64s_size]; rfl) (u64s_one _) ?_; intro V3 hV hgV; have HZZ := Lib.hid hV; have HBZ := Lib.hid (HB9.out.grown hgV (HB9.out.size_le HXB.out) (fun j e => by cases e; exact HNE.out.2.2)); clear hV hgV))
      refine bodyPost_ret (v := .agg (u64s (carry (add1 x y)).l))
        (results_cell_row Tryz.results40 _ _ rb 53 _ (0, 0) _ rfl HZZ.out Tryz.underlying53 rfl (by rw [u64s_size]; kernel_rfl)) rfl ?_
      exact ⟨rfl, HXB.out ▸ HBZ.out⟩
end Go.Proofs.YtfaeigbfnjkojaaGreatDoor.Kx
namespace Go.Proofs.YtfaeigbfnjkojaaGreatDoor.Kx
open Go.RowKit Go.Proofs.YtfaeigbfnjkojaaGreatDoor.Cl
theorem wrap_sub (x y : Nat) (h : y ≤ M) : IntKind.u64.wrap ((x : Int) - (y : Int)) = (((x + (M - y)) % M : Nat) : Int) := by rw [IntKind.wrap_u64]; unfold M at *; omega
theorem wrap_subF (x y : Nat) (h : y < M) : IntKind.u64.wrap ((x : Int) - (y : Int)) = ((subF x y : Nat) : Int) := by unfold subF; exact wrap_sub x y (Nat.le_of_lt h)
theorem carry_lt (y : E) (k : Nat) : nth (carry y).l k < M := carry_ok y k
theorem it_tw_succ (k : Nat) (l : List Nat) : it twR (k + 1) l = (it twR k l).set (k + 1) ((nth (it twR k l) (k + 1) + tw) % M) := rfl
theorem wrap_tw0 (n : Nat) : IntKind.u64.wrap ((n : Int) + 4503599627370458) = (((n + tw0) % M : Nat) : Int) := by rw [IntKind.wrap_u64]; unfold tw0 M; omega
theorem wrap_tw (n : Nat) : IntKind.u64.wrap ((n : Int) + 4503599627370494) = (((n + tw) % M : Nat) : Int) := by rw [IntKind.wrap_u64]; unfold tw M; omega
set_option maxRecDepth 20000 in
set_option maxHeartbeats 2000000 in
theorem Sub_any (w : World) (x y : E) : Calls Tryz.prog 41 #[.agg (u64s x.l), .agg (u64s y.l)] w fun e w' => e = .returned (.agg (u64s (sub x y).l)) ∧ Below w.heap.size w w' := by
  go_enter Tryz.func41, Tryz.ntmps41
  have tok1 := True.intro
  go_upto_region 1 with (first
    | (have _t := tok1; (with_reducible refine gate_ ?_); refine Rg.box_fresh rfl 53 _ rfl (u64s x.l) rfl ?_; intro X hX hbX hnX; have HX := Lib.hid hX; have HBX := Lib.hid hbX; have HNX := Lib.hid hnX; clear hX hbX hnX; have tok2 := True.intro; clear _t tok1)
    | (have _t := tok2; (with_reducible refine gate_ ?_); refine Rg.box_fresh rfl 53 _ rfl (u64s y.l) rfl ?_; intro X2 hX hbX hnX; have HY2 := Lib.hid hX; have HBY := Lib.hid hbX; have HNY := Lib.hid hnX; clear hX hbX hnX; clear _t tok2))
  obtain ⟨xb, hxb⟩ : ∃ xb, w.heap.size = xb := ⟨_, rfl⟩
  obtain ⟨yb, hyb⟩ : ∃ yb, X.heap.size = yb := ⟨_, rfl⟩
  obtain ⟨rb, hrb⟩ : ∃ rb, X2.heap.size = rb := ⟨_, rfl⟩
  have HR := Lib.hid (show Row (X2.alloc (.cells Z5 53)) xb 53 x.l from ((hxb ▸ HX.out).below HBY.out (hxb ▸ HX.out.lt)).alloc _)
  have HY := Lib.hid (show Row (X2.alloc (.cells Z5 53)) yb 53 y.l from (hyb ▸ HY2.out).alloc _)
  have HZ := Lib.hid (show Rg.Blk (X2.alloc (.cells Z5 53)) rb 53 Z5 from Rg.Blk.newAt hrb.symm _ _)
  have HB := Lib.hid (show Below xb w (X2.alloc (.cells Z5 53)) from hxb ▸ (HBX.out.trans (HBY.out.mono HBX.out.size)).alloc (Nat.le_trans HBX.out.size HBY.out.size) _)
  have HNE := Lib.hid (show xb ≠ yb ∧ xb ≠ rb ∧ xb ≤ rb from by have h1 := HNX.out; have h2 := HNY.out; refine ⟨?_, ?_, ?_⟩ <;> omega)
  have HN2 := Lib.hid (show yb ≠ rb ∧ xb ≤ yb from by have h1 := HNX.out; have h2 := HNY.out; refine ⟨?_, ?_⟩ <;> omega)
  have HXB := Lib.hid hxb
  rw [hxb, hyb, hrb, show (#[.int .u64 0, .int .u64 0, .int .u64 0, .int .u64 0, .int .u64 0] : Array Value) = Z5 from rfl]
  generalize X2.alloc (.cells Z5 53) = Z at *
  clear HX HBX HY2 HBY HNX HNY hxb hyb hrb
  go_upto_region 2 with (first
    | ((with_reducible refine gate_ ?_); refine Cv.load_cells rfl 53 _ rfl yb 0 rfl (u64s y.l) _ (fun j v hv => by rw [Nat.zero_add]; exact Rg.Blk.cell (row_blk HY.out) j hv) Tryz.underlying53 rfl (by rw [u64s_size]; kernel_rfl) ?_; skip)
    | (go_at_call 46; refine (carry_any _ y).mono ?_; rintro e w9 ⟨rfl, hb9⟩; skip; have HR9 := Lib.hid (HR.out.below hb9 HR.out.lt); have HY9 := Lib.hid (HY.out.below hb9 HY.out.lt); have HZ9 := Lib.hid (HZ.out.below hb9 HZ.out.lt); have HB9 := Lib.hid (HB.out.trans (hb9.mono (HB.out.size_le HXB.out))); clear hb9)
    | ((with_reducible refine gate_ ?_); refine Cv.store_blk rfl 53 _ _ rfl yb (u64s (carry y).l) (u64s y.l) 53 rfl rfl (row_blk HY9.out) (by rw [u64s_size]; kernel_rfl) (by rw [u64s_size, u64s_size]) (u64s_one _) ?_; intro V1 hV hgV; have HY1 := Lib.hid (show Row V1 yb 53 (carry y).l from hV); have HR1 := Lib.hid (row_other HR9.out hgV HNE.out.1.symm); have HZ1 := Lib.hid (blk_other HZ9.out hgV HN2.out.1); have HB1 := Lib.hid (HB9.out.grown hgV (HB9.out.size_le HXB.out) (fun j e => by cases e; exact HN2.out.2)); clear hV hgV))
  clear HR HY HZ HB HR9 HY9 HZ9 HB9
  have c0 := HR1.out.cell 0 (by rw [E.len]; decide)
  obtain ⟨n0, hn0⟩ : ∃ n0, nth x.l 0 = n0 := ⟨_, rfl⟩
  have e0 : IntKind.u64.wrap ((n0 : Int) + 4503599627370458) = (((n0 + tw0) % M : Nat) : Int) := wrap_tw0 n0
  rw [hn0] at c0
  obtain ⟨m0, hm0⟩ : ∃ m0, (n0 + tw0) % M = m0 := ⟨_, rfl⟩
  rw [hm0] at e0
  have HM0 := Lib.hid (show (nth x.l 0 + tw0) % M = m0 by rw [hn0]; exact hm0)
  clear hn0 hm0
  go_upto_region 3 with ((with_reducible refine gate_ ?_); refine store_cell rfl 50 _ _ rfl (b := xb) (j := 0) (v := m0) rfl rfl Tryz.underlying50 (by kernel_rfl) HR1.out (by rw [E.len]; decide) ?_; intro V2 hV hgV; rw [← HM0.out] at hV; have HR0 := Lib.hid hV; have HY := Lib.hid (row_other HY1.out hgV HNE.out.1); have HZ := Lib.hid (blk_other HZ1.out hgV HNE.out.2.1); have HB := Lib.hid (HB1.out.grown hgV (HB1.out.size_le HXB.out) (fun j e => by cases e; exact Nat.le_refl _)); clear hV hgV)
  clear c0 e0 HR1 HY1 HZ1 HB1 HM0
  obtain ⟨l1, hl1⟩ : ∃ l1, x.l.set 0 ((nth x.l 0 + tw0) % M) = l1 := ⟨_, rfl⟩
  have HR := Lib.hid (show Row V2 xb 53 l1 from by rw [← hl1]; exact HR0.out)
  have HL1 := Lib.hid (show l1.length = 5 by rw [← hl1, List.length_set]; rfl)
  have HSE0 := Lib.hid (show ∀ l2, it twR 4 l1 = l2 → it (zip2 subF (carry y).l) 5 l2 = (sub1 x (carry y)).l from fun l2 e => by rw [← e, ← hl1]; exact sub_it x (carry y))
  clear HR0 hl1
  go_upto_region 4 with fail
  go_loopw [5] (fun i wr => ∃ k : Nat, k ≤ 4 ∧ i = .int .i64 ((k : Int) + 1) ∧ Row wr xb 53 (it twR k l1) ∧ Row wr yb 53 (carry y).l ∧ Rg.Blk wr rb 53 Z5 ∧ Below xb w wr) (fun i _ => 5 - (intOf i).toNat)
  case atStart => exact ⟨0, Nat.zero_le _, rfl, by rw [it_zero]; exact HR.out, HY.out, HZ.out, HB.out⟩
  case round =>
    obtain ⟨k, hk, rfl, hr, hy, hz, hb⟩ := hrel
    clear HR HY HZ HB
    have HR := Lib.hid hr
    have HY := Lib.hid hy
    have HZ := Lib.hid hz
    have HB := Lib.hid hb
    have HL := Lib.hid (show (it twR k l1).length = 5 by rw [it_tw_len]; exact HL1.out)
    clear hr hy hz hb
    by_cases hk4 : k < 4
    · have hd : decide ((k : Int) + 1 < 5) = true := by simp; omega
      have hki : (k : Int) + 1 < 5 := by omega
      have hk0 : (0 : Int) ≤ (k : Int) + 1 := by omega
      have c1 := HR.out.cell (k + 1) (by rw [HL.out]; omega)
      have HLK := Lib.hid (show k + 1 < (it twR k l1).length by rw [HL.out]; omega)
      have hst := it_tw_succ k l1
      obtain ⟨n1, hn1⟩ : ∃ n1, nth (it twR k l1) (k + 1) = n1 := ⟨_, rfl⟩
      have e1 : IntKind.u64.wrap ((n1 : Int) + 4503599627370494) = (((n1 + tw) % M : Nat) : Int) := wrap_tw n1
      rw [hn1] at hst c1
      obtain ⟨v1, hv1⟩ : ∃ v1, (n1 + tw) % M = v1 := ⟨_, rfl⟩
      rw [hv1] at hst e1
      have HST := Lib.hid hst
      clear hst hn1 hv1
      have hnt : ((k : Int) + 1).toNat = k + 1 := by omega
      go_wp2_with ((with_reducible refine gate_ ?_); refine store_cell rfl 50 _ _ rfl (b := xb) (j := k + 1) (v := v1) rfl rfl Tryz.underlying50 (by kernel_rfl) HR.out HLK.out ?_; intro V hV hgV; have HRV := Lib.hid hV; have HYV := Lib.hid (row_other HY.out hgV HNE.out.1); have HZV := Lib.hid (blk_other HZ.out hgV HNE.out.2.1); have HBV := Lib.hid (HB.out.grown hgV (HB.out.size_le HXB.out) (fun j e => by cases e; exact Nat.le_refl _)); clear hV hgV)
      go_roundw
      case rel =>
        have REL := Lib.hid (show ∃ k' : Nat, k' ≤ 4 ∧ Value.int .i64 ((k : Int) + 1 + 1) = .int .i64 ((k' : Int) + 1) ∧ Row V xb 53 (it twR k' l1) ∧ Row V yb 53 (carry y).l ∧ Rg.Blk V rb 53 Z5 ∧ Below xb w V from ⟨k + 1, hk4, rfl, by rw [HST.out]; exact HRV.out, HYV.out, HZV.out, HBV.out⟩)
        first
          | exact REL.out
          | ((repeat apply Exists.intro); refine ⟨?_, rfl⟩; exact REL.out)
      case measure => (first | (simp [intOf]; done) | (simp [intOf]; omega))
    · obtain rfl : k = 4 := by omega
      have hd : decide (((4 : Nat) : Int) + 1 < 5) = false := by simp
      obtain ⟨l2, hl2⟩ : ∃ l2, it twR 4 l1 = l2 := ⟨_, rfl⟩
      rw [hl2] at HR HL
      have HSE := Lib.hid (HSE0.out l2 hl2)
      clear hl2 HSE0
      have HL2 := HL
      go_upto_region 8 with fail
      go_loopw [26] (fun i wr => ∃ k : Nat, k ≤ 5 ∧ i = .int .i64 k ∧ Row wr xb 53 (it (zip2 subF (carry y).l) k l2) ∧ Row wr yb 53 (carry y).l ∧ Rg.Blk wr rb 53 Z5 ∧ Below xb w wr) (fun i _ => 5 - (intOf i).toNat)
      case atStart => exact ⟨0, Nat.zero_le _, rfl, by rw [it_zero]; exact HR.out, HY.out, HZ.out, HB.out⟩
      case round =>
        obtain ⟨k, hk, rfl, hr, hy, hz, hb⟩ := hrel
        clear HR HY HZ HB
        have HR := Lib.hid hr
        have HY := Lib.hid hy
        have HZ := Lib.hid hz
        have HB := Lib.hid hb
        have HL := Lib.hid (show (it (zip2 subF (carry y).l) k l2).length = 5 by rw [it_zip_len]; exact HL2.out)
        clear hr hy hz hb
        by_cases hk5 : k < 5
        · have hd : decide (k < 5) = true := by simp; exact hk5
          have hki : (k : Int) < 5 := by omega
          have hk0 : (0 : Int) ≤ k := by omega
          have HLK := Lib.hid (show k < (it (zip2 subF (carry y).l) k l2).length by rw [HL.out]; exact hk5)
          have HLY := Lib.hid (show k < ((carry y).l).length from hk5)
          have hst := it_zip_succ subF (carry y).l k l2
          obtain ⟨n1, hn1⟩ : ∃ n1, nth (it (zip2 subF (carry y).l) k l2) k = n1 := ⟨_, rfl⟩
          obtain ⟨n2, hn2⟩ : ∃ n2, nth (carry y).l k = n2 := ⟨_, rfl⟩
          have HLE := Lib.hid (carry_lt y k)
          rw [hn2] at HLE
          have e3 : IntKind.u64.wrap ((n1 : Int) - (n2 : Int)) = ((subF n1 n2 : Nat) : Int) := wrap_subF n1 n2 HLE.out
          rw [hn1, hn2] at hst
          obtain ⟨v1, hv1⟩ : ∃ v1, subF n1 n2 = v1 := ⟨_, rfl⟩
          rw [hv1] at hst e3
          have HST := Lib.hid hst
          have HN1 := Lib.hid hn1
          have HN2 := Lib.hid hn2
          clear hst hn1 hn2 hv1
          go_upto_region 10 with fail
          refine RT.start (fun W => Below wr.heap.size wr W) 11 1 (by kernel_rfl) (by decide) rfl (by kernel_rfl) (by kernel_rfl) (Below.drew (Below.refl _ _)) ?_
          refine' RT.takeV (i := 0) (v := _) rfl (by kernel_rfl) (by kernel_rfl) (by kernel_rfl) (by decide) (fun _ _ _ h => h) (by rfl) ?hk1 ?_
          case hk1 => (intro W hSW; go_simp; try with_reducible rfl)
          (try simp only [Act.put, List.setIfInBounds_toArray, List.set_cons_zero, List.set_cons_succ])
          refine' RT.takeV (i := 1) (v := _) rfl (by kernel_rfl) (by kernel_rfl) (by kernel_rfl) (by decide) (fun _ _ _ h => h) (by rfl) ?hk2 ?_
          case hk2 => (intro W hSW; go_simp; try with_reducible rfl)
          (try simp only [Act.put, List.setIfInBounds_toArray, List.set_cons_zero, List.set_cons_succ])
          refine' RT.takeV (i := 2) (v := _) rfl (by kernel_rfl) (by kernel_rfl) (by kernel_rfl) (by decide) (fun _ _ _ h => h) (by rfl) ?hk3 ?_
          case hk3 => (intro W hSW; go_simp; try with_reducible rfl)
          (try simp only [Act.put, List.setIfInBounds_toArray, List.set_cons_zero, List.set_cons_succ])
          refine' RT.takeV (i := 3) (v := _) rfl (by kernel_rfl) (by kernel_rfl) (by kernel_rfl) (by decide) (fun _ _ _ h => h) (by rfl) ?hk4 ?_
          case hk4 => (intro W hSW; have k1 := (HR.out.below hSW HR.out.lt).cell k HLK.out; rw [HN1.out] at k1; go_simp; try with_reducible rfl)
          (try simp only [Act.put, List.setIfInBounds_toArray, List.set_cons_zero, List.set_cons_succ])
          refine' RT.takeV (i := 4) (v := _) rfl (by kernel_rfl) (by kernel_rfl) (by kernel_rfl) (by decide) (fun _ _ _ h => h) (by rfl) ?hk5 ?_
          case hk5 => (intro W hSW; go_simp; try with_reducible rfl)
          (try simp only [Act.put, List.setIfInBounds_toArray, List.set_cons_zero, List.set_cons_succ])
          refine' RT.takeV (i := 5) (v := _) rfl (by kernel_rfl) (by kernel_rfl) (by kernel_rfl) (by decide) (fun _ _ _ h => h) (by rfl) ?hk6 ?_
          case hk6 => (intro W hSW; go_simp; try with_reducible rfl)
          (try simp only [Act.put, List.setIfInBounds_toArray, List.set_cons_zero, List.set_cons_succ])
          refine' RT.takeV (i := 6) (v := _) rfl (by kernel_rfl) (by kernel_rfl) (by kernel_rfl) (by decide) (fun _ _ _ h => h) (by rfl) ?hk7 ?_
          case hk7 => (intro W hSW; go_simp; try with_reducible rfl)
          (try simp only [Act.put, List.setIfInBounds_toArray, List.set_cons_zero, List.set_cons_succ])
          refine' RT.takeV (i := 7) (v := _) rfl (by kernel_rfl) (by kernel_rfl) (by kernel_rfl) (by decide) (fun _ _ _ h => h) (by rfl) ?hk8 ?_
          case hk8 => (intro W hSW; have k2 := (HY.out.below hSW HY.out.lt).cell k HLY.out; rw [HN2.out] at k2; go_simp; try with_reducible rfl)
          (try simp only [Act.put, List.setIfInBounds_toArray, List.set_cons_zero, List.set_cons_succ])
          refine' RT.takeV (i := 8) (v := _) rfl (by kernel_rfl) (by kernel_rfl) (by kernel_rfl) (by decide) (fun _ _ _ h => h) (by rfl) ?hk9 ?_
          case hk9 => (intro W hSW; have e3x := e3; go_simp; try with_reducible rfl)
          (try simp only [Act.put, List.setIfInBounds_toArray, List.set_cons_zero, List.set_cons_succ])
          refine' RT.takeV (i := 9) (v := _) rfl (by kernel_rfl) (by kernel_rfl) (by kernel_rfl) (by decide) (fun _ _ _ h => h) (by rfl) ?hk10 ?_
          case hk10 => (intro W hSW; go_simp; try with_reducible rfl)
          (try simp only [Act.put, List.setIfInBounds_toArray, List.set_cons_zero, List.set_cons_succ])
          refine' RT.takeV (i := 10) (v := _) rfl (by kernel_rfl) (by kernel_rfl) (by kernel_rfl) (by decide) (fun _ _ _ h => h) (by rfl) ?hk11 ?_
          case hk11 => (intro W hSW; go_simp; try with_reducible rfl)
          (try simp only [Act.put, List.setIfInBounds_toArray, List.set_cons_zero, List.set_cons_succ])
          refine RT.tail (by kernel_rfl) rfl rfl ?_
          intro wd hlwd hswd
          have hlx : Below wr.heap.size wr wd := (Below.drew (Below.refl _ _)).trans hlwd
          have HRd := Lib.hid (HR.out.below hlx HR.out.lt)
          have HYd := Lib.hid (HY.out.below hlx HY.out.lt)
          have HZd := Lib.hid (HZ.out.below hlx HZ.out.lt)
          have HBd := Lib.hid (HB.out.trans (hlx.mono (HB.out.size_le HXB.out)))
          clear hlwd hswd hlx
          refine store_cell rfl 50 _ _ rfl (b := xb) (j := k) (v := v1) rfl rfl Tryz.underlying50 (by kernel_rfl) HRd.out HLK.out ?_
          intro V hV hgV
          have HRV := Lib.hid hV
          have HYV := Lib.hid (row_other HYd.out hgV HNE.out.1)
          have HZV := Lib.hid (blk_other HZd.out hgV HNE.out.2.1)
          have HBV := Lib.hid (HBd.out.grown hgV (HBd.out.size_le HXB.out) (fun j e => by cases e; exact Nat.le_refl _))
          clear hV hgV
          go_wp2_with fail
          go_roundw
          case rel =>
            have REL := Lib.hid (show ∃ k' : Nat, k' ≤ 5 ∧ Value.int .i64 ((k : Int) + 1) = .int .i64 k' ∧ Row V xb 53 (it (zip2 subF (carry y).l) k' l2) ∧ Row V yb 53 (carry y).l ∧ Rg.Blk V rb 53 Z5 ∧ Below xb w V from ⟨k + 1, hk5, rfl, by rw [HST.out]; exact HRV.out, HYV.out, HZV.out, HBV.out⟩)
            first
              | exact REL.out
              | ((repeat apply Exists.intro); refine ⟨?_, rfl⟩; exact REL.out)
          case measure => (first | (simp [intOf]; done) | (simp [intOf]; omega))
        · obtain rfl : k = 5 := by omega
          have hd : decide ((5 : Nat) < 5) = false := by simp
          have HRC := Lib.hid (show Row wr xb 53 (sub1 x (carry y)).l from by rw [← HSE.out]; exact HR.out)
          go_wp2_with (first
            | ((with_reducible refine gate_ ?_); refine Cv.load_cells rfl 53 _ rfl xb 0 rfl (u64s (sub1 x (carry y)).l) _ (fun j v hv => by rw [Nat.zero_add]; exact Rg.Blk.cell (row_blk HRC.out) j hv) Tryz.underlying53 rfl (by rw [u64s_size]; kernel_rfl) ?_; skip)
            | (go_at_call 46; refine (carry_any _ (sub1 x (carry y))).mono ?_; rintro e w9 ⟨rfl, hb9⟩; skip; have HZ9 := Lib.hid (HZ.out.below hb9 HZ.out.lt); have HB9 := Lib.hid (HB.out.trans (hb9.mono (HB.out.size_le HXB.out))); clear hb9)
            | ((with_reducible refine gate_ ?_); refine Cv.store_blk rfl 53 _ _ rfl rb (u64s (carry (sub1 x (carry y))).l) Z5 53 rfl rfl HZ9.out (by rw [u64s_size]; kernel_rfl) (by rw [u64s_size]; rfl) (u64s_one _) ?_; intro V3 hV hgV; have HZZ := Lib.hid hV; have HBZ := Lib.hid (HB9.out.grown hgV (HB9.out.size_le HXB.out) (fun j e => by cases e; exact HNE.out.2.2)); clear hV hgV))
          refine bodyPost_ret (v := .agg (u64s (carry (sub1 x (carry y))).l))
            (results_cell_row Tryz.results41 _ _ rb 53 _ (0, 0) _ rfl HZZ.out Tryz.underlying53 rfl (by rw [u64s_size]; kernel_rfl)) rfl ?_
          exact ⟨rfl, HXB.out ▸ HBZ.out⟩
end Go.Proofs.YtfaeigbfnjkojaaGreatDoor.Kx
namespace Go.Proofs.YtfaeigbfnjkojaaGreatDoor.Kx
open Go.RowKit Go.Proofs.YtfaeigbfnjkojaaGreatDoor.Cl
/-- each sum in two words -/
def fl : List Nat → List Nat
  | [] => []
  | t :: ts => t % M :: t / M % M :: fl ts
theorem fl_len : ∀ ts : List Nat, (fl ts).length = 2 * ts.length
  | [] => rfl
  | t :: ts => by simp [fl, fl_len ts]; omega
theorem fl_lo : ∀ (ts : List Nat) (j : Nat), nth (fl ts) (2 * j) = nth ts j % M
  | [], j => by simp [fl, nth]
  | t :: ts, 0 => rfl
  | t :: ts, j + 1 => by
    have h := fl_lo ts j
    rw [show 2 * (j + 1) = 2 * j + 2 by omega]
    exact h
theorem fl_hi : ∀ (ts : List Nat) (j : Nat), nth (fl ts) (2 * j + 1) = nth ts j / M % M
  | [], j => by simp [fl, nth]
  | t :: ts, 0 => rfl
  | t :: ts, j + 1 => by
    have h := fl_hi ts j
    rw [show 2 * (j + 1) + 1 = 2 * j + 1 + 2 by omega]
    exact h
theorem fl_set : ∀ (ts : List Nat) (j t : Nat), ((fl ts).set (2 * j) (t % M)).set (2 * j + 1) (t / M % M) = fl (ts.set j t)
  | [], j, t => by simp [fl]
  | u :: ts, 0, t => rfl
  | u :: ts, j + 1, t => by
    have h := fl_set ts j t
    rw [show 2 * (j + 1) = 2 * j + 2 by omega, show 2 * j + 2 + 1 = 2 * j + 1 + 2 by omega]
    simp only [fl, List.set_cons_succ, h]
theorem sum_lo (t p : Nat) : (t % M + p % M) % M = (t + p) % M := (Nat.add_mod t p M).symm
theorem sum_hi (t p : Nat) : (t / M % M + p / M + (t % M + p % M) / M) % M = (t + p) / M % M := by
  unfold M
  omega
theorem add64_run (x y c : Nat) (hc : c ≤ 1) (w : World) :
    (callFunc 44 #[.int .u64 (x : Int), .int .u64 (y : Int), .int .u64 (c : Int)]).run Tryz.prog w =
      .ok (.value (.tuple #[.int .u64 (((x + y + c) % M : Nat) : Int), .int .u64 (((x + y + c) / M : Nat) : Int)])) w := by
  rw [run_callFunc_extern Tryz.func44 (by kernel_rfl) (by kernel_rfl) (by kernel_rfl) (e := add64Entry) (by kernel_rfl), run_add64 x y c (by omega) (by omega) (by omega) (by omega)]
  simp only [Result.andThen]
  unfold M
  congr 5 <;> omega
theorem add64_0 (x y : Nat) (w : World) :
    (callFunc 44 #[.int .u64 (x : Int), .int .u64 (y : Int), .int .u64 0]).run Tryz.prog w =
      .ok (.value (.tuple #[.int .u64 (((x + y) % M : Nat) : Int), .int .u64 (((x + y) / M : Nat) : Int)])) w := add64_run x y 0 (by decide) w
end Go.Proofs.YtfaeigbfnjkojaaGreatDoor.Kx
namespace Go.Proofs.YtfaeigbfnjkojaaGreatDoor.Kx
open Go.RowKit Go.Proofs.YtfaeigbfnjkojaaGreatDoor.Cl
theorem fl_cell_hi {w : World} {b T j v t h0 : Nat} {ts : List Nat} (h : Row w b T ((fl ts).set (2 * j) v)) (hj : 2 * j + 1 < (fl ts).length) (ht : nth ts j = t) (hh : t / M % M = h0) : w.cell? ⟨b, 2 * j + 1, none⟩ = some (.int .u64 (h0 : Nat)) := by
  have h1 := h.cell (2 * j + 1) (by rw [List.length_set]; exact hj)
  rw [nth_set_ne (show 2 * j ≠ 2 * j + 1 by omega), fl_hi, ht, hh] at h1
  exact h1
set_option maxRecDepth 20000 in
set_option maxHeartbeats 2000000 in
theorem sumadd_any (w : World) (b T j : Nat) (ts : List Nat) (hj : j < ts.length) (a c : Nat) (ha : a < M) (hc : c < M) (hB : Row w b T (fl ts)) :
    Calls Tryz.prog 43 #[.pointer (some ⟨b, 2 * j, none⟩), .int .u64 a, .int .u64 c] w fun e w' => (∃ v, e = .returned v) ∧ Row w' b T (fl (ts.set j (nth ts j + a * c))) ∧ w.grownBy w' (some b) := by
  have HR := Lib.hid hB
  have HLK := Lib.hid (show 2 * j < (fl ts).length by rw [fl_len]; omega)
  have HLK2 := Lib.hid (show 2 * j + 1 < (fl ts).length by rw [fl_len]; omega)
  have HLK3 := Lib.hid (show ∀ v, 2 * j + 1 < ((fl ts).set (2 * j) v).length from fun v => by rw [List.length_set]; exact HLK2.out)
  have c0 := hB.cell (2 * j) HLK.out
  have HMU := Lib.hid (fun W => Tryz.bits_Mul64 a c ha hc W)
  rw [fl_lo] at c0
  obtain ⟨t, ht⟩ : ∃ t, nth ts j = t := ⟨_, rfl⟩
  have h1 := sum_lo t (a * c)
  have h2 := sum_hi t (a * c)
  have HT := Lib.hid ht
  rw [ht] at c0 ⊢
  have HPQ := Lib.hid (show t % M < M ∧ a * c % M < M from ⟨mod_lt_M _, mod_lt_M _⟩)
  obtain ⟨l0, hl0⟩ : ∃ l0, t % M = l0 := ⟨_, rfl⟩
  obtain ⟨h0, hh0⟩ : ∃ h0, t / M % M = h0 := ⟨_, rfl⟩
  obtain ⟨p1, hp1⟩ : ∃ p1, a * c / M = p1 := ⟨_, rfl⟩
  obtain ⟨p2, hp2⟩ : ∃ p2, a * c % M = p2 := ⟨_, rfl⟩
  rw [hl0, hp2] at h1 h2 HPQ
  rw [hp1, hh0] at h2
  rw [hl0] at c0
  rw [show (18446744073709551616 : Nat) = M from rfl, hp1, hp2] at HMU
  obtain ⟨q, hq⟩ : ∃ q, (l0 + p2) / M = q := ⟨_, rfl⟩
  rw [hq] at h2
  have HQ := Lib.hid (show q ≤ 1 by have := HPQ.out; unfold M at *; omega)
  have HSET := Lib.hid (show ((fl ts).set (2 * j) ((l0 + p2) % M)).set (2 * j + 1) ((h0 + p1 + q) % M) = fl (ts.set j (t + a * c)) from by rw [h1, h2, fl_set])
  have HA0 := Lib.hid (fun W => add64_0 l0 p2 W)
  have HA1 := Lib.hid (fun W => add64_run h0 p1 q HQ.out W)
  rw [hq] at HA0
  obtain ⟨v1, hv1⟩ : ∃ v1, (l0 + p2) % M = v1 := ⟨_, rfl⟩
  obtain ⟨v2, hv2⟩ : ∃ v2, (h0 + p1 + q) % M = v2 := ⟨_, rfl⟩
  rw [hv1] at HA0 HSET
  rw [hv2] at HA1 HSET
  have HH0 := Lib.hid hh0
  clear hB ha hc ht h1 h2 hl0 hh0 hp1 hp2 hq hv1 hv2
  go_enter Tryz.func43, Tryz.ntmps43
  have tok1 := True.intro
  go_wp2_with (first
    | (go_at_call 45; refine (HMU.out _).mono ?_; rintro e w2 ⟨rfl, rfl⟩; skip)
    | (simp only [HA0.out])
    | (simp only [HA1.out])
    | (have _t := tok1; (with_reducible refine gate_ ?_); refine store_cell rfl 50 _ _ rfl (b := b) (j := 2 * j) (v := v1) rfl rfl Tryz.underlying50 (by kernel_rfl) HR.out HLK.out ?_; intro V hV hgV; have HRV := Lib.hid hV; have HG := Lib.hid hgV; have c1 := fl_cell_hi hV HLK2.out HT.out HH0.out; clear hV hgV c0; have tok2 := True.intro; clear _t tok1)
    | (have _t := tok2; (with_reducible refine gate_ ?_); refine store_cell rfl 50 _ _ rfl (b := b) (j := 2 * j + 1) (v := v2) rfl rfl Tryz.underlying50 (by kernel_rfl) HRV.out (HLK3.out v1) ?_; intro V2 hV hgV; rw [HSET.out] at hV; have HRW := Lib.hid hV; have HG2 := Lib.hid (HG.out.trans hgV); clear hV hgV c1 _t tok2))
  go_end0
  exact ⟨⟨_, rfl⟩, HRW.out, HG2.out⟩
end Go.Proofs.YtfaeigbfnjkojaaGreatDoor.Kx
namespace Go.Proofs.YtfaeigbfnjkojaaGreatDoor.Kx
open Go.RowKit Go.Proofs.YtfaeigbfnjkojaaGreatDoor.Cl
theorem two_lo (t q : Nat) : (t % M + q) % M = (t + q) % M2 % M := by unfold M M2; omega
theorem two_hi (t q : Nat) (hq : q < M) : (t / M % M + (t % M + q) / M) % M = (t + q) % M2 / M := by unfold M M2 at *; omega
theorem two_or (h l : Nat) (hl : l < M) (hh : h < M) : (h * 8192 % M ||| l / W) = (h * M + l) / W % M := by
  have h1 : l / W < 2 ^ 13 := by unfold W M at *; omega
  have h2 : h * 8192 % M = (h % W) * 2 ^ 13 := by unfold W M; omega
  rw [h2, ← Nat.shiftLeft_eq, ← Nat.shiftLeft_add_eq_or_of_lt h1, Nat.shiftLeft_eq]
  unfold W M at *
  omega
/-- what goes on, of a sum in two words -/
theorem two_c (t q : Nat) (hq : q < M) : ((t / M % M + (t % M + q) / M) % M * 8192 % M ||| (t % M + q) % M / W) = (t + q) % M2 / W % M := by
  rw [two_or _ _ (mod_lt_M _) (mod_lt_M _), two_hi t q hq, two_lo]
  congr 2
  have := Nat.div_add_mod ((t + q) % M2) M
  rw [Nat.mul_comm]; exact this
theorem two_m (t q : Nat) : (t % M + q) % M % W = (t + q) % M2 % W := by rw [two_lo]; unfold M M2 W; omega
theorem wrap_shl (x : Nat) : IntKind.u64.wrap ((x : Int) * 8192) = ((x * 8192 % M : Nat) : Int) := by rw [IntKind.wrap_u64]; unfold M; omega
theorem wrap_or (x y : Nat) (hx : x < M) (hy : y < M) : bits .or .u64 (x : Int) (y : Int) = ((x ||| y : Nat) : Int) := u64_or_nat x y hx hy
end Go.Proofs.YtfaeigbfnjkojaaGreatDoor.Kx
