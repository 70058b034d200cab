/- DgA, DgB, DgC, DgD, DgE, ShaA, DgF, DgG, DgH, DgI, DgJ, RfA, RfB, RfC, RfD, RfE, RfG, RfH, RfI, RfJ, ShaB, RefA, RefBlock, RefBlock64, ShaC, RefS, RefSum64, RefT64, RfK, EdS, RfL, RfM, SgA, SgB, SgC, SgD: what the claims need of them. -/
import Derived.Lib.Join
import Derived.Test.YtfpcelmekfdafaaDoorRows
import Derived.OwnWalk
import Derived.WalkKit
import Derived.Lib.UnsafeStr
import Derived.Lib.Hide
import Derived.Deep.QuietTactic
import Derived.BigQuiet
import Derived.Deep.DeepCutAuto
import Derived.Lib.SlBytesConst
import Derived.Laws.CopyOwn
import Derived.Great.BuildSlice
import Derived.Deep.RegionWith
import Derived.Lib.Strings
import Derived.Lib.Slices
import Derived.Lib.Walk
import Derived.Lib.Builder
import Derived.Lib.AppendStr
import Derived.Lib.MakeNoZero
import Derived.Laws.Externs
import Derived.Laws.IdiomCopy
import Derived.Laws.BitsLemmas
import Derived.Lib.SlBuf
import Derived.Laws.CopyRow
import Derived.Test.YtfpcelmekfdafaaDoorShC
set_option linter.unusedVariables false
set_option linter.unusedSimpArgs false
set_option maxRecDepth 20000
set_option maxHeartbeats 16000000
namespace Go.Proofs.YtfpcelmekfdafaaDoor.Dg
/-- a number's lowest digits -/
def lo : Nat → Nat → List Nat
 | 0, _ => []
 | k + 1, n => n % 65536 :: lo k (n / 65536)
/-- without digits 0 above -/
def trimL : List Nat → List Nat
 | [] => []
 | d :: r => if trimL r = [] then (if d = 0 then [] else [d]) else d :: trimL r
/-- a number's digits: none for 0 -/
def dig (n : Nat) : List Nat := if h : n = 0 then [] else n % 65536 :: dig (n / 65536)
termination_by n
decreasing_by omega
theorem dig_zero : dig 0 = [] := by rw [dig]; rfl
theorem dig_pos {n : Nat} (h : n ≠ 0) : dig n = n % 65536 :: dig (n / 65536) := by rw [dig, dif_neg h]
theorem dig_nil {n : Nat} (h : dig n = []) : n = 0 := by
 by_cases h0 : n = 0
 · exact h0
 · rw [dig_pos h0] at h; cases h
theorem lo_len : ∀ k n, (lo k n).length = k
 | 0, _ => rfl
 | k + 1, n => by rw [lo, List.length_cons, lo_len k]
theorem lo_get : ∀ (k n i : Nat), i < k → (lo k n)[i]? = some (n / 65536 ^ i % 65536)
 | 0, _, _, h => by omega
 | k + 1, n, 0, _ => by simp [lo]
 | k + 1, n, i + 1, h => by
  rw [lo, List.getElem?_cons_succ, lo_get k _ i (by omega), Nat.div_div_eq_div_mul, Nat.pow_succ, Nat.mul_comm]
theorem lo_snoc (k n : Nat) : lo (k + 1) n = lo k n ++ [n / 65536 ^ k % 65536] := by
 apply List.ext_getElem?
 intro i
 by_cases h : i < k
 · rw [lo_get (k + 1) n i (by omega), List.getElem?_append_left (by rw [lo_len]; exact h), lo_get k n i h]
 · by_cases h2 : i = k
   · subst h2
     rw [lo_get (i + 1) n i (by omega), List.getElem?_append_right (by rw [lo_len]; exact Nat.le_refl _), lo_len, Nat.sub_self]; rfl
   · rw [List.getElem?_eq_none (by rw [lo_len]; omega), List.getElem?_eq_none (by rw [List.length_append, lo_len]; simp; omega)]
theorem lo_mod (k n : Nat) : lo k (n % 65536 ^ k) = lo k n := by
 apply List.ext_getElem?
 intro i
 by_cases h : i < k
 · rw [lo_get _ _ _ h, lo_get _ _ _ h]
   congr 1
   rw [show 65536 ^ k = 65536 ^ i * (65536 * 65536 ^ (k - i - 1)) by rw [← Nat.pow_succ', ← Nat.pow_add]; congr 1; omega]
   rw [Nat.mod_mul_right_div_self, Nat.mod_mul_right_mod]
 · rw [List.getElem?_eq_none (by rw [lo_len]; omega), List.getElem?_eq_none (by rw [lo_len]; omega)]
theorem trim_lo : ∀ (k n : Nat), n < 65536 ^ k → trimL (lo k n) = dig n
 | 0, n, h => by
  have : n = 0 := by simpa using h
  subst this
  rw [dig_zero]; rfl
 | k + 1, n, h => by
  have h2 : n / 65536 < 65536 ^ k := by rw [Nat.pow_succ] at h; exact Nat.div_lt_of_lt_mul (by rw [Nat.mul_comm]; exact h)
  rw [lo, trimL, trim_lo k _ h2]
  by_cases h0 : n = 0
  · subst h0
    rw [dig_zero]; rfl
  · rw [dig_pos h0]
    split
    · next h3 =>
      have h4 := dig_nil h3
      rw [h3, if_neg (by omega)]
    · rfl
theorem dig_lt (n : Nat) : n < 65536 ^ (dig n).length := by
 induction n using Nat.strongRecOn with
 | ind n ih =>
  by_cases h0 : n = 0
  · subst h0; exact Nat.pos_of_ne_zero (by rw [dig_zero]; decide)
  · rw [dig_pos h0, List.length_cons, Nat.pow_succ]
    have := ih (n / 65536) (by omega)
    omega
theorem dig_ge {n : Nat} (h : n ≠ 0) : 65536 ^ ((dig n).length - 1) ≤ n := by
 induction n using Nat.strongRecOn with
 | ind n ih =>
  rw [dig_pos h, List.length_cons, Nat.add_sub_cancel]
  by_cases h1 : n / 65536 = 0
  · rw [h1, dig_zero]; simp; omega
  · have := ih (n / 65536) (by omega) h1
    have h2 : (dig (n / 65536)).length ≠ 0 := fun e => h1 (dig_nil (List.eq_nil_of_length_eq_zero e))
    obtain ⟨m, hm⟩ : ∃ m, (dig (n / 65536)).length = m + 1 := ⟨(dig (n / 65536)).length - 1, by omega⟩
    rw [hm] at this ⊢
    rw [Nat.add_sub_cancel] at this
    rw [Nat.pow_succ]
    omega
theorem dig_lo (n : Nat) : dig n = lo (dig n).length n := by
 induction n using Nat.strongRecOn with
 | ind n ih =>
  by_cases h0 : n = 0
  · subst h0; rw [dig_zero]; rfl
  · rw [dig_pos h0, List.length_cons, lo, ← ih (n / 65536) (by omega)]
theorem dig_get {n i : Nat} (h : i < (dig n).length) : (dig n)[i]? = some (n / 65536 ^ i % 65536) := by
 have h2 := lo_get (dig n).length n i h
 rwa [← dig_lo] at h2
theorem dig_len_le {n k : Nat} (h : n < 65536 ^ k) : (dig n).length ≤ k := by
 by_cases h0 : n = 0
 · subst h0; rw [dig_zero]; exact Nat.zero_le _
 · have h1 := dig_ge h0
   by_cases h2 : (dig n).length ≤ k
   · exact h2
   · have h3 : 65536 ^ k ≤ 65536 ^ ((dig n).length - 1) := Nat.pow_le_pow_right (by decide) (by omega)
     omega
theorem dig_len_lt {m n : Nat} (h : (dig m).length < (dig n).length) : m < n := by
 have h1 := dig_lt m
 by_cases h0 : n = 0
 · subst h0; rw [dig_zero] at h; simp at h
 · have h2 := dig_ge h0
   have h3 : 65536 ^ (dig m).length ≤ 65536 ^ ((dig n).length - 1) := Nat.pow_le_pow_right (by decide) (by omega)
   omega
theorem lo_zero : ∀ k, lo k 0 = List.replicate k 0
 | 0 => rfl
 | k + 1 => by rw [lo, Nat.zero_div, lo_zero k]; rfl
/-- trimmed: the first n, behind which all are 0 -/
theorem trim_snoc0 : ∀ l : List Nat, trimL (l ++ [0]) = trimL l
 | [] => rfl
 | d :: r => by rw [List.cons_append, trimL, trimL, trim_snoc0 r]
theorem trim_snoc {d : Nat} (hd : d ≠ 0) : ∀ l : List Nat, trimL (l ++ [d]) = l ++ [d]
 | [] => by rw [List.nil_append, trimL]; simp [trimL, hd]
 | e :: r => by rw [List.cons_append, trimL, trim_snoc hd r, if_neg (by simp)]
/-- sums -/
theorem pow_split (n k : Nat) : n % 65536 ^ (k + 1) = n % 65536 ^ k + n / 65536 ^ k % 65536 * 65536 ^ k := by
 rw [Nat.pow_succ, Nat.mod_mul, Nat.mul_comm (65536 ^ k)]
theorem pow_pos (k : Nat) : 0 < 65536 ^ k := Nat.pow_pos (by decide)
/-- the carry into digit k -/
def car (a b k : Nat) : Nat := (a % 65536 ^ k + b % 65536 ^ k) / 65536 ^ k
theorem div_lin (x y p : Nat) (hp : 0 < p) : (x + y * p) / p = x / p + y := Nat.add_mul_div_right _ _ hp
theorem car_step (a b k : Nat) : car a b (k + 1) = (car a b k + a / 65536 ^ k % 65536 + b / 65536 ^ k % 65536) / 65536 := by
 have hp := pow_pos k
 unfold car
 rw [pow_split a k, pow_split b k, Nat.pow_succ, ← Nat.div_div_eq_div_mul]
 rw [show a % 65536 ^ k + a / 65536 ^ k % 65536 * 65536 ^ k + (b % 65536 ^ k + b / 65536 ^ k % 65536 * 65536 ^ k) = (a % 65536 ^ k + b % 65536 ^ k) + (a / 65536 ^ k % 65536 + b / 65536 ^ k % 65536) * 65536 ^ k by rw [Nat.add_mul]; omega]
 rw [div_lin _ _ _ hp, Nat.add_assoc]
theorem car_le (a b k : Nat) : car a b k ≤ 1 := by
 have hp := pow_pos k
 have h1 := Nat.mod_lt a hp
 have h2 := Nat.mod_lt b hp
 unfold car
 have : (a % 65536 ^ k + b % 65536 ^ k) / 65536 ^ k < 2 := Nat.div_lt_of_lt_mul (by omega)
 omega
theorem big_digit {n k : Nat} (h : n < 65536 ^ k) : n / 65536 ^ k % 65536 = 0 := by rw [Nat.div_eq_of_lt h]
/-- differences: what is borrowed of digit k -/
def bor (a b k : Nat) : Nat := if a % 65536 ^ k < b % 65536 ^ k then 1 else 0
theorem bor_zero (a b : Nat) : bor a b 0 = 0 := by unfold bor; simp [Nat.mod_one]
theorem lt_split (x y u v p : Nat) (hx : x < p) (hu : u < p) : x + y * p < u + v * p ↔ y < v ∨ (y = v ∧ x < u) := by
 constructor
 · intro h
   by_cases h1 : y < v
   · exact .inl h1
   · right
     by_cases h2 : y = v
     · subst h2; omega
     · have h3 : (v + 1) * p ≤ y * p := Nat.mul_le_mul_right p (by omega)
       rw [Nat.add_mul] at h3
       omega
 · rintro (h | ⟨rfl, h⟩)
   · have h3 : (y + 1) * p ≤ v * p := Nat.mul_le_mul_right p h
     rw [Nat.add_mul] at h3
     omega
   · omega
theorem bor_step (a b k : Nat) : bor a b (k + 1) = if a / 65536 ^ k % 65536 < bor a b k + b / 65536 ^ k % 65536 then 1 else 0 := by
 have hp := pow_pos k
 unfold bor
 rw [pow_split a k, pow_split b k]
 have h := lt_split (a % 65536 ^ k) (a / 65536 ^ k % 65536) (b % 65536 ^ k) (b / 65536 ^ k % 65536) (65536 ^ k) (Nat.mod_lt _ hp) (Nat.mod_lt _ hp)
 by_cases h1 : a % 65536 ^ k < b % 65536 ^ k
 · rw [if_pos h1]
   by_cases h2 : a / 65536 ^ k % 65536 < 1 + b / 65536 ^ k % 65536
   · rw [if_pos h2, if_pos (h.2 (by omega))]
   · rw [if_neg h2, if_neg (fun h3 => h2 (by rcases h.1 h3 with h4 | h4 <;> omega))]
 · rw [if_neg h1]
   by_cases h2 : a / 65536 ^ k % 65536 < 0 + b / 65536 ^ k % 65536
   · rw [if_pos h2, if_pos (h.2 (by omega))]
   · rw [if_neg h2, if_neg (fun h3 => h2 (by rcases h.1 h3 with h4 | h4 <;> omega))]
theorem bor_digit {a b : Nat} (h : b ≤ a) (k : Nat) : ((a - b) / 65536 ^ k % 65536 : Nat) = (a / 65536 ^ k % 65536 + 65536 * bor a b (k + 1)) - bor a b k - b / 65536 ^ k % 65536 := by
 have hp := pow_pos k
 have hd : (a - b) / 65536 ^ k + bor a b k + b / 65536 ^ k = a / 65536 ^ k := by
  have ea := Nat.mod_add_div a (65536 ^ k)
  have eb := Nat.mod_add_div b (65536 ^ k)
  have la := Nat.mod_lt a hp
  have lb := Nat.mod_lt b hp
  unfold bor
  generalize a / 65536 ^ k = qa at *
  generalize b / 65536 ^ k = qb at *
  generalize a % 65536 ^ k = ra at *
  generalize b % 65536 ^ k = rb at *
  generalize 65536 ^ k = p at *
  have hq : qb ≤ qa := by
   by_cases hq : qb ≤ qa
   · exact hq
   · have h3 : p * (qa + 1) ≤ p * qb := Nat.mul_le_mul_left p (by omega)
     rw [Nat.mul_add] at h3
     omega
  obtain ⟨m, rfl⟩ : ∃ m, qa = qb + m := ⟨qa - qb, by omega⟩
  rw [Nat.mul_add] at ea
  split
  · next h1 =>
    have hm : m ≠ 0 := fun e => by subst e; omega
    obtain ⟨j, rfl⟩ : ∃ j, m = j + 1 := ⟨m - 1, by omega⟩
    rw [Nat.mul_add] at ea
    have : a - b = (p + ra - rb) + p * j := by omega
    rw [this, Nat.add_mul_div_left _ _ hp, Nat.div_eq_of_lt (by omega)]
    omega
  · next h1 =>
    have : a - b = (ra - rb) + p * m := by omega
    rw [this, Nat.add_mul_div_left _ _ hp, Nat.div_eq_of_lt (by omega)]
    omega
 rw [bor_step]
 have hb1 : bor a b k ≤ 1 := by unfold bor; split <;> omega
 generalize (a - b) / 65536 ^ k = x at *
 generalize a / 65536 ^ k = y at *
 generalize b / 65536 ^ k = z at *
 generalize bor a b k = c at *
 split <;> omega
open Go.RowKit Go.Proofs.YtfpcelmekfdafaaDoor.Ow
def iv (l : List Nat) : List Value := l.map fun (d : Nat) => Value.int .i64 (d : Int)
theorem iv_len (l : List Nat) : (iv l).length = l.length := by unfold iv; simp
theorem iv_get {l : List Nat} {j d : Nat} (h : l[j]? = some d) : (iv l)[j]? = some (.int .i64 (d : Int)) := by unfold iv; simp [h]
theorem iv_snoc (l : List Nat) (d : Nat) : iv l ++ [Value.int .i64 (d : Int)] = iv (l ++ [d]) := by unfold iv; simp
/-- v is a slice of ints that reads as l -/
def Ns (w : World) (v : Value) (l : List Nat) : Prop := ∃ (A : Option Addr) (c : Nat), v = .slice A l.length c ∧ Rd w A (iv l) ∧ l.length ≤ c
theorem Ns.below {w w' : World} {v : Value} {l : List Nat} (h : Ns w v l) (hb : Below w.heap.size w w') : Ns w' v l := by
 obtain ⟨A, c, h1, h2, h3⟩ := h
 exact ⟨A, c, h1, h2.below hb, h3⟩
theorem Ns.nil (w : World) : Ns w (.slice none 0 0) [] := ⟨none, 0, rfl, Rd.nil _ _, Nat.le_refl _⟩
theorem Ns.owns {w : World} {B : Nat} {E : TypeId} {v : Value} {l : List Nat} (h : Owns w B E v (iv l)) : Ns w v l := by
 obtain ⟨A, c, h1, h2, h3⟩ := h.form
 rw [iv_len] at h1 h3
 exact ⟨A, c, h1, h2, h3⟩
theorem Ns.at_ {w : World} {A : Option Addr} {l : List Nat} (h : Rd w A (iv l)) {j : Nat} (hj : j < l.length) : ∃ b o, A = some ⟨b, o, none⟩ ∧ b < w.heap.size ∧ w.cell? ⟨b, o + j, none⟩ = some (.int .i64 (l[j] : Nat)) := by
 obtain ⟨b, o, h1, h2, h3⟩ := h j _ (iv_get (List.getElem?_eq_getElem hj))
 exact ⟨b, o, h1, h2, h3⟩
theorem Rd.take {w : World} {A : Option Addr} {l : List Nat} (h : Rd w A (iv l)) (k : Nat) : Rd w A (iv (l.take k)) := fun j x hx => by
 refine h j x ?_
 unfold iv at *
 rw [List.map_take, List.getElem?_take] at hx
 split at hx
 · exact hx
 · cases hx
theorem own_grown {w w1 w2 : World} {E : TypeId} {v : Value} {xs : List Value} (h : Below w.heap.size w w1) (ho : Owns w1 w.heap.size E v xs) (hg : w1.grownBy w2 v.ownBlock) : Below w.heap.size w w2 :=
 Below.grown h hg h.size (fun k hk => (ho.lt k hk).1)
theorem own_g {w : World} {B : Nat} {E : TypeId} {g n c : Nat} {xs : List Value} (h : Owns w B E (.slice (some ⟨g, 0, none⟩) n c) xs) : B ≤ g ∧ g < w.heap.size ∧ xs.length = n := by
 obtain ⟨hl, h⟩ := h
 rcases h with ⟨h0, _⟩ | ⟨g', cap, cur, hv, hb, hg, hc, hm, hsz, htk⟩
 · cases h0
 · cases hv
   exact ⟨hb, (Array.getElem?_eq_some_iff.1 hg).1, rfl⟩
theorem own_cell {w : World} {B : Nat} {E : TypeId} {g n c : Nat} {xs : List Value} (h : Owns w B E (.slice (some ⟨g, 0, none⟩) n c) xs) {j : Nat} {x : Value} (hx : xs[j]? = some x) : w.cell? ⟨g, j, none⟩ = some x ∧ w.frozen? ⟨g, j, none⟩ = false := by
 obtain ⟨hl, h⟩ := h
 rcases h with ⟨h0, _⟩ | ⟨g', cap, cur, hv, hb, hg, hc, hm, hsz, htk⟩
 · cases h0
 · cases hv
   refine ⟨?_, frozen_of_row w g j _ _ hg⟩
   rw [cell_of_row w g j _ _ _ hg]
   have := hx
   rw [← htk, List.getElem?_take] at this
   split at this
   · rw [← this, Array.getElem?_toList]
   · cases this
theorem own_set {w : World} {B : Nat} {E : TypeId} {g n c : Nat} {xs : List Value} (h : Owns w B E (.slice (some ⟨g, 0, none⟩) n c) xs) (j : Nat) (y : Value) : Owns (w.setCell ⟨g, j, none⟩ y) B E (.slice (some ⟨g, 0, none⟩) n c) (xs.set j y) := by
 obtain ⟨hl, h⟩ := h
 rcases h with ⟨h0, _⟩ | ⟨g', cap, cur, hv, hb, hg, hc, hm, hsz, htk⟩
 · cases h0
 · cases hv
   refine ⟨by rw [List.length_set]; exact hl, .inr ⟨g, c, cur.setIfInBounds j y, by rw [List.length_set], hb, ?_, by rw [List.length_set]; exact hc, hm, by rw [Array.size_setIfInBounds]; exact hsz, ?_⟩⟩
   · rw [heap_setCell_same w g j _ _ _ hg]
   · rw [List.length_set, Array.toList_setIfInBounds, List.take_set, htk]
theorem own_set_below {w w1 : World} {B : Nat} {E : TypeId} {g n c : Nat} {xs : List Value} (h : Owns w1 B E (.slice (some ⟨g, 0, none⟩) n c) xs) (hb : Below B w w1) (hB : B ≤ w1.heap.size) (j : Nat) (y : Value) : Below B w (w1.setCell ⟨g, j, none⟩ y) :=
 Below.grown hb (Cl.grown_setCell w1 g j y) hB (fun k hk => by cases hk; exact (own_g h).1)
theorem iv_set (l : List Nat) (j d : Nat) : (iv l).set j (.int .i64 (d : Int)) = iv (l.set j d) := by unfold iv; rw [List.map_set]
/-- a slice of n zeros, made -/
theorem make0 {ops : Array Oper} {rest : List Oper} {o : Oper} {a : Act} {w : World} {Q : Exit → Act → World → Prop} (hg : o.guard = none) (l c : Operand) (hop : o.op = Op.makeSlice 30 l c)
 (L C : Int) (n : Nat) (hl : a.eval l = .int .i64 L) (hc : a.eval c = .int .i64 C) (hL : L = (n : Int)) (hC : C = (n : Int)) (hn : n ≤ 1000000)
 (hK : ∀ w', Owns w' w.heap.size 3 (.slice (some ⟨w.heap.size, 0, none⟩) n n) (iv (lo n 0)) → w.grownBy w' none → wpList Tryd.prog ops Q rest (a.put o.dst (.slice (some ⟨w.heap.size, 0, none⟩) n n)) w') :
 wpList Tryd.prog ops Q (o :: rest) a w := by
 obtain ⟨i, hi, hz, hs, hb⟩ := info_parts (show (Tryd.prog.info? 3).map (fun i => (i.zero, i.size, i.bytes)) = some (some (.int .i64 0), 1, 8) by kernel_rfl)
 refine wpList_make_full w hg l c 30 hop w.heap.size 3 i (.int .i64 0) 1 Tryd.underlying30 hi hz hs .i64 .i64 L C n hl hc hL hC (by rw [hb]; omega) (by unfold maxLen; omega) (Nat.le_refl _) ?_
 intro w' h1 h2
 refine hK w' ?_ h2
 have e : (madeCells (Value.int .i64 0).cells (n * 1)).toList = iv (lo n 0) := by
  rw [lo_zero, Nat.mul_one]
  unfold iv madeCells
  apply List.ext_getElem?
  intro j
  by_cases hj : j < n
  · simp [Value.cells, hj, Nat.mod_one]
  · simp [Value.cells, hj]
 rw [e] at h1
 have hl2 : (iv (lo n 0)).length = n := by rw [iv_len, lo_len]
 unfold Owns
 rw [hl2]
 exact h1
theorem trim_take0 {l : List Nat} {k : Nat} (hk : k < l.length) (h0 : l[k] = 0) : trimL (l.take (k + 1)) = trimL (l.take k) := by
 rw [List.take_add_one, List.getElem?_eq_getElem hk, h0]
 exact trim_snoc0 _
theorem trim_take1 {l : List Nat} {k : Nat} (hk : k < l.length) (h0 : l[k] ≠ 0) : trimL (l.take (k + 1)) = l.take (k + 1) := by
 rw [List.take_add_one, List.getElem?_eq_getElem hk]
 exact trim_snoc h0 _
theorem trim_any (w : World) (v : Value) (l : List Nat) (h : Ns w v l) (hn : l.length ≤ 1000000) :
 Calls Tryd.prog 40 #[v] w fun e w' => (∃ u, e = .returned u ∧ Ns w u (trimL l)) ∧ w = w' := by
 obtain ⟨A, c, rfl, hR, hc⟩ := h
 obtain ⟨n, hnl⟩ : ∃ n, l.length = n := ⟨_, rfl⟩
 have HR := ϕ hR
 have HLN := ϕ hnl
 have HT := ϕ (show trimL l = trimL (l.take n) by rw [← hnl, List.take_length])
 rw [hnl] at hc hn ⊢
 clear hR hnl
 go_enter Tryd.func40, Tryd.ntmps40
 go_wp2
 go_loopw [3] (fun i wr => ∃ k : Nat, k ≤ n ∧ i = .int .i64 k ∧ trimL l = trimL (l.take k) ∧ w = wr) (fun i _ => (intOf i).toNat)
 case atStart => exact ⟨n, Nat.le_refl _, rfl, HT.out, rfl⟩
 case round =>
  obtain ⟨k, hk, rfl, ht, rfl⟩ := hrel
  clear HT
  have HT := ϕ ht
  clear ht
  by_cases h0 : k = 0
  · subst h0
    have HN := ϕ (show Ns w (.slice A 0 c) (trimL l) from by rw [HT.out]; exact ⟨A, c, rfl, Rd.nil _ _, Nat.zero_le _⟩)
    go_wp2
    go_ret
    exact ⟨⟨_, rfl, HN.out⟩, rfl⟩
  · obtain ⟨m, rfl⟩ : ∃ m, k = m + 1 := ⟨k - 1, by omega⟩
    have hmk : m < l.length := by have := HLN.out; omega
    obtain ⟨b, o, hA, hl, hcell⟩ := Ns.at_ HR.out hmk
    subst hA
    by_cases hd : l[m] = 0
    · have HN := ϕ (show trimL l = trimL (l.take m) by rw [HT.out, trim_take0 hmk hd])
      have hz : ((l[m] : Nat) : Int) = 0 := by omega
      rw [hz] at hcell
      have hgt : (0 : Int) < (m : Int) + 1 := by omega
      clear HT hz hd
      go_wp2_with fail
      go_roundw
      case rel =>
       have REL := ϕ (show ∃ k' : Nat, k' ≤ n ∧ Value.int .i64 (m : Int) = .int .i64 k' ∧ trimL l = trimL (l.take k') ∧ w = w from ⟨m, by omega, rfl, HN.out, rfl⟩)
       first
        | exact REL.out
        | exact ⟨m, by omega, rfl, HN.out, trivial⟩
        | ((repeat apply Exists.intro); refine ⟨?_, rfl⟩; exact REL.out)
      case measure => (first | (simp [intOf]; done) | (simp [intOf]; omega))
    · have HN := ϕ (show Ns w (.slice (some ⟨b, o, none⟩) (m + 1) c) (trimL l) from by
       have e : trimL l = l.take (m + 1) := by rw [HT.out]; exact trim_take1 hmk hd
       have e2 : (l.take (m + 1)).length = m + 1 := by rw [List.length_take]; omega
       rw [e]
       exact ⟨some ⟨b, o, none⟩, c, by rw [e2], Rd.take HR.out (m + 1), by rw [e2]; omega⟩)
      have hz : (((l[m] : Nat) : Int) == 0) = false := by rw [beq_eq_false_iff_ne]; omega
      have hgt : (0 : Int) < (m : Int) + 1 := by omega
      clear HT hd
      go_wp2_with fail
      go_ret
      exact ⟨⟨_, rfl, HN.out⟩, rfl⟩
theorem Small_any (w : World) (n : Nat) (hn : n < 9223372036854775808) :
 Calls Tryd.prog 20 #[.int .i64 n] w fun e w' => (∃ u, e = .returned u ∧ Ns w' u (dig n)) ∧ Below w.heap.size w w' := by
 have HON := ϕ (show Owns (w.alloc (.cells #[] 3)) w.heap.size 3 (.slice (some ⟨w.heap.size, 0, none⟩) 0 0) (iv []) from Owns.new w w.heap.size 3 [] (Nat.le_refl _) (by decide))
 have HBA := ϕ (show Below w.heap.size w (w.alloc (.cells #[] 3)) from (Below.refl _ _).alloc (Nat.le_refl _) _)
 have HDL := ϕ (show (dig n).length ≤ 4 from dig_len_le (by omega))
 go_enter Tryd.func20, Tryd.ntmps20
 go_wp2
 go_loopw [0, 3] (fun x v wr => ∃ (y : Nat) (l : List Nat), x = .int .i64 y ∧ y ≤ n ∧ Owns wr w.heap.size 3 v (iv l) ∧ dig n = l ++ dig y ∧ Below w.heap.size w wr) (fun x _ _ => (intOf x).toNat)
 case atStart => exact ⟨n, [], rfl, Nat.le_refl _, HON.out, rfl, HBA.out⟩
 case round =>
  obtain ⟨y, l, rfl, hy, hO, hD, hB⟩ := hrel
  clear HON HBA
  have HO := ϕ hO
  have HD := ϕ hD
  have HB := ϕ hB
  have HSB := ϕ hB.size
  clear hO hD hB
  by_cases h0 : y = 0
  · subst h0
    have HN := ϕ (show Ns wr u3 (dig n) from by rw [HD.out, dig_zero, List.append_nil]; exact Ns.owns HO.out)
    go_wp2_with fail
    go_ret
    exact ⟨⟨_, rfl, HN.out⟩, HB.out⟩
  · have hgt : (0 : Int) < (y : Int) := by omega
    have hrm : IntKind.i64.wrap ((y : Int) % 65536) = ((y % 65536 : Nat) : Int) := by simp [IntKind.wrap, IntKind.bits, IntKind.signed]; omega
    have HD2 := ϕ (show dig n = (l ++ [y % 65536]) ++ dig (y / 65536) by rw [HD.out, dig_pos h0, List.append_assoc]; rfl)
    have HLE := ϕ (show (iv l).length ≤ 4 by rw [iv_len]; have h1 := HDL.out; rw [HD.out, List.length_append] at h1; omega)
    clear HD
    go_wp2_with (refine app1 rfl _ _ 30 rfl (E := 3) (z := .int .i64 0) (by' := 8) rfl rfl rfl (by decide) HO.out rfl rfl rfl (by have h1 := HLE.out; omega) HSB.out ?_; rintro v6 w6 h2 h3 h4; have HO6 := ϕ h2; have HB6 := ϕ (own_grown HB.out HO.out h3); clear h2 h3 h4)
    go_roundw
    case rel =>
     have REL := ϕ (show ∃ (y2 : Nat) (l2 : List Nat), Value.int .i64 ((y : Int) / 65536) = .int .i64 y2 ∧ y2 ≤ n ∧ Owns w6 w.heap.size 3 v6 (iv l2) ∧ dig n = l2 ++ dig y2 ∧ Below w.heap.size w w6 from ⟨y / 65536, l ++ [y % 65536], by congr 1, by omega, by rw [← iv_snoc]; exact HO6.out, HD2.out, HB6.out⟩)
     first
      | exact REL.out
      | ((repeat apply Exists.intro); refine ⟨?_, rfl⟩; exact REL.out)
    case measure => (first | (simp [intOf]; done) | (simp [intOf]; omega))
theorem Sub_any (w : World) (v1 v2 : Value) (a b : Nat) (h1 : Ns w v1 (dig a)) (h2 : Ns w v2 (dig b)) (hab : b ≤ a) (ha : (dig a).length ≤ 10000) :
 Calls Tryd.prog 18 #[v1, v2] w fun e w' => (∃ u, e = .returned u ∧ Ns w' u (dig (a - b))) ∧ Below w.heap.size w w' := by
 have hlb : (dig b).length ≤ (dig a).length := Nat.le_of_not_lt fun h => by have := dig_len_lt h; omega
 obtain ⟨A1, c1, rfl, hR1, hc1⟩ := h1
 obtain ⟨A2, c2, rfl, hR2, hc2⟩ := h2
 obtain ⟨n1, hn1⟩ : ∃ n, (dig a).length = n := ⟨_, rfl⟩
 obtain ⟨n2, hn2⟩ : ∃ n, (dig b).length = n := ⟨_, rfl⟩
 have HR1 := ϕ hR1
 have HR2 := ϕ hR2
 have HL1 := ϕ hn1
 have HL2 := ϕ hn2
 have HAB := ϕ hab
 rw [hn1] at hc1 ha hlb ⊢
 rw [hn2] at hc2 hlb ⊢
 have HON := ϕ (show Owns (w.alloc (.cells #[] 3)) w.heap.size 3 (.slice (some ⟨w.heap.size, 0, none⟩) 0 0) (iv (lo 0 (a - b))) from Owns.new w w.heap.size 3 [] (Nat.le_refl _) (by decide))
 have HBA := ϕ (show Below w.heap.size w (w.alloc (.cells #[] 3)) from (Below.refl _ _).alloc (Nat.le_refl _) _)
 clear hR1 hR2 hn1 hn2 hab
 go_enter Tryd.func18, Tryd.ntmps18
 go_wp2
 go_loopw [5, 6, 7, 8, 12] (fun v c _ _ i wr => ∃ k cc : Nat, i = .int .i64 k ∧ c = .int .i64 cc ∧ k ≤ n1 ∧ cc ≤ 1 ∧ bor a b k = cc ∧ Owns wr w.heap.size 3 v (iv (lo k (a - b))) ∧ Below w.heap.size w wr) (fun _ _ _ _ i _ => n1 - (intOf i).toNat)
 case atStart => exact ⟨0, 0, rfl, rfl, by omega, by omega, bor_zero a b, HON.out, HBA.out⟩
 case round =>
  obtain ⟨k, cc, rfl, rfl, hk, hcc, hC, hO, hB⟩ := hrel
  clear HON HBA
  have HC := ϕ hC
  have HO := ϕ hO
  have HB := ϕ hB
  have HSB := ϕ hB.size
  have HLE := ϕ (show (iv (lo k (a - b))).length ≤ 30000 by rw [iv_len, lo_len]; omega)
  clear hC hO hB
  by_cases g1 : k < n1
  · by_cases g2 : k < n2
    · have hik : (k : Int) < (n1 : Int) := by omega
      have hdk : decide ((k : Int) < (n1 : Int)) = true := by rw [decide_eq_true_iff]; omega
      obtain ⟨b1, o1, hA1, hl1, hcell1⟩ := Ns.at_ HR1.out (show k < (dig a).length by have := HL1.out; omega)
      obtain ⟨x1, hx1⟩ : ∃ x, x = a / 65536 ^ k % 65536 := ⟨_, rfl⟩
      have hxl1 : x1 < 65536 := by omega
      have HX1 := ϕ hx1
      rw [show (dig a)[k]'(by have := HL1.out; omega) = x1 from by have := dig_get (n := a) (i := k) (by have := HL1.out; omega); rw [List.getElem?_eq_getElem (by have := HL1.out; omega)] at this; rw [hx1]; exact Option.some.inj this] at hcell1
      replace hcell1 : wr.cell? ⟨b1, o1 + k, none⟩ = some (.int .i64 (x1 : Nat)) := by rw [← hcell1]; exact HB.out.cell (p := ⟨b1, o1 + k, none⟩) hl1
      subst hA1
      clear hx1
      have hd2 : decide ((k : Int) < (n2 : Int)) = true := by rw [decide_eq_true_iff]; omega
      have hi2 : (k : Int) < (n2 : Int) := by omega
      obtain ⟨b2, o2, hA2, hl2, hcell2⟩ := Ns.at_ HR2.out (show k < (dig b).length by have := HL2.out; omega)
      obtain ⟨x2, hx2⟩ : ∃ x, x = b / 65536 ^ k % 65536 := ⟨_, rfl⟩
      have hxl2 : x2 < 65536 := by omega
      have HX2 := ϕ hx2
      rw [show (dig b)[k]'(by have := HL2.out; omega) = x2 from by have := dig_get (n := b) (i := k) (by have := HL2.out; omega); rw [List.getElem?_eq_getElem (by have := HL2.out; omega)] at this; rw [hx2]; exact Option.some.inj this] at hcell2
      replace hcell2 : wr.cell? ⟨b2, o2 + k, none⟩ = some (.int .i64 (x2 : Nat)) := by rw [← hcell2]; exact HB.out.cell (p := ⟨b2, o2 + k, none⟩) hl2
      subst hA2
      clear hx2
      by_cases hneg : (x1 : Int) - (cc : Int) - (x2 : Int) < 0
      · have hdn : decide ((x1 : Int) - (cc : Int) - (x2 : Int) < 0) = true := by rw [decide_eq_true_iff]; exact hneg
        have HN := ϕ (show lo (k + 1) (a - b) = lo k (a - b) ++ [x1 + 65536 - cc - x2] ∧ bor a b (k + 1) = 1 by
         have h1 : bor a b (k + 1) = 1 := by rw [bor_step, HC.out, ← HX1.out, ← HX2.out, if_pos (by omega)]
         refine ⟨?_, h1⟩
         rw [lo_snoc, bor_digit HAB.out, h1, HC.out, ← HX1.out, ← HX2.out, Nat.mul_one])
        have HG := ϕ (show (x1 : Int) - (cc : Int) - (x2 : Int) + 65536 = ((x1 + 65536 - cc - x2 : Nat) : Int) by omega)
        clear HC HX1 HX2
        go_wp2_with (refine app1 rfl _ _ 30 rfl (E := 3) (z := .int .i64 0) (by' := 8) rfl rfl rfl (by decide) HO.out rfl rfl rfl (by have h1 := HLE.out; omega) HSB.out ?_; rintro v6 w6 h2 h3 h4; have HO6 := ϕ h2; have HB6 := ϕ (own_grown HB.out HO.out h3); clear h2 h3 h4)
        go_roundw
        case rel =>
         have REL := ϕ (show ∃ k2 c2 : Nat, Value.int .i64 ((k : Int) + 1) = .int .i64 k2 ∧ Value.int .i64 1 = .int .i64 c2 ∧ k2 ≤ n1 ∧ c2 ≤ 1 ∧ bor a b k2 = c2 ∧ Owns w6 w.heap.size 3 v6 (iv (lo k2 (a - b))) ∧ Below w.heap.size w w6 from ⟨k + 1, 1, by go_num, rfl, by omega, by omega, HN.out.2, by rw [HN.out.1, ← iv_snoc, ← HG.out]; exact HO6.out, HB6.out⟩)
         first
          | exact REL.out
          | ((repeat apply Exists.intro); refine ⟨?_, rfl⟩; exact REL.out)
        case measure => (first | (simp [intOf]; done) | (simp [intOf]; omega))
      · have hdn : decide ((x1 : Int) - (cc : Int) - (x2 : Int) < 0) = false := by rw [decide_eq_false_iff_not]; exact hneg
        have HN := ϕ (show lo (k + 1) (a - b) = lo k (a - b) ++ [x1 - cc - x2] ∧ bor a b (k + 1) = 0 by
         have h1 : bor a b (k + 1) = 0 := by rw [bor_step, HC.out, ← HX1.out, ← HX2.out, if_neg (by omega)]
         refine ⟨?_, h1⟩
         rw [lo_snoc, bor_digit HAB.out, h1, HC.out, ← HX1.out, ← HX2.out, Nat.mul_zero, Nat.add_zero])
        have HG := ϕ (show (x1 : Int) - (cc : Int) - (x2 : Int) = ((x1 - cc - x2 : Nat) : Int) by omega)
        clear HC HX1 HX2
        go_wp2_with (refine app1 rfl _ _ 30 rfl (E := 3) (z := .int .i64 0) (by' := 8) rfl rfl rfl (by decide) HO.out rfl rfl rfl (by have h1 := HLE.out; omega) HSB.out ?_; rintro v6 w6 h2 h3 h4; have HO6 := ϕ h2; have HB6 := ϕ (own_grown HB.out HO.out h3); clear h2 h3 h4)
        go_roundw
        case rel =>
         have REL := ϕ (show ∃ k2 c2 : Nat, Value.int .i64 ((k : Int) + 1) = .int .i64 k2 ∧ Value.int .i64 0 = .int .i64 c2 ∧ k2 ≤ n1 ∧ c2 ≤ 1 ∧ bor a b k2 = c2 ∧ Owns w6 w.heap.size 3 v6 (iv (lo k2 (a - b))) ∧ Below w.heap.size w w6 from ⟨k + 1, 0, by go_num, rfl, by omega, by omega, HN.out.2, by rw [HN.out.1, ← iv_snoc, ← HG.out]; exact HO6.out, HB6.out⟩)
         first
          | exact REL.out
          | ((repeat apply Exists.intro); refine ⟨?_, rfl⟩; exact REL.out)
        case measure => (first | (simp [intOf]; done) | (simp [intOf]; omega))
    · have hik : (k : Int) < (n1 : Int) := by omega
      have hdk : decide ((k : Int) < (n1 : Int)) = true := by rw [decide_eq_true_iff]; omega
      obtain ⟨b1, o1, hA1, hl1, hcell1⟩ := Ns.at_ HR1.out (show k < (dig a).length by have := HL1.out; omega)
      obtain ⟨x1, hx1⟩ : ∃ x, x = a / 65536 ^ k % 65536 := ⟨_, rfl⟩
      have hxl1 : x1 < 65536 := by omega
      have HX1 := ϕ hx1
      rw [show (dig a)[k]'(by have := HL1.out; omega) = x1 from by have := dig_get (n := a) (i := k) (by have := HL1.out; omega); rw [List.getElem?_eq_getElem (by have := HL1.out; omega)] at this; rw [hx1]; exact Option.some.inj this] at hcell1
      replace hcell1 : wr.cell? ⟨b1, o1 + k, none⟩ = some (.int .i64 (x1 : Nat)) := by rw [← hcell1]; exact HB.out.cell (p := ⟨b1, o1 + k, none⟩) hl1
      subst hA1
      clear hx1
      have hd2 : decide ((k : Int) < (n2 : Int)) = false := by rw [decide_eq_false_iff_not]; omega
      have hi2 : ¬ (k : Int) < (n2 : Int) := by omega
      obtain ⟨x2, hx2⟩ : ∃ x, x = b / 65536 ^ k % 65536 := ⟨_, rfl⟩
      have hx02 : x2 = 0 := by rw [hx2]; exact big_digit (Nat.lt_of_lt_of_le (dig_lt b) (Nat.pow_le_pow_right (by decide) (by have := HL2.out; omega)))
      have HX2 := ϕ hx2
      clear hx2
      by_cases hneg : (x1 : Int) - (cc : Int) < 0
      · have hdn : decide ((x1 : Int) - (cc : Int) < 0) = true := by rw [decide_eq_true_iff]; exact hneg
        have HN := ϕ (show lo (k + 1) (a - b) = lo k (a - b) ++ [x1 + 65536 - cc - x2] ∧ bor a b (k + 1) = 1 by
         have h1 : bor a b (k + 1) = 1 := by rw [bor_step, HC.out, ← HX1.out, ← HX2.out, if_pos (by omega)]
         refine ⟨?_, h1⟩
         rw [lo_snoc, bor_digit HAB.out, h1, HC.out, ← HX1.out, ← HX2.out, Nat.mul_one])
        have HG := ϕ (show (x1 : Int) - (cc : Int) + 65536 = ((x1 + 65536 - cc - x2 : Nat) : Int) by omega)
        clear HC HX1 HX2
        go_wp2_with (refine app1 rfl _ _ 30 rfl (E := 3) (z := .int .i64 0) (by' := 8) rfl rfl rfl (by decide) HO.out rfl rfl rfl (by have h1 := HLE.out; omega) HSB.out ?_; rintro v6 w6 h2 h3 h4; have HO6 := ϕ h2; have HB6 := ϕ (own_grown HB.out HO.out h3); clear h2 h3 h4)
        go_roundw
        case rel =>
         have REL := ϕ (show ∃ k2 c2 : Nat, Value.int .i64 ((k : Int) + 1) = .int .i64 k2 ∧ Value.int .i64 1 = .int .i64 c2 ∧ k2 ≤ n1 ∧ c2 ≤ 1 ∧ bor a b k2 = c2 ∧ Owns w6 w.heap.size 3 v6 (iv (lo k2 (a - b))) ∧ Below w.heap.size w w6 from ⟨k + 1, 1, by go_num, rfl, by omega, by omega, HN.out.2, by rw [HN.out.1, ← iv_snoc, ← HG.out]; exact HO6.out, HB6.out⟩)
         first
          | exact REL.out
          | ((repeat apply Exists.intro); refine ⟨?_, rfl⟩; exact REL.out)
        case measure => (first | (simp [intOf]; done) | (simp [intOf]; omega))
      · have hdn : decide ((x1 : Int) - (cc : Int) < 0) = false := by rw [decide_eq_false_iff_not]; exact hneg
        have HN := ϕ (show lo (k + 1) (a - b) = lo k (a - b) ++ [x1 - cc - x2] ∧ bor a b (k + 1) = 0 by
         have h1 : bor a b (k + 1) = 0 := by rw [bor_step, HC.out, ← HX1.out, ← HX2.out, if_neg (by omega)]
         refine ⟨?_, h1⟩
         rw [lo_snoc, bor_digit HAB.out, h1, HC.out, ← HX1.out, ← HX2.out, Nat.mul_zero, Nat.add_zero])
        have HG := ϕ (show (x1 : Int) - (cc : Int) = ((x1 - cc - x2 : Nat) : Int) by omega)
        clear HC HX1 HX2
        go_wp2_with (refine app1 rfl _ _ 30 rfl (E := 3) (z := .int .i64 0) (by' := 8) rfl rfl rfl (by decide) HO.out rfl rfl rfl (by have h1 := HLE.out; omega) HSB.out ?_; rintro v6 w6 h2 h3 h4; have HO6 := ϕ h2; have HB6 := ϕ (own_grown HB.out HO.out h3); clear h2 h3 h4)
        go_roundw
        case rel =>
         have REL := ϕ (show ∃ k2 c2 : Nat, Value.int .i64 ((k : Int) + 1) = .int .i64 k2 ∧ Value.int .i64 0 = .int .i64 c2 ∧ k2 ≤ n1 ∧ c2 ≤ 1 ∧ bor a b k2 = c2 ∧ Owns w6 w.heap.size 3 v6 (iv (lo k2 (a - b))) ∧ Below w.heap.size w w6 from ⟨k + 1, 0, by go_num, rfl, by omega, by omega, HN.out.2, by rw [HN.out.1, ← iv_snoc, ← HG.out]; exact HO6.out, HB6.out⟩)
         first
          | exact REL.out
          | ((repeat apply Exists.intro); refine ⟨?_, rfl⟩; exact REL.out)
        case measure => (first | (simp [intOf]; done) | (simp [intOf]; omega))
  · have hik : ¬ (k : Int) < (n1 : Int) := by omega
    have hdk : decide ((k : Int) < (n1 : Int)) = false := by rw [decide_eq_false_iff_not]; omega
    have HNS := ϕ (Ns.owns HO.out)
    have HT := ϕ (show trimL (lo k (a - b)) = dig (a - b) from by
     have e1 := dig_lt a
     rw [HL1.out] at e1
     refine trim_lo _ _ (Nat.lt_of_lt_of_le (Nat.lt_of_le_of_lt (Nat.sub_le _ _) e1) (Nat.pow_le_pow_right (by decide) (by omega))))
    have HTR := ϕ (trim_any wr u5 _ HNS.out (by rw [lo_len]; omega))
    clear HC
    go_wp2_with (go_at_call 40; refine HTR.out.mono ?_; rintro e w7 ⟨⟨u, rfl, h7⟩, rfl⟩; have H7 := ϕ h7; clear h7)
    go_ret
    exact ⟨⟨_, rfl, HT.out ▸ H7.out⟩, HB.out⟩
end Go.Proofs.YtfpcelmekfdafaaDoor.Dg
namespace Go.Proofs.YtfpcelmekfdafaaDoor.Sha
open Go.Proofs.YtfpcelmekfdafaaDoor.Cl (nth nth_getD)
/-- turned to the right, in words of W bits -/
def rot (W x n : Nat) : Nat := (x / 2 ^ n ||| x * 2 ^ (W - n)) % 2 ^ W
theorem rot_lt (W x n : Nat) : rot W x n < 2 ^ W := Nat.mod_lt _ (Nat.two_pow_pos W)
theorem rot_left (W x n : Nat) (hx : x < 2 ^ W) : (x * 2 ^ (W - n) % 2 ^ W) ||| (x / 2 ^ n) = rot W x n := by
 unfold rot
 rw [Nat.or_mod_two_pow, Nat.mod_eq_of_lt (Nat.lt_of_le_of_lt (Nat.div_le_self x _) hx), Nat.or_comm]
/-- two turns and a third thing -/
def three (W x a b c : Nat) : Nat := rot W x a ^^^ rot W x b ^^^ rot W x c
def threeS (W x a b c : Nat) : Nat := rot W x a ^^^ rot W x b ^^^ (x / 2 ^ c)
/-- bytes as a number, the first the highest -/
def beN (l : List UInt8) : Nat := l.foldl (fun a b => a * 256 + b.toNat) 0
theorem beN_snoc (l : List UInt8) (b : UInt8) : beN (l ++ [b]) = beN l * 256 + b.toNat := by simp [beN]
theorem beN_lt : ∀ (l : List UInt8), beN l < 256 ^ l.length := by
 suffices ∀ (l : List UInt8) (m : Nat), l.reverse.length = m → beN l.reverse < 256 ^ m by
  intro l; have := this l.reverse l.length (by simp); rwa [List.reverse_reverse] at this
 intro l
 induction l with
 | nil => intro m h; simp at h; subst h; decide
 | cons b l ih =>
  intro m h
  simp at h
  subst h
  rw [List.reverse_cons, beN_snoc]
  have := ih l.length (by simp)
  have hb : b.toNat < 256 := b.toNat_lt
  rw [Nat.pow_succ]
  omega
/-- the functions on words, at either width -/
def sg0 (W x : Nat) : Nat := if W = 32 then threeS 32 x 7 18 3 else threeS 64 x 1 8 7
def sg1 (W x : Nat) : Nat := if W = 32 then threeS 32 x 17 19 10 else threeS 64 x 19 61 6
def ep0 (W x : Nat) : Nat := if W = 32 then three 32 x 2 13 22 else three 64 x 28 34 39
def ep1 (W x : Nat) : Nat := if W = 32 then three 32 x 6 11 25 else three 64 x 14 18 41
/-- the first t words of a block -/
def sched (W : Nat) (blk : List UInt8) : Nat → List Nat
 | 0 => []
 | t + 1 =>
  let l := sched W blk t
  l ++ [if t < 16 then beN ((blk.drop (t * (W / 8))).take (W / 8))
   else (sg1 W (nth l (t - 2)) + nth l (t - 7) + sg0 W (nth l (t - 15)) + nth l (t - 16)) % 2 ^ W]
theorem sched_length (W : Nat) (blk : List UInt8) (t : Nat) : (sched W blk t).length = t := by
 induction t with
 | zero => rfl
 | succ t ih => simp [sched, ih]
theorem sched_lt (W : Nat) (hW : W = 32 ∨ W = 64) (blk : List UInt8) (t : Nat) : ∀ x ∈ sched W blk t, x < 2 ^ W := by
 induction t with
 | zero => simp [sched]
 | succ t ih =>
  intro x hx
  simp only [sched, List.mem_append, List.mem_singleton] at hx
  rcases hx with hx | rfl
  · exact ih x hx
  · split
    · have h1 := beN_lt ((blk.drop (t * (W / 8))).take (W / 8))
      have h2 : ((blk.drop (t * (W / 8))).take (W / 8)).length ≤ W / 8 := List.length_take_le _ _
      refine Nat.lt_of_lt_of_le h1 (Nat.le_trans (Nat.pow_le_pow_right (by decide) h2) ?_)
      rcases hW with rfl | rfl <;> decide
    · exact Nat.mod_lt _ (Nat.two_pow_pos W)
theorem getD_lt {l : List Nat} {b : Nat} (h : ∀ x ∈ l, x < b) (hb : 0 < b) (i : Nat) : nth l i < b := by
 rw [nth_getD, List.getD_eq_getElem?_getD]
 cases hi : l[i]? with
 | none => simpa using hb
 | some x => simpa using h x (List.mem_of_getElem? hi)
/-- 80 places -/
def pad80 (l : List Nat) : List Nat := l ++ List.replicate (80 - l.length) 0
theorem pad80_length (l : List Nat) (h : l.length ≤ 80) : (pad80 l).length = 80 := by simp [pad80]; omega
theorem pad80_getD (l : List Nat) (i : Nat) (h : i < l.length) : nth (pad80 l) i = nth l i := by
 simp [nth, pad80, List.getElem?_append_left h]
theorem pad80_set (l : List Nat) (x : Nat) (h : l.length < 80) : (pad80 l).set l.length x = pad80 (l ++ [x]) := by
 obtain ⟨m, hm⟩ : ∃ m, 80 - l.length = m + 1 := ⟨80 - l.length - 1, by omega⟩
 have h2 : 80 - (l.length + 1) = m := by omega
 simp [pad80, hm, h2, List.replicate_succ]
theorem pad80_at (l : List Nat) (h : l.length < 80) : nth (pad80 l) l.length = 0 := by
 simp only [nth, pad80, List.getD_eq_getElem?_getD, List.getElem?_append_right (Nat.le_refl _), List.getElem?_replicate]
 split <;> rfl
/-- partial word -/
def part (W : Nat) (blk : List UInt8) (t j : Nat) : Nat := beN ((blk.drop (t * (W / 8))).take j)
theorem part_succ (W : Nat) (blk : List UInt8) (t j : Nat) (h : t * (W / 8) + j < blk.length) : part W blk t (j + 1) = part W blk t j * 256 + (blk[t * (W / 8) + j]).toNat := by
 unfold part
 rw [List.take_add_one, List.getElem?_drop, List.getElem?_eq_getElem h]
 exact beN_snoc _ _
theorem part_lt (W : Nat) (blk : List UInt8) (t j : Nat) : part W blk t j < 256 ^ j :=
 Nat.lt_of_lt_of_le (beN_lt _) (Nat.pow_le_pow_right (by decide) (List.length_take_le _ _))
theorem or_byte (a : Nat) (b : UInt8) : a * 256 ||| b.toNat = a * 256 + b.toNat :=
 nat_join 8 (a * 256) b.toNat (by omega) (by have := b.toNat_lt; omega)
open Go.Proofs.YtfpcelmekfdafaaDoor.Cl (nth nth_getD)
def wordsL : List Nat := [4794697086780616226, 8158064640168781261, 13096744586834688815, 16840607885511220156, 4131703408338449720, 6480981068601479193, 10538285296894168987, 12329834152419229976, 15566598209576043074, 1334009975649890238, 2608012711638119052, 6128411473006802146, 8268148722764581231, 9286055187155687089, 11230858885718282805, 13951009754708518548, 16472876342353939154, 17275323862435702243, 1135362057144423861, 2597628984639134821, 3308224258029322869, 5365058923640841347, 6679025012923562964, 8573033837759648693, 10970295158949994411, 12119686244451234320, 12683024718118986047, 13788192230050041572, 14330467153632333762, 15395433587784984357, 489312712824947311, 1452737877330783856, 2861767655752347644, 3322285676063803686, 5560940570517711597, 5996557281743188959, 7280758554555802590, 8532644243296465576, 9350256976987008742, 10552545826968843579, 11727347734174303076, 12113106623233404929, 14000437183269869457, 14369950271660146224, 15101387698204529176, 15463397548674623760, 17586052441742319658, 1182934255886127544, 1847814050463011016, 2177327727835720531, 2830643537854262169, 3796741975233480872, 4115178125766777443, 5681478168544905931, 6601373596472566643, 7507060721942968483, 8399075790359081724, 8693463985226723168, 9568029438360202098, 10144078919501101548, 10430055236837252648, 11840083180663258601, 13761210420658862357, 14299343276471374635, 14566680578165727644, 15097957966210449927, 16922976911328602910, 17689382322260857208, 500013540394364858, 748580250866718886, 1242879168328830382, 1977374033974150939, 2944078676154940804, 3659926193048069267, 4368137639120453308, 4836135668995329356, 5532061633213252278, 6448918945643986474, 6902733635092675308, 7801388544844847127]
def firstL : List Nat := [7640891576956012808, 13503953896175478587, 4354685564936845355, 11912009170470909681, 5840696475078001361, 11170449401992604703, 2270897969802886507, 6620516959819538809]
/-- all words of a block, in 80 places; the name is not opened by unification -/
@[irreducible] def msg (W : Nat) (blk : List UInt8) : List Nat := pad80 (sched W blk (if W = 32 then 64 else 80))
theorem msg64 (blk : List UInt8) : msg 64 blk = pad80 (sched 64 blk 80) := by unfold msg; rfl
theorem msg_length (W : Nat) (blk : List UInt8) : (msg W blk).length = 80 := by
 unfold msg; split <;> exact pad80_length _ (by rw [sched_length]; decide)
/-- the constant of round t -/
def hi32 (x : Nat) : Nat := x / 4294967296
def kw (W t : Nat) : Nat := if W = 32 then hi32 (nth wordsL t) else nth wordsL t
def add64 (a b : Nat) : Nat := (a + b) % 18446744073709551616
def not64 (a : Nat) : Nat := 18446744073709551615 - a
def ch (a b c : Nat) : Nat := (a &&& b) ^^^ (not64 a &&& c)
def mj (a b c : Nat) : Nat := ((a &&& b) ^^^ (a &&& c)) ^^^ (b &&& c)
def t1 (W : Nat) (x : List Nat) (k w : Nat) : Nat := add64 (add64 (add64 (add64 (nth x 7) (ep1 W (nth x 4))) (ch (nth x 4) (nth x 5) (nth x 6))) k) w
def t2 (W : Nat) (x : List Nat) : Nat := add64 (ep0 W (nth x 0)) (mj (nth x 0) (nth x 1) (nth x 2))
theorem add64_lt (a b : Nat) : add64 a b < 18446744073709551616 := by unfold add64; omega
theorem wrap_add64 (a b : Nat) : IntKind.u64.wrap ((a : Int) + (b : Int)) = (add64 a b : Int) := by
 rw [IntKind.wrap_u64]; unfold add64; omega
theorem and_lt64 {a : Nat} (b : Nat) (h : a < 18446744073709551616) : a &&& b < 18446744073709551616 := Nat.lt_of_le_of_lt Nat.and_le_left h
theorem xor_lt64 {a b : Nat} (h : a < 18446744073709551616) (h' : b < 18446744073709551616) : a ^^^ b < 18446744073709551616 := Nat.xor_lt_two_pow (n := 64) h h'
theorem not64_lt (a : Nat) : not64 a < 18446744073709551616 := by unfold not64; omega
theorem not_u64 (a : Nat) (h : a < 18446744073709551616) : bits .xor .u64 IntKind.u64.max (a : Int) = (not64 a : Int) := by
 have e : IntKind.u64.max = ((18446744073709551615 : Nat) : Int) := rfl
 rw [e, u64_xor_nat _ _ (by decide) h]
 congr 1
 have : (18446744073709551615 : Nat) = 2 ^ 64 - 1 := by decide
 unfold not64
 rw [this]
 apply Nat.eq_of_testBit_eq
 intro i
 rw [Nat.testBit_xor, Nat.testBit_two_pow_sub_one, show 2 ^ 64 - 1 - a = 2 ^ 64 - (a + 1) by omega, Nat.testBit_two_pow_sub_succ h]
 by_cases hi : i < 64
 · simp [hi]
 · have : a.testBit i = false := Nat.testBit_lt_two_pow (Nat.lt_of_lt_of_le h (Nat.pow_le_pow_right (n := 2) (by decide) (by omega : 64 ≤ i)))
   simp [hi, this]
theorem ch_e1 (a b : Nat) (ha : a < 18446744073709551616) (hb : b < 18446744073709551616) : bits .and .u64 (a : Int) (b : Int) = ((a &&& b : Nat) : Int) := u64_and_nat a b ha hb
theorem ch_e3 (a c : Nat) (hc : c < 18446744073709551616) : bits .and .u64 (not64 a : Int) (c : Int) = ((not64 a &&& c : Nat) : Int) := u64_and_nat _ _ (not64_lt a) hc
theorem ch_e4 (a b c : Nat) (ha : a < 18446744073709551616) : bits .xor .u64 ((a &&& b : Nat) : Int) ((not64 a &&& c : Nat) : Int) = (ch a b c : Int) :=
 u64_xor_nat _ _ (and_lt64 _ ha) (and_lt64 _ (not64_lt a))
theorem mj_e1 (a b c : Nat) (ha : a < 18446744073709551616) : bits .xor .u64 ((a &&& b : Nat) : Int) ((a &&& c : Nat) : Int) = (((a &&& b) ^^^ (a &&& c) : Nat) : Int) :=
 u64_xor_nat _ _ (and_lt64 _ ha) (and_lt64 _ ha)
theorem mj_e2 (a b c : Nat) (ha : a < 18446744073709551616) (hb : b < 18446744073709551616) : bits .xor .u64 (((a &&& b) ^^^ (a &&& c) : Nat) : Int) ((b &&& c : Nat) : Int) = (mj a b c : Int) :=
 u64_xor_nat _ _ (xor_lt64 (and_lt64 _ ha) (and_lt64 _ ha)) (and_lt64 _ hb)
def mixRound (W : Nat) (x : List Nat) (k w : Nat) : List Nat :=
 [(t1 W x k w + t2 W x) % 2 ^ W, nth x 0, nth x 1, nth x 2, (nth x 3 + t1 W x k w) % 2 ^ W, nth x 4, nth x 5, nth x 6]
/-- the eight words after t rounds -/
def mixTo (W : Nat) (ws h : List Nat) : Nat → List Nat
 | 0 => h
 | t + 1 => mixRound W (mixTo W ws h t) (kw W t) (nth ws t)
@[irreducible] def mixAll (W : Nat) (blk : List UInt8) (h : List Nat) : List Nat := mixTo W (msg W blk) h (if W = 32 then 64 else 80)
theorem mixAll64 (blk : List UInt8) (h : List Nat) : mixAll 64 blk h = mixTo 64 (msg 64 blk) h 80 := by unfold mixAll; rfl
/-- a block mixed into the words h -/
def mixed (W : Nat) (blk : List UInt8) (h : List Nat) : List Nat :=
 let x := mixAll W blk h
 (List.range 8).map fun i => (nth h i + nth x i) % 2 ^ W
theorem mixTo_length (W : Nat) (ws h : List Nat) (hh : h.length = 8) (t : Nat) : (mixTo W ws h t).length = 8 := by
 cases t with
 | zero => exact hh
 | succ t => rfl
theorem mixTo_lt (W : Nat) (ws h : List Nat) (hh : ∀ i, nth h i < 2 ^ W) (t : Nat) : ∀ i, nth (mixTo W ws h t) i < 2 ^ W := by
 have hW : 0 < 2 ^ W := Nat.two_pow_pos W
 induction t with
 | zero => exact hh
 | succ t ih =>
  intro i
  have h0 := Nat.mod_lt (t1 W (mixTo W ws h t) (kw W t) (nth ws t) + t2 W (mixTo W ws h t)) hW
  have h4 := Nat.mod_lt (nth (mixTo W ws h t) 3 + t1 W (mixTo W ws h t) (kw W t) (nth ws t)) hW
  match i with
  | 0 => exact h0
  | 1 => exact ih 0
  | 2 => exact ih 1
  | 3 => exact ih 2
  | 4 => exact h4
  | 5 => exact ih 4
  | 6 => exact ih 5
  | 7 => exact ih 6
  | i + 8 => exact hW
open Go.Proofs.YtfpcelmekfdafaaDoor.Cl (nth nth_getD)
/-- a number's bytes, n of them, the highest first -/
def beBytes : Nat → Nat → List UInt8
 | 0, _ => []
 | n + 1, x => UInt8.ofNat (x / 256 ^ n) :: beBytes n x
theorem beBytes_length (n x : Nat) : (beBytes n x).length = n := by
 induction n with
 | zero => rfl
 | succ n ih => simp [beBytes, ih]
theorem beBytes_get : ∀ (m x k : Nat) (h : k < m), (beBytes m x)[k]? = some (UInt8.ofNat (x / 256 ^ (m - 1 - k)))
 | m + 1, x, 0, _ => by simp [beBytes]
 | m + 1, x, k + 1, h => by
  have := beBytes_get m x k (by omega)
  rw [show m + 1 - 1 - (k + 1) = m - 1 - k by omega, ← this]; rfl
theorem beBytes_take (m x k : Nat) (h : k < m) : (beBytes m x).take (k + 1) = (beBytes m x).take k ++ [UInt8.ofNat (x / 256 ^ (m - 1 - k))] := by
 rw [List.take_add_one, beBytes_get m x k h]; rfl
theorem be_cells (m x k : Nat) (h : k < m) (e : Nat) (he : e = 8 * (m - 1 - k)) :
 Lib.byteCells ((beBytes m x).take (k + 1)) = Lib.byteCells ((beBytes m x).take k) ++ [.int .u8 ((x : Int) / 2 ^ e % 256)] := by
 rw [beBytes_take m x k h]
 have e2 : (2 : Nat) ^ e = 256 ^ (m - 1 - k) := by rw [he, Nat.pow_mul]
 have e3 : ((UInt8.ofNat (x / 256 ^ (m - 1 - k))).toNat : Int) = (x : Int) / 2 ^ e % 256 := by
  rw [UInt8.toNat_ofNat', ← e2, Int.natCast_emod, Int.natCast_ediv, Int.natCast_pow]; rfl
 unfold Lib.byteCells
 rw [List.map_append, List.map_singleton, e3]
def h0 (W : Nat) : List Nat := (List.range 8).map fun i => if W = 32 then hi32 (nth firstL i) else nth firstL i
def zeros (W n : Nat) : Nat := (2 * W - (n + 1 + W / 4) % (2 * W)) % (2 * W) + W / 4 - 8
@[irreducible] def padded (W : Nat) (bs : List UInt8) : List UInt8 := bs ++ ([128] ++ List.replicate (zeros W bs.length) 0) ++ beBytes 8 (bs.length * 8)
/-- the words after k blocks -/
def hashTo (W : Nat) (m : List UInt8) : Nat → List Nat
 | 0 => h0 W
 | k + 1 => mixed W ((m.drop (k * (2 * W))).take (2 * W)) (hashTo W m k)
def outBytes (W : Nat) (h : List Nat) : List UInt8 := h.flatMap (beBytes (W / 8))
@[irreducible] def sha (W : Nat) (bs : List UInt8) : List UInt8 := outBytes W (hashTo W (padded W bs) ((padded W bs).length / (2 * W)))
theorem padded_length64 (bs : List UInt8) : (padded 64 bs).length % 128 = 0 := by
 unfold padded zeros
 simp only [List.length_append, List.length_cons, List.length_nil, List.length_replicate, beBytes_length]
 omega
theorem h0_length (W : Nat) : (h0 W).length = 8 := by simp [h0]
theorem mixed_length (W : Nat) (blk : List UInt8) (h : List Nat) : (mixed W blk h).length = 8 := by simp [mixed]
theorem hashTo_length (W : Nat) (m : List UInt8) (k : Nat) : (hashTo W m k).length = 8 := by
 cases k with
 | zero => exact h0_length W
 | succ k => exact mixed_length _ _ _
theorem first_lt (i : Nat) : nth firstL i < 18446744073709551616 := getD_lt (l := firstL) (by decide) (by decide) i
theorem h0_lt (W : Nat) (hW : W = 32 ∨ W = 64) (i : Nat) : nth (h0 W) i < 2 ^ W := by
 refine getD_lt (l := h0 W) ?_ (Nat.two_pow_pos W) i
 intro x hx
 simp only [h0, List.mem_map, List.mem_range] at hx
 obtain ⟨j, _, rfl⟩ := hx
 have := first_lt j
 rcases hW with rfl | rfl
 · simp only [if_true, hi32]; omega
 · simp only [Nat.reduceEqDiff, if_false]; omega
theorem hashTo_lt (W : Nat) (hW : W = 32 ∨ W = 64) (m : List UInt8) (k i : Nat) : nth (hashTo W m k) i < 2 ^ W := by
 cases k with
 | zero => exact h0_lt W hW i
 | succ k =>
  refine getD_lt (l := hashTo W m (k + 1)) ?_ (Nat.two_pow_pos W) i
  intro x hx
  simp only [hashTo, mixed, List.mem_map] at hx
  obtain ⟨j, _, rfl⟩ := hx
  exact Nat.mod_lt _ (Nat.two_pow_pos W)
theorem outBytes_length (W : Nat) (h : List Nat) : (outBytes W h).length = h.length * (W / 8) := by
 induction h with
 | nil => simp [outBytes]
 | cons x h ih =>
  have e : outBytes W (x :: h) = beBytes (W / 8) x ++ outBytes W h := by simp [outBytes]
  rw [e, List.length_append, ih, beBytes_length, List.length_cons, Nat.add_mul]; omega
theorem sha_length (W : Nat) (hW : W = 32 ∨ W = 64) (bs : List UInt8) : (sha W bs).length = W := by
 unfold sha
 rw [outBytes_length, hashTo_length]
 rcases hW with rfl | rfl <;> rfl
open Go.RowKit
def k512c : Array Value := #[.int .i64 64, .int .i64 80, .int .i64 1, .int .i64 8, .int .i64 7, .int .i64 19, .int .i64 61, .int .i64 6, .int .i64 28, .int .i64 34, .int .i64 39, .int .i64 14, .int .i64 18, .int .i64 41]
abbrev K512 : Value := .agg k512c
theorem _root_.Go.RowKit.Below.drewN' {B : Nat} {a w : World} (h : Below B a w) (n : Nat) : Below B a (w.drewN n) := by
 induction n with
 | zero => exact h
 | succ n ih => exact ⟨h.os, h.tape, h.output, h.size, h.block⟩
theorem wrap_u64_lt {x : Nat} (h : x < 2 ^ 64) : IntKind.u64.wrap (x : Int) = x := by rw [IntKind.wrap_u64]; omega
theorem wrap_u64_rot32 (x n : Nat) : IntKind.u64.wrap (rot 32 x n : Int) = (rot 32 x n : Int) := wrap_u64_lt (Nat.lt_trans (rot_lt _ _ _) (by decide))
theorem wrap_u64_rot64 (x n : Nat) : IntKind.u64.wrap (rot 64 x n : Int) = (rot 64 x n : Int) := wrap_u64_lt (rot_lt _ _ _)
attribute [local go_sem] wrap_u64_rot32 wrap_u64_rot64
theorem word512_any (w : World) (x : Nat) : Calls Tryd.prog 59 #[K512, .int .u64 x] w fun e w' => e = .returned (.int .u64 x) ∧ Below w.heap.size w w' := by
 unfold K512 k512c
 go_enter Tryd.func59, Tryd.ntmps59
 go_wp2
 go_ret
 exact ⟨by simp, (Below.refl _ _).alloc (Nat.le_refl _) _⟩
theorem cut512_any (w : World) (x : Nat) (hx : x < 18446744073709551616) : Calls Tryd.prog 74 #[K512, .int .u64 x] w fun e w' => e = .returned (.int .u64 x) ∧ Below w.heap.size w w' := by
 have e : IntKind.u64.wrap (x : Int) = x := by rw [IntKind.wrap_u64]; omega
 unfold K512 k512c
 go_enter Tryd.func74, Tryd.ntmps74
 go_wp2
 go_quiet (fail)
 go_wp2
 go_ret
 exact ⟨by simp, (((Below.refl _ _).alloc (Nat.le_refl _) _).drewN' _)⟩
theorem neg_and (n m k : Nat) (hn : 0 < n) (hn' : n < 2 ^ k) (hm : m = 2 ^ k - 1) (hk : k ≤ 32) : bits .and .u64 (IntKind.u64.wrap (-(n:Int))) (m : Int) = ((2 ^ k - n : Nat) : Int) := by
 have hp : 2 ^ k ≤ 2 ^ 32 := Nat.pow_le_pow_right (by decide) hk
 have e2 : 2 ^ 64 = 2 ^ k * 2 ^ (64 - k) := by rw [← Nat.pow_add]; congr 1; omega
 have h1 : IntKind.u64.wrap (-(n:Int)) = ((18446744073709551616 - n : Nat) : Int) := by
  rw [IntKind.wrap_u64]; omega
 have h0 : 0 < 2 ^ (64 - k) := Nat.two_pow_pos _
 rw [h1, u64_and_nat _ _ (by omega) (by omega), hm, Nat.and_two_pow_sub_one_eq_mod]
 congr 1
 obtain ⟨c, hc⟩ : ∃ c, 2 ^ (64 - k) = c + 1 := ⟨2 ^ (64 - k) - 1, by omega⟩
 have e3 : 18446744073709551616 = 2 ^ k * c + 2 ^ k := by
  have : (18446744073709551616 : Nat) = 2 ^ 64 := by decide
  rw [this, e2, hc, Nat.mul_succ]
 have e4 : 18446744073709551616 - n = (2 ^ k - n) + 2 ^ k * c := by omega
 rw [e4, Nat.add_mul_mod_self_left, Nat.mod_eq_of_lt (by omega)]
theorem rotl64_any (w : World) (x n : Nat) (hx : x < 18446744073709551616) (hn : 0 < n) (hn' : n < 64) : Calls Tryd.prog 83 #[.int .u64 x, .int .i64 (-(n:Int))] w fun e w' => e = .returned (.int .u64 (rot 64 x n : Nat)) ∧ w = w' := by
 have e : bits .and .u64 (IntKind.u64.wrap (-(n:Int))) 63 = ((64 - n : Nat) : Int) := neg_and n 63 6 hn (by omega) (by decide) (by decide)
 go_enter Tryd.func83, Tryd.ntmps83
 go_wp2
 go_ret
 refine ⟨?_, rfl⟩
 have h := rot_left 64 x n hx
 have h3 : 64 - (64 - n) = n := by omega
 simp only [Array.getD_eq_getD_getElem?, List.getElem?_toArray, List.getElem?_cons_succ, List.getElem?_cons_zero, Option.getD_some]
 rw [h3]
 have h4 : IntKind.u64.wrap ((x : Int) * 2 ^ (64 - n)) = ((x * 2 ^ (64 - n) % 2 ^ 64 : Nat) : Int) := by rw [IntKind.wrap_u64, Int.natCast_emod, Int.natCast_mul, Int.natCast_pow]; rfl
 have h5 : (x : Int) / 2 ^ n = ((x / 2 ^ n : Nat) : Int) := by rw [Int.natCast_ediv, Int.natCast_pow]; rfl
 rw [h4, h5, u64_or_nat _ _ (Nat.mod_lt _ (by decide)) (Nat.lt_of_le_of_lt (Nat.div_le_self x _) hx), h]
theorem turn512_any (w : World) (x n : Nat) (hx : x < 18446744073709551616) (hn : 0 < n) (hn' : n < 64) : Calls Tryd.prog 80 #[K512, .int .u64 x, .int .i64 n] w fun e w' => e = .returned (.int .u64 (rot 64 x n : Nat)) ∧ Below w.heap.size w w' := by
 unfold K512 k512c
 go_enter Tryd.func80, Tryd.ntmps80
 go_wp2_with (go_at_call 83; refine (rotl64_any _ _ _ hx hn hn').mono ?_; rintro e w' ⟨rfl, rfl⟩)
 go_ret
 exact ⟨by simp, (((Below.refl _ _).alloc (Nat.le_refl _) _))⟩
theorem turn512_int (w : World) (x : Nat) (n : Int) (hx : x < 18446744073709551616) (hn : 0 < n) (hn' : n < 64) : Calls Tryd.prog 80 #[K512, .int .u64 x, .int .i64 n] w fun e w' => e = .returned (.int .u64 (rot 64 x n.toNat : Nat)) ∧ Below w.heap.size w w' := by
 obtain ⟨m, rfl⟩ := Int.eq_ofNat_of_zero_le (Int.le_of_lt hn)
 exact turn512_any w x m hx (by omega) (by omega)
end Go.Proofs.YtfpcelmekfdafaaDoor.Sha
namespace Go.Proofs.YtfpcelmekfdafaaDoor.Sha
open Go.RowKit
theorem xor_rot (W x a b : Nat) (hW : W = 32 ∨ W = 64) : bits .xor .u64 (rot W x a : Int) (rot W x b : Int) = ((rot W x a ^^^ rot W x b : Nat) : Int) := by
 have h : 2 ^ W ≤ 18446744073709551616 := by rcases hW with rfl | rfl <;> decide
 exact u64_xor_nat _ _ (Nat.lt_of_lt_of_le (rot_lt _ _ _) h) (Nat.lt_of_lt_of_le (rot_lt _ _ _) h)
theorem xor_rot2_lt (W x a b : Nat) : rot W x a ^^^ rot W x b < 2 ^ W := Nat.xor_lt_two_pow (rot_lt _ _ _) (rot_lt _ _ _)
theorem xor_three (W x a b c : Nat) (hW : W = 32 ∨ W = 64) : bits .xor .u64 ((rot W x a ^^^ rot W x b : Nat) : Int) (rot W x c : Int) = ((three W x a b c : Nat) : Int) := by
 have h : 2 ^ W ≤ 18446744073709551616 := by rcases hW with rfl | rfl <;> decide
 exact u64_xor_nat _ _ (Nat.lt_of_lt_of_le (xor_rot2_lt _ _ _ _) h) (Nat.lt_of_lt_of_le (rot_lt _ _ _) h)
theorem xor_threeS (W x a b c : Nat) (hW : W = 32 ∨ W = 64) (hx : x < 2 ^ W) : bits .xor .u64 ((rot W x a ^^^ rot W x b : Nat) : Int) ((x / 2 ^ c : Nat) : Int) = ((threeS W x a b c : Nat) : Int) := by
 have h : 2 ^ W ≤ 18446744073709551616 := by rcases hW with rfl | rfl <;> decide
 exact u64_xor_nat _ _ (Nat.lt_of_lt_of_le (xor_rot2_lt _ _ _ _) h) (Nat.lt_of_lt_of_le (Nat.lt_of_le_of_lt (Nat.div_le_self x _) hx) h)
theorem small512_any (w : World) (x : Nat) (a b c : Int) (hx : x < 18446744073709551616) (ha : 0 < a) (ha2 : a < 64) (hb : 0 < b) (hb2 : b < 64) (hc : 0 ≤ c) (hc2 : c < 64) : Calls Tryd.prog 79 #[K512, .int .u64 x, .agg #[.int .i64 a, .int .i64 b, .int .i64 c]] w fun e w' => e = .returned (.int .u64 (threeS 64 x a.toNat b.toNat c.toNat : Nat)) ∧ Below w.heap.size w w' := by
 unfold K512
 have hm : min c.toNat 64 = c.toNat := by omega
 go_enter Tryd.func79, Tryd.ntmps79
 go_wp2_with fail
 generalize hW : World.alloc (World.alloc w _) _ = W
 have L := Rg.Later.cellOf (B := w.heap.size + 2) hW
 have hB : w.heap.size + 2 ≤ W.heap.size := by subst hW; simp
 have hBW : Below w.heap.size w W := by subst hW; exact ((Below.refl _ _).alloc (Nat.le_refl _) _).alloc (by simp) _
 have HK := ϕ (show Rg.Blk W w.heap.size 90 k512c by subst hW; exact (Rg.Blk.new _ _ _).alloc _)
 clear hW
 refine Rg.wp_region_later_all (w.heap.size + 2) (by kernel_rfl) (by kernel_rfl) ?_
 repeat (first | (go_big_quiet_want; refine Rg.quiet_load_row 90 _ rfl _ rfl _ _ _ (HK.out.later (by omega)) Tryd.underlying90 rfl (by kernel_rfl) ?_; simp only [Act.put, List.setIfInBounds_toArray, List.set_cons_succ, List.set_cons_zero]; go_big_quiet_on) | go_big_quiet_step (exact Rg.later_of hB (turn512_int _ _ _ hx (by assumption) (by assumption))))
 refine wpQuiet_nil ?_
 rintro _ ⟨s, rfl⟩
 go_wp2
 go_ret
 have hb : Below w.heap.size w s.val := hBW.trans (s.is.mono (by omega))
 refine ⟨?_, hb⟩
 show Ending.returned (.int .u64 (bits .xor .u64 (bits .xor .u64 (rot 64 x a.toNat : Int) (rot 64 x b.toNat : Int)) ((x : Int) / 2 ^ c.toNat))) = _
 rw [xor_rot 64 x _ _ (by decide), show (x : Int) / 2 ^ c.toNat = ((x / 2 ^ c.toNat : Nat) : Int) by rw [Int.natCast_ediv, Int.natCast_pow]; rfl, xor_threeS 64 x _ _ _ (by decide) hx]
theorem large512_any (w : World) (x : Nat) (a b c : Int) (hx : x < 18446744073709551616) (ha : 0 < a) (ha2 : a < 64) (hb : 0 < b) (hb2 : b < 64) (hc : 0 < c) (hc2 : c < 64) : Calls Tryd.prog 73 #[K512, .int .u64 x, .agg #[.int .i64 a, .int .i64 b, .int .i64 c]] w fun e w' => e = .returned (.int .u64 (three 64 x a.toNat b.toNat c.toNat : Nat)) ∧ Below w.heap.size w w' := by
 unfold K512
 have hm : min c.toNat 64 = c.toNat := by omega
 go_enter Tryd.func73, Tryd.ntmps73
 go_wp2_with fail
 generalize hW : World.alloc (World.alloc w _) _ = W
 have L := Rg.Later.cellOf (B := w.heap.size + 2) hW
 have hB : w.heap.size + 2 ≤ W.heap.size := by subst hW; simp
 have hBW : Below w.heap.size w W := by subst hW; exact ((Below.refl _ _).alloc (Nat.le_refl _) _).alloc (by simp) _
 have HK := ϕ (show Rg.Blk W w.heap.size 90 k512c by subst hW; exact (Rg.Blk.new _ _ _).alloc _)
 clear hW
 refine Rg.wp_region_later_all (w.heap.size + 2) (by kernel_rfl) (by kernel_rfl) ?_
 repeat (first | (go_big_quiet_want; refine Rg.quiet_load_row 90 _ rfl _ rfl _ _ _ (HK.out.later (by omega)) Tryd.underlying90 rfl (by kernel_rfl) ?_; simp only [Act.put, List.setIfInBounds_toArray, List.set_cons_succ, List.set_cons_zero]; go_big_quiet_on) | go_big_quiet_step (exact Rg.later_of hB (turn512_int _ _ _ hx (by assumption) (by assumption))))
 refine wpQuiet_nil ?_
 rintro _ ⟨s, rfl⟩
 go_wp2
 go_ret
 have hb : Below w.heap.size w s.val := hBW.trans (s.is.mono (by omega))
 refine ⟨?_, hb⟩
 show Ending.returned (.int .u64 (bits .xor .u64 (bits .xor .u64 (rot 64 x a.toNat : Int) (rot 64 x b.toNat : Int)) (rot 64 x c.toNat : Int))) = _
 rw [xor_rot 64 x _ _ (by decide), xor_three 64 x _ _ _ (by decide)]
open Go.Proofs.YtfpcelmekfdafaaDoor.Cl
/-- the world holds both tables -/
structure Tables (w : World) : Prop where
 words : ∀ t, t < 80 → w.cell? ⟨2, t, none⟩ = some (.int .u64 (nth wordsL t : Nat))
 first : ∀ t, t < 8 → w.cell? ⟨1, t, none⟩ = some (.int .u64 (nth firstL t : Nat))
 size : 3 ≤ w.heap.size
theorem Tables.below {w w' : World} {B : Nat} (h : Tables w) (hb : Below B w w') (hB : 3 ≤ B) : Tables w' :=
 ⟨fun t ht => (hb.cell (p := ⟨2, t, none⟩) (Nat.lt_of_lt_of_le (by dsimp only; decide) hB)).trans (h.words t ht),
  fun t ht => (hb.cell (p := ⟨1, t, none⟩) (Nat.lt_of_lt_of_le (by dsimp only; decide) hB)).trans (h.first t ht),
  Nat.le_trans h.size hb.size⟩
end Go.Proofs.YtfpcelmekfdafaaDoor.Sha
namespace Go.Proofs.YtfpcelmekfdafaaDoor.Dg
open Go.RowKit Go.Proofs.YtfpcelmekfdafaaDoor.Ow
theorem lo_split : ∀ (p q N : Nat), lo (p + 1 + q) N = lo p N ++ (N / 65536 ^ p % 65536) :: lo q (N / 65536 ^ (p + 1))
 | 0, q, N => by rw [show 0 + 1 + q = q + 1 by omega, lo, Nat.pow_zero, Nat.div_one, Nat.zero_add, Nat.pow_one]; rfl
 | p + 1, q, N => by
  rw [show p + 1 + 1 + q = (p + 1 + q) + 1 by omega, lo, lo_split p q, lo, Nat.div_div_eq_div_mul, Nat.div_div_eq_div_mul, ← Nat.pow_succ', ← Nat.pow_succ']; rfl
/-- a digit set -/
def put (N p d : Nat) : Nat := N % 65536 ^ p + d * 65536 ^ p + N / 65536 ^ (p + 1) * 65536 ^ (p + 1)
theorem set_lo {n p d : Nat} (N : Nat) (hp : p < n) (hd : d < 65536) : (lo n N).set p d = lo n (put N p d) := by
 obtain ⟨q, rfl⟩ : ∃ q, n = p + 1 + q := ⟨n - p - 1, by omega⟩
 have hpos := pow_pos p
 have hN : N % 65536 ^ p < 65536 ^ p := Nat.mod_lt _ hpos
 have e0 : put N p d = N % 65536 ^ p + (d + N / 65536 ^ (p + 1) * 65536) * 65536 ^ p := by
  unfold put
  rw [Nat.add_mul, Nat.mul_assoc, show 65536 * 65536 ^ p = 65536 ^ (p + 1) by rw [Nat.pow_succ, Nat.mul_comm]]; omega
 have e1 : put N p d / 65536 ^ p = d + N / 65536 ^ (p + 1) * 65536 := by
  rw [e0, Nat.add_mul_div_right _ _ hpos, Nat.div_eq_of_lt hN, Nat.zero_add]
 have e2 : put N p d % 65536 ^ p = N % 65536 ^ p := by rw [e0, Nat.add_mul_mod_self_right, Nat.mod_mod]
 have e3 : put N p d / 65536 ^ (p + 1) = N / 65536 ^ (p + 1) := by
  have e4 : put N p d / 65536 ^ (p + 1) = put N p d / 65536 ^ p / 65536 := by rw [Nat.div_div_eq_div_mul, ← Nat.pow_succ]
  rw [e4, e1]
  generalize N / 65536 ^ (p + 1) = z
  omega
 rw [lo_split, lo_split, e3, e1, ← lo_mod p (put N p d), e2, lo_mod, List.set_append_right _ _ (by rw [lo_len]; exact Nat.le_refl _), lo_len, Nat.sub_self, List.set_cons_zero]
 congr 2
 omega
theorem dig_top {d m : Nat} (h0 : d ≠ 0) (hd : d < 65536) : dig (d * 65536 ^ m) = lo (m + 1) (d * 65536 ^ m) := by
 have hp := pow_pos m
 have h1 : (dig (d * 65536 ^ m)).length ≤ m + 1 := dig_len_le (by rw [Nat.pow_succ, Nat.mul_comm (65536 ^ m)]; exact Nat.mul_lt_mul_of_pos_right hd hp)
 have h2 := dig_lt (d * 65536 ^ m)
 have h3 : m < (dig (d * 65536 ^ m)).length := by
  refine Nat.lt_of_not_le fun h => ?_
  have h4 : 65536 ^ (dig (d * 65536 ^ m)).length ≤ 65536 ^ m := Nat.pow_le_pow_right (by decide) h
  have h5 : 1 * 65536 ^ m ≤ d * 65536 ^ m := Nat.mul_le_mul_right _ (by omega)
  omega
 have h4 : (dig (d * 65536 ^ m)).length = m + 1 := by omega
 have h5 := dig_lo (d * 65536 ^ m)
 rwa [h4] at h5
theorem dig_two (n m r : Nat) (hn : n = 16 * m + r) (hr : r < 16) : (lo (m + 1) 0).set m (2 ^ r) = dig (2 ^ n) := by
 have h1 : 2 ^ r < 65536 := by
  have : 2 ^ r < 2 ^ 16 := Nat.pow_lt_pow_right (by decide) hr
  omega
 have h2 : 2 ^ n = 2 ^ r * 65536 ^ m := by
  rw [show (65536 : Nat) = 2 ^ 16 from rfl, ← Nat.pow_mul, ← Nat.pow_add, hn]; congr 1; omega
 rw [set_lo 0 (by omega) h1, h2, dig_top (by have := Nat.two_pow_pos r; omega) h1]
 unfold put
 simp
theorem Power_any (w : World) (n m r : Nat) (hnm : n = 16 * m + r) (hr : r < 16) (hm : m ≤ 10000) :
 Calls Tryd.prog 19 #[.int .i64 n] w fun e w' => (∃ u, e = .returned u ∧ Ns w' u (dig (2 ^ n))) ∧ Below w.heap.size w w' := by
 have HD := ϕ (dig_two n m r hnm hr)
 have hq : (n : Int) / 16 = (m : Int) := by omega
 have hrr : (n : Int) % 16 = (r : Int) := by omega
 have hm0 : (0 : Int) ≤ (m : Int) := by omega
 have hmm : (m : Int) < (m : Int) + 1 := by omega
 have hr0 : (r : Int) < 16 := by omega
 have hr1 : (0 : Int) ≤ (r : Int) := by omega
 have h2r : 2 ^ r < 65536 := by
  have : 2 ^ r < 2 ^ 16 := Nat.pow_lt_pow_right (by decide) hr
  omega
 have hws : IntKind.i64.wrap ((2 : Int) ^ r) = ((2 ^ r : Nat) : Int) := by
  rw [show ((2 : Int) ^ r) = ((2 ^ r : Nat) : Int) by rw [Int.natCast_pow]; rfl]
  generalize 2 ^ r = t at *
  simp [IntKind.wrap, IntKind.bits, IntKind.signed]
  omega
 clear hnm hr
 go_enter Tryd.func19, Tryd.ntmps19
 go_upto_region 2 with (refine make0 rfl _ _ rfl _ _ (m + 1) rfl rfl (by omega) (by omega) (by omega) ?_; intro V hO hG; have HO := ϕ hO; have HG := ϕ hG; clear hO hG)
 obtain ⟨g, hg⟩ : ∃ n, w.heap.size = n := ⟨_, rfl⟩
 rw [hg] at HO
 try rw [hg]
 have HGB := ϕ hg
 obtain ⟨hc, hf⟩ := own_cell HO.out (iv_get (lo_get (m + 1) 0 m (by omega)))
 rw [Nat.zero_div, Nat.zero_mod] at hc
 clear hg
 have hc2 : ((2 ^ r : Nat) : Int) = (2 : Int) ^ r := by rw [Int.natCast_pow]; rfl
 have HS := ϕ (show Owns (V.setCell ⟨g, m, none⟩ (.int .i64 ((2 : Int) ^ r))) g 3 (.slice (some ⟨g, 0, none⟩) (m + 1) (m + 1)) (iv (dig (2 ^ n))) from by
  have h := own_set HO.out m (.int .i64 ((2 ^ r : Nat) : Int))
  rw [iv_set, HD.out, hc2] at h
  exact h)
 have HB := ϕ (show Below w.heap.size w (V.setCell ⟨g, m, none⟩ (.int .i64 ((2 : Int) ^ r))) from by rw [HGB.out]; exact own_set_below HO.out (by have h := (Sp.Upd.of_grown0 HG.out).below; rwa [HGB.out] at h) (by have h := (own_g HO.out).2.1; omega) m _)
 clear hc2
 go_wp2_with fail
 go_ret
 exact ⟨⟨_, rfl, Ns.owns HS.out⟩, HB.out⟩
open Go.Proofs.YtfpcelmekfdafaaDoor.Kx
theorem pow256 (j : Nat) : 256 ^ (2 * j) = 65536 ^ j := by rw [Nat.pow_mul]
theorem bv_snoc (l : List UInt8) (n : Nat) (h : n < 256) : bv l ++ [Value.int .u8 (n : Int)] = bv (l ++ [UInt8.ofNat n]) := by
 rw [bv_append, bv_one (UInt8.ofNat n) n (by rw [UInt8.toNat_ofNat']; omega)]
theorem byte_even {a k j x : Nat} (hk : k = 2 * j) (hx : x = a / 65536 ^ j % 65536) : a / 256 ^ k % 256 = x % 256 := by
 rw [hk, pow256, hx]; omega
theorem byte_odd {a k j x : Nat} (hk : k = 2 * j + 1) (hx : x = a / 65536 ^ j % 65536) : a / 256 ^ k % 256 = x / 256 % 256 := by
 rw [hk, Nat.pow_succ, pow256, ← Nat.div_div_eq_div_mul, hx]; omega
theorem Bytes_any (w : World) (v : Value) (a n : Nat) (h1 : Ns w v (dig a)) (ha : (dig a).length ≤ 10000) (hn : n ≤ 10000) :
 Calls Tryd.prog 21 #[v, .int .i64 n] w fun e w' => e = .returned (.string ⟨(toLe n a).toArray⟩) ∧ Below w.heap.size w w' := by
 obtain ⟨A1, c1, rfl, hR1, hc1⟩ := h1
 obtain ⟨n1, hn1⟩ : ∃ n, (dig a).length = n := ⟨_, rfl⟩
 have HR1 := ϕ hR1
 have HL1 := ϕ hn1
 rw [hn1] at hc1 ha ⊢
 have HON := ϕ (show Owns (w.alloc (.cells #[] 5)) w.heap.size 5 (.slice (some ⟨w.heap.size, 0, none⟩) 0 0) (bv ((toLe n a).take 0)) from Owns.new w w.heap.size 5 [] (Nat.le_refl _) (by decide))
 have HBA := ϕ (show Below w.heap.size w (w.alloc (.cells #[] 5)) from (Below.refl _ _).alloc (Nat.le_refl _) _)
 clear hR1 hn1
 go_enter Tryd.func21, Tryd.ntmps21
 go_wp2
 go_loopw [5, 6, 7] (fun v i _ wr => ∃ k : Nat, i = .int .i64 k ∧ k ≤ n ∧ Owns wr w.heap.size 5 v (bv ((toLe n a).take k)) ∧ Below w.heap.size w wr) (fun _ i _ _ => n - (intOf i).toNat)
 case atStart => exact ⟨0, rfl, by omega, HON.out, HBA.out⟩
 case round =>
  obtain ⟨k, rfl, hk, hO, hB⟩ := hrel
  clear HON HBA
  have HO := ϕ hO
  have HB := ϕ hB
  have HSB := ϕ hB.size
  have HLE := ϕ (show (bv ((toLe n a).take k)).length ≤ 30000 by rw [bv_length, List.length_take]; omega)
  clear hO hB
  by_cases g1 : k < n
  · by_cases godd : k % 2 = 0
    · obtain ⟨j, hj⟩ : ∃ j, k = 2 * j := ⟨k / 2, by omega⟩
      have HKJ := ϕ hj
      by_cases g2 : j < n1
      · have hik : (k : Int) < (n : Int) := by omega
        have hdk : decide ((k : Int) < (n : Int)) = true := by rw [decide_eq_true_iff]; omega
        have hj0 : (0 : Int) ≤ (j : Int) := by omega
        have e1 : (k : Int) / 2 = (j : Int) := by omega
        have e0 : (k : Int) % 2 = 0 := by omega
        have hd2 : decide ((j : Int) < (n1 : Int)) = true := by rw [decide_eq_true_iff]; omega
        have hi2 : (j : Int) < (n1 : Int) := by omega
        obtain ⟨b1, o1, hA1, hl1, hcell1⟩ := Ns.at_ HR1.out (show j < (dig a).length by have := HL1.out; omega)
        obtain ⟨x1, hx1⟩ : ∃ x, x = a / 65536 ^ j % 65536 := ⟨_, rfl⟩
        have hxl1 : x1 < 65536 := by omega
        have HX1 := ϕ hx1
        rw [show (dig a)[j]'(by have := HL1.out; omega) = x1 from by have := dig_get (n := a) (i := j) (by have := HL1.out; omega); rw [List.getElem?_eq_getElem (by have := HL1.out; omega)] at this; rw [hx1]; exact Option.some.inj this] at hcell1
        replace hcell1 : wr.cell? ⟨b1, o1 + j, none⟩ = some (.int .i64 (x1 : Nat)) := by rw [← hcell1]; exact HB.out.cell (p := ⟨b1, o1 + j, none⟩) hl1
        subst hA1
        clear hx1
        have HN := ϕ (show (toLe n a).take (k + 1) = (toLe n a).take k ++ [UInt8.ofNat (x1 % 256)] by
         rw [List.take_add_one, toLe_get n a k (by omega), Option.toList_some]
         congr 3
         exact byte_even HKJ.out HX1.out)
        clear HX1 hj
        go_wp2_with (refine app1 rfl _ _ 28 rfl (E := 5) (z := .int .u8 0) (by' := 1) rfl rfl rfl (by decide) HO.out rfl rfl rfl (by have h1 := HLE.out; omega) HSB.out ?_; rintro v6 w6 h2 h3 h4; have HO6 := ϕ h2; have HB6 := ϕ (own_grown HB.out HO.out h3); clear h2 h3 h4)
        go_roundw
        case rel =>
         have REL := ϕ (show ∃ k2 : Nat, Value.int .i64 ((k : Int) + 1) = .int .i64 k2 ∧ k2 ≤ n ∧ Owns w6 w.heap.size 5 v6 (bv ((toLe n a).take k2)) ∧ Below w.heap.size w w6 from ⟨k + 1, by go_num, by omega, by rw [HN.out, ← bv_snoc _ _ (by omega)]; exact HO6.out, HB6.out⟩)
         first
          | exact REL.out
          | ((repeat apply Exists.intro); refine ⟨?_, rfl⟩; exact REL.out)
        case measure => (first | (simp [intOf]; done) | (simp [intOf]; omega))
      · have hik : (k : Int) < (n : Int) := by omega
        have hdk : decide ((k : Int) < (n : Int)) = true := by rw [decide_eq_true_iff]; omega
        have hj0 : (0 : Int) ≤ (j : Int) := by omega
        have e1 : (k : Int) / 2 = (j : Int) := by omega
        have e0 : (k : Int) % 2 = 0 := by omega
        have hd2 : decide ((j : Int) < (n1 : Int)) = false := by rw [decide_eq_false_iff_not]; omega
        have hi2 : ¬ (j : Int) < (n1 : Int) := by omega
        obtain ⟨x1, hx1⟩ : ∃ x, x = a / 65536 ^ j % 65536 := ⟨_, rfl⟩
        have hx01 : x1 = 0 := by rw [hx1]; exact big_digit (Nat.lt_of_lt_of_le (dig_lt a) (Nat.pow_le_pow_right (by decide) (by have := HL1.out; omega)))
        have HX1 := ϕ hx1
        clear hx1
        have HN := ϕ (show (toLe n a).take (k + 1) = (toLe n a).take k ++ [UInt8.ofNat 0] by
         rw [List.take_add_one, toLe_get n a k (by omega), Option.toList_some]
         congr 3
         exact byte_even HKJ.out HX1.out |>.trans (by rw [hx01]))
        clear HX1 hj
        clear hx01
        go_wp2_with (refine app1 rfl _ _ 28 rfl (E := 5) (z := .int .u8 0) (by' := 1) rfl rfl rfl (by decide) HO.out rfl rfl rfl (by have h1 := HLE.out; omega) HSB.out ?_; rintro v6 w6 h2 h3 h4; have HO6 := ϕ h2; have HB6 := ϕ (own_grown HB.out HO.out h3); clear h2 h3 h4)
        go_roundw
        case rel =>
         have REL := ϕ (show ∃ k2 : Nat, Value.int .i64 ((k : Int) + 1) = .int .i64 k2 ∧ k2 ≤ n ∧ Owns w6 w.heap.size 5 v6 (bv ((toLe n a).take k2)) ∧ Below w.heap.size w w6 from ⟨k + 1, by go_num, by omega, by rw [HN.out, ← bv_snoc _ _ (by omega)]; exact HO6.out, HB6.out⟩)
         first
          | exact REL.out
          | ((repeat apply Exists.intro); refine ⟨?_, rfl⟩; exact REL.out)
        case measure => (first | (simp [intOf]; done) | (simp [intOf]; omega))
    · obtain ⟨j, hj⟩ : ∃ j, k = 2 * j + 1 := ⟨k / 2, by omega⟩
      have HKJ := ϕ hj
      by_cases g2 : j < n1
      · have hik : (k : Int) < (n : Int) := by omega
        have hdk : decide ((k : Int) < (n : Int)) = true := by rw [decide_eq_true_iff]; omega
        have hj0 : (0 : Int) ≤ (j : Int) := by omega
        have e1 : (k : Int) / 2 = (j : Int) := by omega
        have e0 : (k : Int) % 2 = 1 := by omega
        have hd2 : decide ((j : Int) < (n1 : Int)) = true := by rw [decide_eq_true_iff]; omega
        have hi2 : (j : Int) < (n1 : Int) := by omega
        obtain ⟨b1, o1, hA1, hl1, hcell1⟩ := Ns.at_ HR1.out (show j < (dig a).length by have := HL1.out; omega)
        obtain ⟨x1, hx1⟩ : ∃ x, x = a / 65536 ^ j % 65536 := ⟨_, rfl⟩
        have hxl1 : x1 < 65536 := by omega
        have HX1 := ϕ hx1
        rw [show (dig a)[j]'(by have := HL1.out; omega) = x1 from by have := dig_get (n := a) (i := j) (by have := HL1.out; omega); rw [List.getElem?_eq_getElem (by have := HL1.out; omega)] at this; rw [hx1]; exact Option.some.inj this] at hcell1
        replace hcell1 : wr.cell? ⟨b1, o1 + j, none⟩ = some (.int .i64 (x1 : Nat)) := by rw [← hcell1]; exact HB.out.cell (p := ⟨b1, o1 + j, none⟩) hl1
        subst hA1
        clear hx1
        have HN := ϕ (show (toLe n a).take (k + 1) = (toLe n a).take k ++ [UInt8.ofNat ((x1 / 256) % 256)] by
         rw [List.take_add_one, toLe_get n a k (by omega), Option.toList_some]
         congr 3
         exact byte_odd HKJ.out HX1.out)
        clear HX1 hj
        go_wp2_with (refine app1 rfl _ _ 28 rfl (E := 5) (z := .int .u8 0) (by' := 1) rfl rfl rfl (by decide) HO.out rfl rfl rfl (by have h1 := HLE.out; omega) HSB.out ?_; rintro v6 w6 h2 h3 h4; have HO6 := ϕ h2; have HB6 := ϕ (own_grown HB.out HO.out h3); clear h2 h3 h4)
        go_roundw
        case rel =>
         have REL := ϕ (show ∃ k2 : Nat, Value.int .i64 ((k : Int) + 1) = .int .i64 k2 ∧ k2 ≤ n ∧ Owns w6 w.heap.size 5 v6 (bv ((toLe n a).take k2)) ∧ Below w.heap.size w w6 from ⟨k + 1, by go_num, by omega, by rw [HN.out, ← bv_snoc _ _ (by omega)]; exact HO6.out, HB6.out⟩)
         first
          | exact REL.out
          | ((repeat apply Exists.intro); refine ⟨?_, rfl⟩; exact REL.out)
        case measure => (first | (simp [intOf]; done) | (simp [intOf]; omega))
      · have hik : (k : Int) < (n : Int) := by omega
        have hdk : decide ((k : Int) < (n : Int)) = true := by rw [decide_eq_true_iff]; omega
        have hj0 : (0 : Int) ≤ (j : Int) := by omega
        have e1 : (k : Int) / 2 = (j : Int) := by omega
        have e0 : (k : Int) % 2 = 1 := by omega
        have hd2 : decide ((j : Int) < (n1 : Int)) = false := by rw [decide_eq_false_iff_not]; omega
        have hi2 : ¬ (j : Int) < (n1 : Int) := by omega
        obtain ⟨x1, hx1⟩ : ∃ x, x = a / 65536 ^ j % 65536 := ⟨_, rfl⟩
        have hx01 : x1 = 0 := by rw [hx1]; exact big_digit (Nat.lt_of_lt_of_le (dig_lt a) (Nat.pow_le_pow_right (by decide) (by have := HL1.out; omega)))
        have HX1 := ϕ hx1
        clear hx1
        have HN := ϕ (show (toLe n a).take (k + 1) = (toLe n a).take k ++ [UInt8.ofNat 0] by
         rw [List.take_add_one, toLe_get n a k (by omega), Option.toList_some]
         congr 3
         exact byte_odd HKJ.out HX1.out |>.trans (by rw [hx01]))
        clear HX1 hj
        clear hx01
        go_wp2_with (refine app1 rfl _ _ 28 rfl (E := 5) (z := .int .u8 0) (by' := 1) rfl rfl rfl (by decide) HO.out rfl rfl rfl (by have h1 := HLE.out; omega) HSB.out ?_; rintro v6 w6 h2 h3 h4; have HO6 := ϕ h2; have HB6 := ϕ (own_grown HB.out HO.out h3); clear h2 h3 h4)
        go_roundw
        case rel =>
         have REL := ϕ (show ∃ k2 : Nat, Value.int .i64 ((k : Int) + 1) = .int .i64 k2 ∧ k2 ≤ n ∧ Owns w6 w.heap.size 5 v6 (bv ((toLe n a).take k2)) ∧ Below w.heap.size w w6 from ⟨k + 1, by go_num, by omega, by rw [HN.out, ← bv_snoc _ _ (by omega)]; exact HO6.out, HB6.out⟩)
         first
          | exact REL.out
          | ((repeat apply Exists.intro); refine ⟨?_, rfl⟩; exact REL.out)
        case measure => (first | (simp [intOf]; done) | (simp [intOf]; omega))
  · have hik : ¬ (k : Int) < (n : Int) := by omega
    have hdk : decide ((k : Int) < (n : Int)) = false := by rw [decide_eq_false_iff_not]; omega
    have HV := ϕ (show Owns wr w.heap.size 5 u5 (bv (toLe n a)) by
     have := HO.out
     rw [List.take_of_length_le (by rw [toLe_len]; omega)] at this
     exact this)
    go_wp2_with (refine str rfl 28 5 9 _ rfl Tryd.underlying28 Tryd.underlying5 Tryd.underlying9 HV.out rfl ?_; skip)
    go_ret
    exact ⟨rfl, HB.out⟩
theorem len_mono {x a : Nat} (h : x ≤ a) : (dig x).length ≤ (dig a).length := Nat.le_of_not_lt fun h2 => by have := dig_len_lt h2; omega
end Go.Proofs.YtfpcelmekfdafaaDoor.Dg
namespace Go.Proofs.YtfpcelmekfdafaaDoor.Rf
open Go.RowKit Go.Proofs.YtfpcelmekfdafaaDoor.Ow Go.Proofs.YtfpcelmekfdafaaDoor.Kx Go.Proofs.YtfpcelmekfdafaaDoor.Dg
theorem p_num : 2 ^ 255 - 19 = Ed.P := by decide +kernel
theorem P_any (w : World) : Calls Tryd.prog 8 #[] w fun e w' => (∃ u, e = .returned u ∧ Ns w' u (dig (Ed.P))) ∧ Below w.heap.size w w' := by
 have HB := ϕ (Below.refl w.heap.size w)
 go_enter Tryd.func8, Tryd.ntmps8
 have tk1 := True.intro
 go_wp2_with (first
  | (have _t := tk1; go_at_call 19; refine (Power_any w 255 15 15 rfl (by omega) (by omega)).mono ?_; rintro e w1x ⟨⟨p, rfl, hv⟩, hb⟩; skip;  have HP := ϕ hv; have HB := tm HB hb; clear hb hv _t tk1; have tk2 := True.intro)
  | (have _t := tk2; go_at_call 20; refine (Small_any w1x 19 (by omega)).mono ?_; rintro e w2x ⟨⟨q, rfl, hv⟩, hb⟩; have HP := ϕ (HP.out.below hb); have HQ := ϕ hv; have HB := tm HB hb; clear hb hv _t tk2; have tk3 := True.intro)
  | (have _t := tk3; go_at_call 18; refine (Sub_any w2x _ _ (2 ^ 255) 19 HP.out HQ.out (by decide +kernel) (by exact Nat.le_trans (dig_len_le (k := 16) (by decide +kernel)) (by decide))).mono ?_; rintro e w3x ⟨⟨r, rfl, hv⟩, hb⟩; have HP := ϕ (HP.out.below hb); have HQ := ϕ (HQ.out.below hb); have HR := ϕ hv; have HB := tm HB hb; clear hb hv _t tk3; have tk4 := True.intro))
 go_ret
 exact ⟨⟨_, rfl, by have h := HR.out; rw [p_num] at h; exact h⟩, HB.out⟩
open Go.Proofs.YtfpcelmekfdafaaDoor.Ed
/-- v reads as the digits of x -/
def FR (w : World) (v : Value) (x : F) : Prop := Ns w v (dig x.val)
theorem FR.below {w w' : World} {v : Value} {x : F} (h : FR w v x) (hb : Below w.heap.size w w') : FR w' v x := Ns.below h hb
theorem FR.nil (w : World) : FR w (.slice none 0 0) 0 := by
 unfold FR
 rw [show (0 : F).val = 0 from rfl, dig_zero]
 exact Ns.nil w
theorem f_sub (x y : F) : (dig (x.val + Ed.P)).length ≤ 1000 ∧ y.val ≤ x.val + Ed.P ∧ (dig (x.val + Ed.P - y.val)).length ≤ 1000 ∧ (x.val + Ed.P - y.val) % Ed.P = (x - y).val := by
 have h1 := x.isLt
 have h2 := y.isLt
 have h3 : Ed.P + Ed.P < 65536 ^ 17 := by decide +kernel
 have h4 : (dig (x.val + Ed.P)).length ≤ 1000 := Nat.le_trans (dig_len_le (k := 17) (Nat.lt_of_le_of_lt (Nat.add_le_add (Nat.le_of_lt h1) (Nat.le_refl _)) h3)) (by decide)
 have h5 : y.val ≤ x.val + Ed.P := Nat.le_trans (Nat.le_of_lt h2) (Nat.le_add_left _ _)
 refine ⟨h4, h5, Nat.le_trans (len_mono (Nat.sub_le _ _)) h4, ?_⟩
 rw [Ed.v_sub]
 congr 1
 have h6 : y.val ≤ Ed.P := Nat.le_of_lt h2
 omega
theorem div_top (n k : Nat) (h : (dig n).length = k) : n / 2 ^ (16 * k) = 0 := by
 have h1 := dig_lt n
 rw [h, show (65536 : Nat) = 2 ^ 16 from rfl, ← Nat.pow_mul] at h1
 exact Nat.div_eq_of_lt h1
theorem l_pos : 0 < Ed.L := by decide +kernel
/-- a block, led on -/
def BK (w : World) (b : Nat) (T : TypeId) (cs : Array Value) : Prop := Rg.Blk w b T cs
theorem BK.below {w w' : World} {b : Nat} {T : TypeId} {cs : Array Value} (h : BK w b T cs) (hb : Below w.heap.size w w') : BK w' b T cs := Rg.Blk.below h hb (Rg.Blk.lt h)
theorem BK.cell {w : World} {b : Nat} {T : TypeId} {cs : Array Value} (h : BK w b T cs) (j : Nat) {v : Value} (hv : cs[j]? = some v) : w.cell? ⟨b, j, none⟩ = some v := Rg.Blk.cell h j hv
theorem BK.frozen {w : World} {b : Nat} {T : TypeId} {cs : Array Value} (h : BK w b T cs) (j : Nat) : w.frozen? ⟨b, j, none⟩ = false := Rg.Blk.frozen h j
/-- a store into a block that holds no ints leaves digits as they are -/
theorem Ns.grown {w w' : World} {v : Value} {l : List Nat} {rb : Nat} {T : TypeId} {cs : Array Value} (h : Ns w v l) (hg : w.grownBy w' (some rb)) (hb : BK w rb T cs) (hcs : ∀ (j : Nat) (d : Int), cs[j]? ≠ some (.int .i64 d)) : Ns w' v l := by
 obtain ⟨A, c, rfl, hR, hc⟩ := h
 refine ⟨A, c, rfl, fun j y hy => ?_, hc⟩
 obtain ⟨b, o, hA, hl, hcl⟩ := hR j y hy
 have hy2 : ∃ d : Nat, y = .int .i64 (d : Int) := by
  unfold iv at hy
  rw [List.getElem?_map] at hy
  obtain ⟨d, _, hd⟩ := Option.map_eq_some_iff.1 hy
  exact ⟨d, hd.symm⟩
 obtain ⟨d, rfl⟩ := hy2
 have hne : b ≠ rb := fun e => by
  subst e
  rw [cell_of_row w b (o + j) _ _ _ hb] at hcl
  exact hcs _ _ hcl
 refine ⟨b, o, hA, Nat.lt_of_lt_of_le hl hg.size, ?_⟩
 have hh := hg.block b hl (fun e => hne (Option.some.inj e))
 rw [← hcl]
 unfold World.cell?
 simp only [hh]
theorem FR.grown {w w' : World} {v : Value} {x : F} {rb : Nat} {T : TypeId} {cs : Array Value} (h : FR w v x) (hg : w.grownBy w' (some rb)) (hb : BK w rb T cs) (hcs : ∀ (j : Nat) (d : Int), cs[j]? ≠ some (.int .i64 d)) : FR w' v x := Ns.grown h hg hb hcs
/-- v is a point's three numbers -/
def P3 (w : World) (v : Value) (X Y Z : F) : Prop := ∃ a b c, v = .agg #[a, b, c] ∧ FR w a X ∧ FR w b Y ∧ FR w c Z
theorem P3.below {w w' : World} {v : Value} {X Y Z : F} (h : P3 w v X Y Z) (hb : Below w.heap.size w w') : P3 w' v X Y Z := by
 obtain ⟨a, b, c, h1, h2, h3, h4⟩ := h
 exact ⟨a, b, c, h1, h2.below hb, h3.below hb, h4.below hb⟩
/-- v stands for the point p -/
def PQ (w : World) (v : Value) (p : Pt) : Prop := ∃ X Y Z, P3 w v X Y Z ∧ Rep p X Y Z
theorem PQ.below {w w' : World} {v : Value} {p : Pt} (h : PQ w v p) (hb : Below w.heap.size w w') : PQ w' v p := by
 obtain ⟨X, Y, Z, h1, h2⟩ := h
 exact ⟨X, Y, Z, h1.below hb, h2⟩
theorem d_num : (0 - 121665) * Ed.inv 121666 = dE := by decide +kernel
theorem FR.form {w : World} {v : Value} {x : F} (h : FR w v x) : ∃ A n c, v = .slice A n c := by
 obtain ⟨A, c, rfl, _, _⟩ := h; exact ⟨A, _, c, rfl⟩
theorem FR.one {w : World} {v : Value} {x : F} (h : FR w v x) : v.oneCell' = true := by
 obtain ⟨A, c, rfl, _, _⟩ := h; rfl
theorem PQ.grown {w w' : World} {v : Value} {p : Pt} {rb : Nat} {T : TypeId} {cs : Array Value} (h : PQ w v p) (hg : w.grownBy w' (some rb)) (hb : BK w rb T cs) (hcs : ∀ (j : Nat) (d : Int), cs[j]? ≠ some (.int .i64 d)) : PQ w' v p := by
 obtain ⟨X, Y, Z, ⟨a, b, c, rfl, h1, h2, h3⟩, hr⟩ := h
 exact ⟨X, Y, Z, ⟨a, b, c, rfl, h1.grown hg hb hcs, h2.grown hg hb hcs, h3.grown hg hb hcs⟩, hr⟩
/-- a point's value: three slices -/
theorem PQ.form {w : World} {v : Value} {p : Pt} (h : PQ w v p) : ∃ A1 n1 c1 A2 n2 c2 A3 n3 c3, v = .agg #[.slice A1 n1 c1, .slice A2 n2 c2, .slice A3 n3 c3] := by
 obtain ⟨X, Y, Z, ⟨a, b, c, rfl, h1, h2, h3⟩, hr⟩ := h
 obtain ⟨A1, n1, c1, rfl⟩ := h1.form
 obtain ⟨A2, n2, c2, rfl⟩ := h2.form
 obtain ⟨A3, n3, c3, rfl⟩ := h3.form
 exact ⟨_, _, _, _, _, _, _, _, _, rfl⟩
end Go.Proofs.YtfpcelmekfdafaaDoor.Rf
namespace Go.Proofs.YtfpcelmekfdafaaDoor.Sha
open Go.RowKit Go.Proofs.YtfpcelmekfdafaaDoor.Cl
theorem wrap_u64_add (a b : Nat) : IntKind.u64.wrap ((a : Int) + (b : Int)) = (((a + b) % 18446744073709551616 : Nat) : Int) := by
 rw [IntKind.wrap_u64]; omega
attribute [local go_sem] wrap_u64_add
theorem sched_word (W : Nat) (blk : List UInt8) (k : Nat) (h : k < 80) (h16 : k < 16) : (pad80 (sched W blk k)).set k (part W blk k (W / 8)) = pad80 (sched W blk (k + 1)) := by
 have hl := sched_length W blk k
 have e : sched W blk (k + 1) = sched W blk k ++ [part W blk k (W / 8)] := by simp [sched, h16, part]
 have := pad80_set (sched W blk k) (part W blk k (W / 8)) (by omega)
 rw [e, ← this, hl]
theorem sched_part0 (W : Nat) (blk : List UInt8) (k : Nat) (h : k < 80) : (pad80 (sched W blk k)).set k (part W blk k 0) = pad80 (sched W blk k) := by
 have hl := sched_length W blk k
 have h0 := pad80_at (sched W blk k) (by omega)
 have h8 := pad80_length (sched W blk k) (by omega)
 rw [hl] at h0
 have e : part W blk k 0 = (pad80 (sched W blk k))[k]'(by omega) := by
  rw [nth_getD, List.getD_eq_getElem?_getD, List.getElem?_eq_getElem (by omega)] at h0
  simpa [part, beN] using h0.symm
 rw [e, List.set_getElem_self]
theorem sched_next (W : Nat) (blk : List UInt8) (k : Nat) (h : k < 80) (h16 : ¬ k < 16) (v : Nat)
 (hv : v = (sg1 W (nth (sched W blk k) (k - 2)) + nth (sched W blk k) (k - 7) + sg0 W (nth (sched W blk k) (k - 15)) + nth (sched W blk k) (k - 16)) % 2 ^ W) :
 (pad80 (sched W blk k)).set k v = pad80 (sched W blk (k + 1)) := by
 have hl := sched_length W blk k
 have e : sched W blk (k + 1) = sched W blk k ++ [v] := by simp [sched, h16, hv]
 have := pad80_set (sched W blk k) v (by omega)
 rw [e, ← this, hl]
theorem pad_get (W : Nat) (blk : List UInt8) (k i : Nat) (hi : i < k) : nth (pad80 (sched W blk k)) i = nth (sched W blk k) i :=
 pad80_getD _ _ (by rw [sched_length]; exact hi)
theorem set_getD (l : List Nat) (k v : Nat) (h : k < l.length) : nth (l.set k v) k = v := by
 simp [nth, List.getD_eq_getElem?_getD, h]
theorem shl_or (W : Nat) (blk : List UInt8) (k j : Nat) (b : UInt8) (hj : j < 8) (hb : k * (W / 8) + j < blk.length) (hb' : blk[k * (W / 8) + j] = b) :
 bits .or .u64 (IntKind.u64.wrap ((part W blk k j : Int) * 256)) (IntKind.u64.wrap (b.toNat : Int)) = ((part W blk k (j + 1) : Nat) : Int) := by
 have hp := part_lt W blk k j
 have hm : 256 ^ j ≤ 256 ^ 7 := Nat.pow_le_pow_right (by decide) (by omega)
 have h7 : (256 : Nat) ^ 7 = 72057594037927936 := by decide
 have e : IntKind.u64.wrap ((part W blk k j : Int) * 256) = ((part W blk k j * 256 : Nat) : Int) := by rw [IntKind.wrap_u64]; omega
 have e2 : IntKind.u64.wrap (b.toNat : Int) = (b.toNat : Int) := by rw [IntKind.wrap_u64]; have := b.toNat_lt; omega
 rw [e, e2, u64_or_nat _ _ (by omega) (by have := b.toNat_lt; omega), or_byte, part_succ W blk k j hb, hb']
theorem sched512 (w : World) (s : ByteArray) (hs : s.size = 128) : Calls Tryd.prog 72 #[K512, .string s] w fun e w' => e = .returned (.agg (Cl.u64s (msg 64 s.data.toList))) ∧ Below w.heap.size w w' := by
 rw [msg64]
 have hlen : s.data.toList.length = 128 := by simpa using hs
 unfold K512
 have k0 : k512c[0]? = some (.int .i64 64) := rfl
 have k1 : k512c[1]? = some (.int .i64 80) := rfl
 go_enter Tryd.func72, Tryd.ntmps72
 go_wp2_with fail
 clear k0 k1
 generalize hW : World.alloc (World.alloc (World.alloc w _) _) _ = W
 have hn : W.heap.size = w.heap.size + 1 + 1 + 1 := by subst hW; simp
 have hBW := ϕ (show Below w.heap.size w W by subst hW; exact (((Below.refl _ _).alloc (Nat.le_refl _) _).alloc (by simp) _).alloc (by simp; omega) _)
 have HK := ϕ (show Rg.Blk W w.heap.size 90 k512c by subst hW; exact ((Rg.Blk.new _ _ _).alloc _).alloc _)
 have HT := ϕ (show Rg.Blk W (w.heap.size + 1) 118 Tryd.zeroCells118 by subst hW; refine Rg.Blk.alloc (Rg.Blk.newAt ?_ _ _) _; simp)
 have HR0 := ϕ (show Cl.Row W (w.heap.size + 1 + 1) 118 (pad80 (sched 64 s.data.toList 0)) by subst hW; refine Rg.Blk.newAt ?_ _ _; simp)
 have HN := ϕ hn
 clear hW hn
 go_loopw [14] (fun i wr => ∃ k : Nat, k ≤ 80 ∧ i = .int .i64 k ∧ Cl.Row wr (w.heap.size + 1 + 1) 118 (pad80 (sched 64 s.data.toList k)) ∧ Below (w.heap.size + 1 + 1) W wr) (fun i _ => 80 - (intOf i).toNat)
 case atStart => exact ⟨0, by decide, rfl, HR0.out, Below.refl _ _⟩
 case round =>
  obtain ⟨k, hk, rfl, hR, hb⟩ := hrel
  have HR := ϕ hR
  have HB := ϕ hb
  have HK' := ϕ (HK.out.below hb (by omega))
  clear hR HR0 hb
  by_cases hlt : k < 80
  · have h80 := ϕ (pad80_length (sched 64 s.data.toList k) (by rw [sched_length]; omega))
    by_cases h16 : k < 16
    · go_wp2_with fail
      obtain ⟨wo, rfl⟩ : ∃ wo : World, wo = wr := ⟨_, rfl⟩
      go_loopw [20] (fun i wr => ∃ j : Nat, j ≤ 8 ∧ i = .int .i64 j ∧ Cl.Row wr (w.heap.size + 1 + 1) 118 ((pad80 (sched 64 s.data.toList k)).set k (part 64 s.data.toList k j)) ∧ Below (w.heap.size + 1 + 1) W wr) (fun i _ => 8 - (intOf i).toNat)
      case atStart => exact ⟨0, by decide, rfl, by rw [sched_part0 _ _ _ (by omega)]; exact HR.out, HB.out⟩
      case round =>
       obtain ⟨j, hj, rfl, hR2, hb2⟩ := hrel
       have HR2 := ϕ hR2
       have HB2 := ϕ hb2
       clear hR2 hb2
       by_cases hjn : j < 8
       · go_wp2_with fail
         have hc := fun (t : Rg.Later wr.heap.size wr) => (t.cell (w.heap.size + 1 + 1) k HR2.out.lt).trans (HR2.out.cell k (by rw [List.length_set, h80.out]; omega))
         rw [set_getD _ _ _ (by rw [h80.out]; omega)] at hc
         have hf := fun t : Rg.Later wr.heap.size wr => (t.frozen (w.heap.size + 1 + 1) k HR2.out.lt).trans (HR2.out.frozen k)
         have hi0 : 0 ≤ (k : Int) * 8 + j := by omega
         have hi1 : (k : Int) * 8 + j < 128 := by omega
         refine Rg.wp_region_later wr.heap.size 15 (by kernel_rfl) (by kernel_rfl) ?_
         simp only [List.take_succ_cons, List.take_zero, List.drop_succ_cons, List.drop_zero]
         repeat (go_big_quiet_step (fail))
         refine wpQuiet_nil ?_
         rintro _ ⟨t, rfl⟩
         go_wp2
         go_roundw
         case rel =>
          refine ⟨j + 1, by omega, by go_num, ?_, (HB2.out.trans (t.is.mono (by have := HR2.out.lt; omega))).setCell (Nat.le_refl _) _⟩
          have hb : k * (64 / 8) + j < s.data.toList.length := by rw [hlen]; omega
          have hv := shl_or 64 s.data.toList k j s[k * 8 + j] (by omega) hb rfl
          rw [hv]
          have := (HR2.out.below t.is HR2.out.lt).store k (part 64 s.data.toList k (j + 1))
          rwa [List.set_set] at this
         case measure => simp [intOf]; omega
       · obtain rfl : j = 8 := by omega
         go_wp2_with fail
         go_roundw
         case rel => exact ⟨k + 1, by omega, by go_num, by rw [← sched_word _ _ _ (by omega) h16]; exact HR2.out, HB2.out⟩
         case measure => simp [intOf]; omega
    · have hsl := sched_lt 64 (by decide) s.data.toList k
      have hg := fun i => getD_lt hsl (Nat.two_pow_pos 64) i
      have Hg := ϕ (show ∀ i, nth (sched 64 s.data.toList k) i < 18446744073709551616 from hg)
      clear hsl hg
      go_wp2_with fail
      have hlw : w.heap.size + 1 + 1 < wr.heap.size := HR.out.lt
      have HL : Hid (w.heap.size < wr.heap.size) := ϕ (by omega)
      have c2 := HK'.out.cellL HL.out 2 (v := .int .i64 1) rfl
      have c3 := HK'.out.cellL HL.out 3 (v := .int .i64 8) rfl
      have c4 := HK'.out.cellL HL.out 4 (v := .int .i64 7) rfl
      have c5 := HK'.out.cellL HL.out 5 (v := .int .i64 19) rfl
      have c6 := HK'.out.cellL HL.out 6 (v := .int .i64 61) rfl
      have c7 := HK'.out.cellL HL.out 7 (v := .int .i64 6) rfl
      have hF : ∀ i, i < k → ∀ t : Rg.Later wr.heap.size wr, t.val.cell? ⟨w.heap.size + 1 + 1, i, none⟩ = some (.int .u64 (nth (sched 64 s.data.toList k) i : Nat)) := fun i hi t => by
       rw [← pad_get _ _ _ _ hi]
       exact (t.cell (w.heap.size + 1 + 1) i HR.out.lt).trans (HR.out.cell i (by rw [h80.out]; omega))
      have f2 := hF (k - 2) (by omega)
      have f7 := hF (k - 7) (by omega)
      have f15 := hF (k - 15) (by omega)
      have f16 := hF (k - 16) (by omega)
      clear hF
      have i2 : (2 : Int) ≤ k ∧ (k : Int) - 2 < 80 := by omega
      have i7 : (7 : Int) ≤ k ∧ (k : Int) - 7 < 80 := by omega
      have i15 : (15 : Int) ≤ k ∧ (k : Int) - 15 < 80 := by omega
      have i16 : (16 : Int) ≤ k ∧ (k : Int) - 16 < 80 := by omega
      have h16' : 16 ≤ k := by omega
      have ik : (k : Int) < 80 := by omega
      have hf := fun t : Rg.Later wr.heap.size wr => (t.frozen (w.heap.size + 1 + 1) k HR.out.lt).trans (HR.out.frozen k)
      have hck := fun t : Rg.Later wr.heap.size wr => (t.cell (w.heap.size + 1 + 1) k HR.out.lt).trans (HR.out.cell k (by rw [h80.out]; omega))
      refine Rg.wp_region_later wr.heap.size 31 (by kernel_rfl) (by kernel_rfl) ?_
      simp only [List.take_succ_cons, List.take_zero, List.drop_succ_cons, List.drop_zero]
      repeat (first | (go_big_quiet_want; refine Rg.quiet_load_row 90 _ rfl _ rfl _ _ _ (HK'.out.later HL.out) Tryd.underlying90 rfl rfl ?_; simp only [Act.put, List.setIfInBounds_toArray, List.set_cons_succ, List.set_cons_zero]; go_big_quiet_on) | go_big_quiet_step (first | (go_at_call 79; exact Rg.later_of (Nat.le_refl _) (small512_any _ _ _ _ _ (Hg.out _) (by decide) (by decide) (by decide) (by decide) (by decide) (by decide))) | (go_at_call 74; exact Rg.later_of (Nat.le_refl _) (cut512_any _ _ (Nat.mod_lt _ (by decide))))))
      refine wpQuiet_nil ?_
      rintro _ ⟨t, rfl⟩
      go_wp2
      go_roundw
      case rel =>
       refine ⟨k + 1, by omega, by go_num, ?_, (HB.out.trans (t.is.mono (by omega))).setCell (Nat.le_refl _) _⟩
       have hv := sched_next 64 s.data.toList k (by omega) h16 _ rfl
       rw [← hv]
       refine (HR.out.below t.is HR.out.lt).storeI k _ ?_
       simp only [sg0, sg1, Nat.reduceEqDiff, if_false]
       omega
      case measure => simp [intOf]; omega
  · obtain rfl : k = 80 := by omega
    have h80 := pad80_length (sched 64 s.data.toList 80) (by rw [sched_length]; omega)
    have hsz : (Cl.u64s (pad80 (sched 64 s.data.toList 80))).size = 80 := by simp [Cl.u64s, h80]
    have HS := ϕ hsz
    have HT' := ϕ (HT.out.below HB.out (by omega))
    have HHB := ϕ HB.out
    clear hsz h80
    go_wp2_with (first
     | (refine wpList_load_row rfl 118 _ rfl _ rfl _ _ _ _ HR.out Tryd.underlying118 rfl (by rw [HS.out]; rfl) ?_)
     | (refine wpList_store_row rfl 118 _ _ rfl _ _ rfl rfl _ _ HT'.out (by rw [HS.out]; rfl) (by rw [HS.out]; rfl) (Cl.u64s_one _) ?_))
    have hb1 : Below w.heap.size w wr := hBW.out.trans (HHB.out.mono (by omega))
    exact bodyPost_ret (v := .agg (Cl.u64s (pad80 (sched 64 s.data.toList 80))))
     (results_cell_row Tryd.results72 _ _ (w.heap.size + 1) 118 _ (0, 0) _ rfl (setRow_heap _ _ _ _ _ _ HT'.out) Tryd.underlying118 rfl (by rw [HS.out]; rfl)) rfl
     ⟨rfl, Rg.below_setRow hb1 (by omega) _⟩
end Go.Proofs.YtfpcelmekfdafaaDoor.Sha
namespace Go.Proofs.YtfpcelmekfdafaaDoor.Sha
open Go.RowKit Go.Proofs.YtfpcelmekfdafaaDoor.Cl
theorem one_cells (l : List Nat) : ∀ v ∈ l.map fun (x : Nat) => Value.int .u64 (x : Int), v.oneCell' = true := by
 intro v hv
 obtain ⟨x, _, rfl⟩ := List.mem_map.1 hv
 rfl
theorem blk_grown {w w' : World} {b g T : Nat} {cs : Array Value} (h : Rg.Blk w b T cs) (hg : w.grownBy w' (some g)) (hn : b ≠ g) : Rg.Blk w' b T cs := by
 unfold Rg.Blk at *
 rw [hg.block b (Array.getElem?_eq_some_iff.1 h).1 (fun e => hn (Option.some.inj e))]; exact h
theorem grown_of_below {w w' : World} (h : Below w.heap.size w w') (r : Option Nat) : w.grownBy w' r := ⟨h.os, h.tape, h.output, h.size, fun k hk _ => h.block k hk⟩
theorem grown_trans {a b c : World} {r : Option Nat} (h : a.grownBy b r) (h' : b.grownBy c r) : a.grownBy c r :=
 ⟨h'.os.trans h.os, h'.tape.trans h.tape, h'.output.trans h.output, Nat.le_trans h.size h'.size, fun k hk hr => (h'.block k (Nat.lt_of_lt_of_le hk h.size) hr).trans (h.block k hk hr)⟩
/-- the first j words mixed in -/
def mixPart (W : Nat) (h x : List Nat) (j : Nat) : List Nat := (List.range 8).map fun i => if i < j then (nth h i + nth x i) % 2 ^ W else nth h i
theorem mixPart_length (W : Nat) (h x : List Nat) (j : Nat) : (mixPart W h x j).length = 8 := by simp [mixPart]
theorem mixed_part (W : Nat) (blk : List UInt8) (h : List Nat) : mixed W blk h = mixPart W h (mixAll W blk h) 8 := by
 unfold mixed mixPart
 exact List.map_congr_left fun i hi => (if_pos (List.mem_range.1 hi)).symm
theorem mixPart_zero (W : Nat) (h x : List Nat) (hl : h.length = 8) : mixPart W h x 0 = h := by
 match h, hl with
 | [a, b, c, d, e, f, g, i], _ => rfl
theorem mixPart_set (W : Nat) (h x : List Nat) (j v : Nat) (hj : j < 8) (hv : v = (nth h j + nth x j) % 2 ^ W) : (mixPart W h x j).set j v = mixPart W h x (j + 1) := by
 apply List.ext_getElem
 · simp [mixPart]
 · intro i h1 h2
   rw [List.getElem_set]
   simp only [mixPart, List.getElem_map, List.getElem_range]
   by_cases hij : j = i
   · subst hij; simp [hv]
   · have : i < j + 1 ↔ i < j := by omega
     simp [hij, this]
theorem mixPart_at (W : Nat) (h x : List Nat) (j : Nat) (hj : j < 8) : nth (mixPart W h x j) j = nth h j := by
 simp [nth, mixPart, hj]
theorem mixPart_succ64 (h x : List Nat) (j : Nat) (hj : j < 8) : (mixPart 64 h x j).set j (add64 (nth (mixPart 64 h x j) j) (nth x j)) = mixPart 64 h x (j + 1) :=
 mixPart_set 64 h x j _ hj (by rw [mixPart_at _ _ _ _ hj]; rfl)
/-- a shift by one place -/
def sh (xs : List Nat) : List Nat := [nth xs 0, nth xs 0, nth xs 1, nth xs 2, nth xs 3, nth xs 4, nth xs 5, nth xs 6]
theorem sh_length (xs : List Nat) (_ : xs.length = 8) : (sh xs).length = 8 := rfl
theorem splice_sh (xs : List Nat) (h : xs.length = 8) : (splice (xs.map fun (x : Nat) => Value.int .u64 (x : Int)) 1 ((xs.take 7).map fun (x : Nat) => Value.int .u64 (x : Int))).toArray = u64s (sh xs) := by
 match xs, h with
 | [a, b, c, d, e, f, g, i], _ => rfl
theorem copy_src {w : World} {b T : Nat} {xs : List Nat} (h : Row w b T xs) (hl : xs.length = 8) : ∀ j v, ((xs.take 7).map fun (x : Nat) => Value.int .u64 (x : Int))[j]? = some v → w.cell? ((⟨b, 0, none⟩ : Addr).add j) = some v := by
 intro j v hv
 have hadd : (⟨b, 0, none⟩ : Addr).add j = ⟨b, j, none⟩ := by unfold Addr.add; split <;> simp_all
 have hj : j < 7 := by
  have := (List.getElem?_eq_some_iff.1 hv).1
  simp [hl] at this; omega
 rw [hadd, h.cell j (by omega), ← hv]
 simp [List.getElem?_take, hj, nth, List.getElem?_eq_getElem (show j < xs.length by omega)]
theorem round64 (xs : List Nat) (k wt : Nat) : ((sh xs).set 4 (add64 (nth (sh xs) 4) (add64 (add64 (add64 (add64 (nth xs 7) (three 64 (nth xs 4) 14 18 41)) (ch (nth xs 4) (nth xs 5) (nth xs 6))) (nth wordsL k)) wt))).set 0
 (add64 (add64 (add64 (add64 (add64 (nth xs 7) (three 64 (nth xs 4) 14 18 41)) (ch (nth xs 4) (nth xs 5) (nth xs 6))) (nth wordsL k)) wt) (add64 (three 64 (nth xs 0) 28 34 39) (mj (nth xs 0) (nth xs 1) (nth xs 2)))) = mixRound 64 xs (kw 64 k) wt := by
 rfl
attribute [local go_sem] wrap_add64
theorem mix512 (w : World) (hb : Nat) (hh : List Nat) (s : ByteArray) (hs : s.size = 128) (hT : Tables w) (hb2 : 2 ≤ hb) (hR : Row w hb 98 hh) (hl : hh.length = 8) (hlt : ∀ i, nth hh i < 18446744073709551616) :
 Calls Tryd.prog 64 #[K512, .pointer (some ⟨hb, 0, none⟩), .string s] w fun e w' => e = .returned (.tuple #[]) ∧ Row w' hb 98 (mixed 64 s.data.toList hh) ∧ w.grownBy w' (some hb) := by
 have HR := ϕ hR
 have HT := ϕ hT
 have HLT := ϕ hlt
 have hS8 := ϕ (show (u64s hh).size = 8 by simp [u64s, hl])
 have hbl := hR.lt
 have HS80 := ϕ (show (Cl.u64s (msg 64 s.data.toList)).size = 80 by simp [Cl.u64s, msg_length])
 clear hR hT hlt hl
 unfold K512
 go_enter Tryd.func64, Tryd.ntmps64
 go_wp2_with (first
  | (refine Rg.box_fresh rfl 90 _ rfl _ rfl ?_; intro V hK hbV hnV; have HK := ϕ hK; have HBV := ϕ hbV; have HNV := ϕ hnV; clear hK hbV hnV)
  | (refine wpList_load_row rfl 90 _ rfl w.heap.size rfl _ _ _ _ HK.out Tryd.underlying90 rfl (by kernel_rfl) ?_)
  | (go_at_call 72; refine (sched512 _ _ hs).mono ?_; rintro e w1 ⟨rfl, hb1⟩; have HB1 := ϕ hb1; clear hb1; have tok := True.intro)
  | (have _t := tok; refine Rg.store_fresh rfl 118 _ _ rfl _ _ _ rfl rfl (by rw [HS80.out]; rfl) (by rw [HS80.out]; rfl) (u64s_one _) ?_; intro X hM hbX; clear tok _t
     have HM := ϕ hM; have HBX := ϕ hbX; clear hM hbX; have tok2 := True.intro)
  | (have _t := tok2; refine wpList_load_row rfl 98 _ rfl hb rfl _ _ _ _ (((HR.out.below HBV.out hbl).below HB1.out (by rw [HNV.out]; omega)).below HBX.out (by have := HB1.out.size; rw [HNV.out] at this; omega)) Tryd.underlying98 rfl (by rw [hS8.out]; rfl) ?_; skip; clear _t tok2; have tok3 := True.intro)
  | (have _t := tok3; refine Rg.store_fresh rfl 98 _ _ rfl _ _ _ rfl rfl (by rw [hS8.out]; rfl) (by rw [hS8.out]; rfl) (u64s_one _) ?_; intro Y hX hbY; clear tok3 _t; have HX := ϕ hX
     have hVw : w.heap.size + 1 ≤ w1.heap.size := by have := HB1.out.size; rw [HNV.out] at this; exact this
     have hwX : w1.heap.size ≤ X.heap.size := HBX.out.size
     have HKY := ϕ (((HK.out.below HB1.out HK.out.lt).below HBX.out (by omega)).below hbY (by omega))
     have HMY := ϕ (HM.out.below hbY HM.out.lt)
     have HBW := ϕ (show Below w.heap.size w Y from ((HBV.out.trans (HB1.out.mono (by rw [HNV.out]; omega))).trans (HBX.out.mono (by omega))).trans (hbY.mono (by omega)))
     have k1 := HKY.out.cell 1 (v := .int .i64 80) rfl
     have hXY : X.heap.size < Y.heap.size := HX.out.lt
     have hMX : w1.heap.size < X.heap.size := HM.out.lt
     clear hX hbY))
 go_loopw [20] (fun i wr => ∃ k : Nat, k ≤ 80 ∧ i = .int .i64 k ∧ Row wr X.heap.size 98 (mixTo 64 (msg 64 s.data.toList) hh k) ∧ Below X.heap.size Y wr) (fun i _ => 80 - (intOf i).toNat)
 case atStart => exact ⟨0, by decide, rfl, HX.out, Below.refl _ _⟩
 case round =>
  obtain ⟨k, hk, rfl, hR, hb⟩ := hrel
  have HRr := ϕ hR
  have HBr := ϕ hb
  have hwr : X.heap.size < wr.heap.size := hR.lt
  have HKr := ϕ (HKY.out.below hb (by omega))
  have HMr := ϕ (show Row wr w1.heap.size 118 (msg 64 s.data.toList) from HMY.out.below hb hMX)
  have HTr := ϕ ((HT.out.below HBW.out HT.out.size).below hb (by have := HT.out.size; omega))
  clear hR hb k1
  by_cases hlt : k < 80
  · go_wp2_with fail
    have hg := mixTo_lt 64 (msg 64 s.data.toList) hh HLT.out k
    have hgl := mixTo_length 64 (msg 64 s.data.toList) hh (by have := hS8.out; simpa [u64s] using this) k
    have HE := ϕ (show mixTo 64 (msg 64 s.data.toList) hh (k + 1) = mixRound 64 (mixTo 64 (msg 64 s.data.toList) hh k) (kw 64 k) (nth (msg 64 s.data.toList) k) from rfl)
    generalize mixTo 64 (msg 64 s.data.toList) hh k = xs at *
    have hKl : w.heap.size < wr.heap.size := by omega
    have hMl : w1.heap.size < wr.heap.size := by omega
    have hTl : 3 ≤ wr.heap.size := HTr.out.size
    have Hg := ϕ hg
    have Hl := ϕ hgl
    clear hg hgl
    have x0 := fun s : Rg.Later wr.heap.size wr => (s.cell X.heap.size 0 hwr).trans (HRr.out.cell 0 (by rw [Hl.out]; decide))
    have x1 := fun s : Rg.Later wr.heap.size wr => (s.cell X.heap.size 1 hwr).trans (HRr.out.cell 1 (by rw [Hl.out]; decide))
    have x2 := fun s : Rg.Later wr.heap.size wr => (s.cell X.heap.size 2 hwr).trans (HRr.out.cell 2 (by rw [Hl.out]; decide))
    have x3 := fun s : Rg.Later wr.heap.size wr => (s.cell X.heap.size 3 hwr).trans (HRr.out.cell 3 (by rw [Hl.out]; decide))
    have x4 := fun s : Rg.Later wr.heap.size wr => (s.cell X.heap.size 4 hwr).trans (HRr.out.cell 4 (by rw [Hl.out]; decide))
    have x5 := fun s : Rg.Later wr.heap.size wr => (s.cell X.heap.size 5 hwr).trans (HRr.out.cell 5 (by rw [Hl.out]; decide))
    have x6 := fun s : Rg.Later wr.heap.size wr => (s.cell X.heap.size 6 hwr).trans (HRr.out.cell 6 (by rw [Hl.out]; decide))
    have x7 := fun s : Rg.Later wr.heap.size wr => (s.cell X.heap.size 7 hwr).trans (HRr.out.cell 7 (by rw [Hl.out]; decide))
    have c8 := HKr.out.cellL hKl 8 (v := .int .i64 28) rfl
    have c9 := HKr.out.cellL hKl 9 (v := .int .i64 34) rfl
    have c10 := HKr.out.cellL hKl 10 (v := .int .i64 39) rfl
    have c11 := HKr.out.cellL hKl 11 (v := .int .i64 14) rfl
    have c12 := HKr.out.cellL hKl 12 (v := .int .i64 18) rfl
    have c13 := HKr.out.cellL hKl 13 (v := .int .i64 41) rfl
    have m := fun s : Rg.Later wr.heap.size wr => (s.cell w1.heap.size k hMl).trans (HMr.out.cell k (by rw [msg_length]; omega))
    have tk := fun s : Rg.Later wr.heap.size wr => (s.cell 2 k (Nat.lt_of_lt_of_le (by decide) hTl)).trans (HTr.out.words k (by omega))
    have ik : (k : Int) < 80 := by omega
    have b0 : ∀ i, nth xs i < 18446744073709551616 := fun i => Nat.lt_of_lt_of_le (Hg.out i) (by decide)
    have e1 := ch_e1 (nth xs 4) (nth xs 5) (b0 4) (b0 5)
    have e2 := not_u64 (nth xs 4) (b0 4)
    have e3 := ch_e3 (nth xs 4) (nth xs 6) (b0 6)
    have e4 := ch_e4 (nth xs 4) (nth xs 5) (nth xs 6) (b0 4)
    have e5 := ch_e1 (nth xs 0) (nth xs 1) (b0 0) (b0 1)
    have e6 := ch_e1 (nth xs 0) (nth xs 2) (b0 0) (b0 2)
    have e7 := ch_e1 (nth xs 1) (nth xs 2) (b0 1) (b0 2)
    have e8 := mj_e1 (nth xs 0) (nth xs 1) (nth xs 2) (b0 0)
    have e9 := mj_e2 (nth xs 0) (nth xs 1) (nth xs 2) (b0 0) (b0 1)
    clear b0
    refine Rg.wp_region_later_all wr.heap.size (by kernel_rfl) (by kernel_rfl) ?_
    repeat (first | (go_big_quiet_want; refine Rg.quiet_load_row 90 _ rfl _ rfl _ _ _ (HKr.out.later hKl) Tryd.underlying90 rfl (by kernel_rfl) ?_; simp only [Act.put, List.setIfInBounds_toArray, List.set_cons_succ, List.set_cons_zero]; go_big_quiet_on) | go_big_quiet_step (first | (go_at_call 73; exact Rg.later_of (Nat.le_refl _) (large512_any _ _ _ _ _ (Hg.out _) (by decide) (by decide) (by decide) (by decide) (by decide) (by decide))) | (go_at_call 59; exact Rg.later_of (Nat.le_refl _) (word512_any _ _))))
    refine wpQuiet_nil ?_
    rintro _ ⟨s1, rfl⟩
    go_wp2_with fail
    refine Rg.wp_region_from_all (by kernel_rfl) (by kernel_rfl) ?_
    repeat (first | (go_big_quiet_want; refine Rg.quiet_load_row 90 _ rfl _ rfl _ _ _ (HKr.out.later hKl) Tryd.underlying90 rfl (by kernel_rfl) ?_; simp only [Act.put, List.setIfInBounds_toArray, List.set_cons_succ, List.set_cons_zero]; go_big_quiet_on) | go_big_quiet_step ((go_at_call 73; exact Rg.later_of (Nat.le_refl _) (large512_any _ _ _ _ _ (Hg.out _) (by decide) (by decide) (by decide) (by decide) (by decide) (by decide)))))
    refine wpQuiet_nil ?_
    rintro _ ⟨s2, rfl⟩
    go_wp2_with fail
    refine Rg.wp_region_from 2 (by kernel_rfl) (by kernel_rfl) ?_
    simp only [List.take_succ_cons, List.take_zero, List.drop_succ_cons, List.drop_zero]
    repeat (go_big_quiet_step (fail))
    refine wpQuiet_nil ?_
    rintro _ ⟨s3, rfl⟩
    have HR3 := ϕ (HRr.out.below s3.is hwr)
    have HB3 := ϕ (HBr.out.trans (s3.is.mono (by omega)))
    clear x0 x1 x2 x3 x4 x5 x6 x7 c8 c9 c10 c11 c12 c13 m tk e1 e2 e3 e4 e5 e6 e7 e8 e9
    refine wpList_copy_splice rfl (.tmp 79) (.tmp 80) 121 121 rfl 38 Tryd.underlying121 (by kernel_rfl) (some ⟨X.heap.size, 1, none⟩) (some ⟨X.heap.size, 0, none⟩) 7 7 7 8 rfl rfl X.heap.size 1
     (xs.map fun (x : Nat) => Value.int .u64 (x : Int)) 98 HR3.out ((xs.take 7).map fun (x : Nat) => Value.int .u64 (x : Int)) (by simp [Hl.out]) (fun _ => ⟨rfl, _, rfl, copy_src HR3.out Hl.out⟩) (by simp [Hl.out]) (one_cells _) X.heap.size Y HB3.out (Nat.le_refl _) ?_
    intro w4 HR4 hb4
    rw [splice_sh xs Hl.out] at HR4
    have HB4 := ϕ hb4
    clear hb4
    have hw4 : X.heap.size < w4.heap.size := (show Row w4 X.heap.size 98 (sh xs) from HR4.out).lt
    have HK4 := ϕ (HKY.out.below HB4.out (by omega))
    have hsh : (sh xs).length = 8 := sh_length xs Hl.out
    have HSH := ϕ hsh
    clear hsh
    have x4 := (show Row w4 X.heap.size 98 (sh xs) from HR4.out).cell 4 (by rw [HSH.out]; decide)
    have tok5 := True.intro
    go_wp2_with (first
     | (have _t := tok5; refine wpList_load_row rfl 90 _ rfl w.heap.size rfl _ _ _ _ HK4.out Tryd.underlying90 rfl (by kernel_rfl) ?_; skip; clear _t)
     | (have _t := tok5; go_at_call 74; refine (cut512_any _ _ (add64_lt _ _)).mono ?_; rintro e w5 ⟨rfl, hb5⟩; skip; clear tok5 _t x4; have tok6 := True.intro
        have HR5 := ϕ ((show Row w4 X.heap.size 98 (sh xs) from HR4.out).below hb5 hw4)
        have HK5 := ϕ (HK4.out.below hb5 (by omega))
        have hw5 : X.heap.size < w5.heap.size := HR5.out.lt
        have HB5 := ϕ (HB4.out.trans (hb5.mono (by omega))); clear hb5)
     | (have _t := tok6; refine store_cell rfl 38 _ _ rfl rfl rfl Tryd.underlying38 (by kernel_rfl) HR5.out (by rw [HSH.out]; decide) ?_; skip; clear tok6 _t; intro w6 hR6 hg6; have tok7 := True.intro
        have HR6 := ϕ hR6
        have HK6 := ϕ (blk_grown HK5.out hg6 (by omega))
        have HB6 := ϕ (HB5.out.grown hg6 (by omega) (fun k hk => by cases hk; exact Nat.le_refl _))
        clear hR6 hg6)
     | (have _t := tok7; refine wpList_load_row rfl 90 _ rfl w.heap.size rfl _ _ _ _ HK6.out Tryd.underlying90 rfl (by kernel_rfl) ?_; skip; clear _t)
     | (have _t := tok7; go_at_call 74; refine (cut512_any _ _ (add64_lt _ _)).mono ?_; rintro e w7 ⟨rfl, hb7⟩; skip; clear tok7 _t; have tok8 := True.intro
        have hw6 : X.heap.size < w6.heap.size := HR6.out.lt
        have HR7 := ϕ (HR6.out.below hb7 hw6)
        have HB7 := ϕ (HB6.out.trans (hb7.mono (by omega))); clear hb7)
     | (have _t := tok8; refine store_cell rfl 38 _ _ rfl rfl rfl Tryd.underlying38 (by kernel_rfl) HR7.out (by rw [List.length_set, HSH.out]; decide) ?_; skip; clear tok8 _t; intro w8 hR8 hg8
        have HR8 := ϕ hR8
        have HB8 := ϕ (HB7.out.grown hg8 (by have := HR7.out.lt; omega) (fun k hk => by cases hk; exact Nat.le_refl _))
        clear hR8 hg8))
    go_roundw
    case rel =>
     refine ⟨k + 1, by omega, by go_num, ?_, HB8.out⟩
     rw [HE.out]
     exact (round64 xs k (nth (msg 64 s.data.toList) k)) ▸ HR8.out
    case measure => simp [intOf]; omega
  · obtain rfl : k = 80 := by omega
    have hxl : (mixTo 64 (msg 64 s.data.toList) hh 80).length = 8 := mixTo_length 64 _ _ (by have := hS8.out; simpa [u64s] using this) _
    have hxg := mixTo_lt 64 (msg 64 s.data.toList) hh HLT.out 80
    have HM2 := ϕ (show mixed 64 s.data.toList hh = mixPart 64 hh (mixTo 64 (msg 64 s.data.toList) hh 80) 8 by rw [mixed_part, mixAll64])
    have HRh := ϕ (show Row wr hb 98 (mixPart 64 hh (mixTo 64 (msg 64 s.data.toList) hh 80) 0) from by
     rw [mixPart_zero _ _ _ (by have := hS8.out; simpa [u64s] using this)]; exact (HR.out.below HBW.out hbl).below HBr.out (by omega))
    have HG0 := ϕ (show w.grownBy wr (some hb) from grown_of_below (HBW.out.trans (HBr.out.mono (by omega))) _)
    generalize mixTo 64 (msg 64 s.data.toList) hh 80 = xs at *
    have Hl := ϕ hxl
    have Hg := ϕ hxg
    clear hxl hxg
    obtain ⟨wo, rfl⟩ : ∃ wo : World, wo = wr := ⟨_, rfl⟩
    go_wp2_with fail
    go_loopw [96] (fun i wr => ∃ j : Nat, j ≤ 8 ∧ i = .int .i64 j ∧ Row wr hb 98 (mixPart 64 hh xs j) ∧ Row wr X.heap.size 98 xs ∧ Rg.Blk wr w.heap.size 90 k512c ∧ w.grownBy wr (some hb)) (fun i _ => 8 - (intOf i).toNat)
    case atStart => exact ⟨0, by decide, rfl, HRh.out, HRr.out, HKr.out, HG0.out⟩
    case round =>
     obtain ⟨j, hj, rfl, hR1, hR2, hK1, hG1⟩ := hrel
     have HH1 := ϕ hR1
     have HX1 := ϕ hR2
     have HK1 := ϕ hK1
     have HG1 := ϕ hG1
     clear hR1 hR2 hK1 hG1 HRh HG0
     by_cases hj8 : j < 8
     · go_wp2_with fail
       have hKl : w.heap.size < wr.heap.size := HK1.out.lt
       have hHl : hb < wr.heap.size := HH1.out.lt
       have hXl : X.heap.size < wr.heap.size := HX1.out.lt
       have f1 := fun s : Rg.Later wr.heap.size wr => (s.cell hb j hHl).trans (HH1.out.cell j (by rw [mixPart_length]; exact hj8))
       have f2 := fun s : Rg.Later wr.heap.size wr => (s.cell X.heap.size j hXl).trans (HX1.out.cell j (by rw [Hl.out]; exact hj8))
       have ij : (j : Int) < 8 := by omega
       refine Rg.wp_region_later wr.heap.size 15 (by kernel_rfl) (by kernel_rfl) ?_
       simp only [List.take_succ_cons, List.take_zero, List.drop_succ_cons, List.drop_zero]
       repeat (first | (go_big_quiet_want; refine Rg.quiet_load_row 90 _ rfl _ rfl _ _ _ (HK1.out.later hKl) Tryd.underlying90 rfl (by kernel_rfl) ?_; simp only [Act.put, List.setIfInBounds_toArray, List.set_cons_succ, List.set_cons_zero]; go_big_quiet_on) | go_big_quiet_step ((go_at_call 74; exact Rg.later_of (Nat.le_refl _) (cut512_any _ _ (add64_lt _ _)))))
       refine wpQuiet_nil ?_
       rintro _ ⟨s9, rfl⟩
       clear f1 f2
       refine store_cell rfl 38 _ _ rfl rfl rfl Tryd.underlying38 (by kernel_rfl) (HH1.out.below s9.is hHl) (by rw [mixPart_length]; exact hj8) ?_
       intro w9 hR9 hg9
       have HR9 := ϕ hR9
       have HG9 := ϕ (grown_trans (grown_trans HG1.out (grown_of_below s9.is (some hb)) ) hg9)
       have HX9 := ϕ (show Row w9 X.heap.size 98 xs from blk_grown (HX1.out.below s9.is hXl) hg9 (by omega))
       have HK9 := ϕ (blk_grown (HK1.out.below s9.is hKl) hg9 (by omega))
       clear hR9 hg9
       go_wp2_with fail
       go_roundw
       case rel =>
        (repeat apply Exists.intro)
        exact ⟨⟨j + 1, by omega, by go_num, mixPart_succ64 hh xs j hj8 ▸ HR9.out, HX9.out, HK9.out, HG9.out⟩, rfl⟩
       case measure => simp [intOf]; omega
     · obtain rfl : j = 8 := by omega
       go_wp2_with fail
       exact bodyPost_end (v := .tuple #[]) (results_none Tryd.results64 _ _ _) rfl ⟨rfl, by rw [HM2.out]; exact HH1.out, HG1.out⟩
end Go.Proofs.YtfpcelmekfdafaaDoor.Sha
namespace Go.Proofs.YtfpcelmekfdafaaDoor.Sha
open Go.RowKit Go.Proofs.YtfpcelmekfdafaaDoor.Cl
end Go.Proofs.YtfpcelmekfdafaaDoor.Sha
namespace Go.Proofs.YtfpcelmekfdafaaDoor.Ws
open Go.RowKit Go.Proofs.YtfpcelmekfdafaaDoor.Cl
def vals (xs : List Nat) : List Value := xs.map fun (x : Nat) => Value.int .u64 (x : Int)
/-- a slice that reads as the words xs -/
def Words (w : World) (v : Value) (xs : List Nat) : Prop := ∃ b c, v = .slice (some ⟨b, 0, none⟩) xs.length c ∧ xs.length ≤ c ∧ b < w.heap.size ∧ ∀ j, j < xs.length → w.cell? ⟨b, j, none⟩ = some (.int .u64 (nth xs j : Nat))
theorem Words.below {w w' : World} {v : Value} {xs : List Nat} (h : Words w v xs) (hb : Below w.heap.size w w') : Words w' v xs := by
 obtain ⟨b, c, hv, hc, hl, hx⟩ := h
 exact ⟨b, c, hv, hc, Nat.lt_of_lt_of_le hl hb.size, fun j hj => (hb.cell (p := ⟨b, j, none⟩) hl).trans (hx j hj)⟩
/-- a slice that the call owns, from block B on -/
def Own (w : World) (B T : Nat) (g cap : Nat) (xs : List Nat) : Prop := w.ownsRow B T 1 (.slice (some ⟨g, 0, none⟩) xs.length cap) xs.length (vals xs)
theorem Own.cell {w : World} {B T g cap : Nat} {xs : List Nat} (h : Own w B T g cap xs) (j : Nat) (hj : j < xs.length) : w.cell? ⟨g, j, none⟩ = some (.int .u64 (nth xs j : Nat)) := by
 rw [World.ownsRow.cellAt h j (by omega)]
 simp [vals, nth, hj]
theorem Own.lt {w : World} {B T g cap : Nat} {xs : List Nat} (h : Own w B T g cap xs) : B ≤ g ∧ g < w.heap.size := World.ownsRow.lt h g rfl
theorem Own.below {w w' : World} {B T g cap : Nat} {xs : List Nat} (h : Own w B T g cap xs) (hb : Below w.heap.size w w') : Own w' B T g cap xs :=
 World.ownsRow.kept h (row := none) ⟨hb.os, hb.tape, hb.output, hb.size, fun k hk _ => hb.block k hk⟩ (.inr (by simp [Value.ownBlock]))
theorem Own.cap {w : World} {B T g cap : Nat} {xs : List Nat} (h : Own w B T g cap xs) : xs.length ≤ cap := by
 rcases h.2 with ⟨h, _⟩ | ⟨g', cap', cur, hv, _, _, hc, _⟩
 · cases h
 · cases hv; exact hc
theorem Own.words {w : World} {B T g cap : Nat} {xs : List Nat} (h : Own w B T g cap xs) : Words w (.slice (some ⟨g, 0, none⟩) xs.length cap) xs :=
 ⟨g, cap, rfl, h.cap, h.lt.2, fun j hj => h.cell j hj⟩
theorem Own.new (w : World) (T B : Nat) (xs : List Nat) (hB : B ≤ w.heap.size) (hm : xs.length ≤ maxLen) : Own (w.alloc (.cells (u64s xs) T)) B T w.heap.size xs.length xs := by
 have := World.ownsRow_lit (base := B) (e := T) (size := 1) w (u64s xs) xs.length hB hm (by simp [u64s])
 exact this
theorem Own.row {w : World} {B T g cap n : Nat} {xs : List Nat} (h : Own w B T g cap xs) (hn : xs.length = n) : w.ownsRow B T 1 (.slice (some ⟨g, 0, none⟩) n cap) n (vals xs) := hn ▸ h
/-- eight words at block g -/
def At8 (w : World) (g : Nat) (xs : List Nat) : Prop := g < w.heap.size ∧ ∀ j, j < 8 → w.cell? ⟨g, j, none⟩ = some (.int .u64 (nth xs j : Nat))
theorem At8.below {w w' : World} {g : Nat} {xs : List Nat} (h : At8 w g xs) (hb : Below w.heap.size w w') : At8 w' g xs :=
 ⟨Nat.lt_of_lt_of_le h.1 hb.size, fun j hj => (hb.cell (p := ⟨g, j, none⟩) h.1).trans (h.2 j hj)⟩
theorem At8.grown {w w' : World} {g : Nat} {xs : List Nat} {row : Option Nat} (h : At8 w g xs) (hg : w.grownBy w' row) (hn : some g ≠ row) : At8 w' g xs :=
 ⟨Nat.lt_of_lt_of_le h.1 hg.size, fun j hj => (World.cell?_of_block (w := w) (a := ⟨g, j, none⟩) (hg.block g h.1 hn)).trans (h.2 j hj)⟩
end Go.Proofs.YtfpcelmekfdafaaDoor.Ws
namespace Go.Proofs.YtfpcelmekfdafaaDoor.Rg
open Go.RowKit
section
variable {P : Program} {ops : Array Oper} {md : Region.Mode} {C : World → Prop}
end
end Go.Proofs.YtfpcelmekfdafaaDoor.Rg
namespace Go.Proofs.YtfpcelmekfdafaaDoor.Sha
open Go.RowKit Go.Proofs.YtfpcelmekfdafaaDoor.Cl Go.Proofs.YtfpcelmekfdafaaDoor.Ws
attribute [local go_sem] wrap_add64
end Go.Proofs.YtfpcelmekfdafaaDoor.Sha
namespace Go.Proofs.YtfpcelmekfdafaaDoor.Sha
open Go.RowKit Go.Proofs.YtfpcelmekfdafaaDoor.Cl Go.Proofs.YtfpcelmekfdafaaDoor.Ws
attribute [local go_sem] wrap_add64
end Go.Proofs.YtfpcelmekfdafaaDoor.Sha
namespace Go.Proofs.YtfpcelmekfdafaaDoor.Sha
open Go.RowKit Go.Proofs.YtfpcelmekfdafaaDoor.Cl Go.Proofs.YtfpcelmekfdafaaDoor.Ws
attribute [local go_sem] wrap_add64
end Go.Proofs.YtfpcelmekfdafaaDoor.Sha
namespace Go.Proofs.YtfpcelmekfdafaaDoor.Bu
open Go.RowKit
theorem sizeB : (Tryd.prog.info? 103).map (·.size) = some 2 := by kernel_rfl
theorem liesB : liesAt Tryd.prog Tryd.prog.depth 103 (2 / Tryd.prog.cellsOf 103) 0 103 1 = true := by kernel_rfl
theorem infoByte : (Tryd.prog.info? 5).map (fun i => (i.zero, i.size, i.bytes)) = some (some (.int .u8 0), 1, 1) := by kernel_rfl
set_option maxRecDepth 100000 in
theorem copyCheck_used (b : Nat) (w : World) (h0 : w.cell? ⟨b, 0, none⟩ = some (.pointer (some ⟨b, 0, none⟩))) :
 Calls Tryd.prog 71 #[.pointer (some ⟨b, 0, none⟩)] w fun e w' => e = .returned (.tuple #[]) ∧ w' = w := by
 obtain ⟨j, hj, _⟩ := Option.map_eq_some_iff.1 sizeB
 go_enter Tryd.func71, Tryd.ntmps71
 go_wp2
 rw [Lib.run_neq_ptr_same w _ Tryd.underlying101 hj]
 go_wp2
 go_end0
 exact ⟨rfl, rfl⟩
set_option maxRecDepth 100000 in
theorem copyCheck_fresh (b : Nat) (w : World) (h0 : w.cell? ⟨b, 0, none⟩ = some (.pointer none)) (hsh : w.shape? b = some (103, 2)) (hfz : w.frozen? ⟨b, 0, none⟩ = false) :
 Calls Tryd.prog 71 #[.pointer (some ⟨b, 0, none⟩)] w fun e w' => e = .returned (.tuple #[]) ∧ w' = w.setCell ⟨b, 0, none⟩ (.pointer (some ⟨b, 0, none⟩)) := by
 obtain ⟨j, hj, hjs⟩ := Option.map_eq_some_iff.1 sizeB
 go_enter Tryd.func71, Tryd.ntmps71
 go_wp2
 rw [Lib.run_to_unsafe w ⟨b, 0, none⟩ Tryd.underlying101 Tryd.underlying124 hj (by rw [hjs]; decide) hsh (Nat.zero_lt_succ 1)]
 simp only [Result.andThen]
 rw [Oper.upon_value]
 go_wp2
 rw [run_callFunc_extern Tryd.func78 (by kernel_rfl) (by kernel_rfl) (by kernel_rfl) (e := Extern.AbiNoEscape.same) (by kernel_rfl)]
 rw [Lib.run_noEscape]
 simp only [Result.andThen]
 rw [Oper.upon_value]
 go_wp2
 rw [Lib.run_from_unsafe w ⟨b, 0, none⟩ Tryd.underlying124 Tryd.underlying101 hj hsh liesB]
 simp only [Result.andThen]
 rw [Oper.upon_value]
 go_wp2
 go_end0
 exact ⟨rfl, rfl⟩
theorem copyCheck (B b : Nat) (bs : List Value) (w : World) (h : Lib.IsBuilder 103 5 B b bs w) :
 Calls Tryd.prog 71 #[.pointer (some ⟨b, 0, none⟩)] w fun e w' => e = .returned (.tuple #[]) ∧ (Lib.BuilderAt 103 5 B b (.pointer (some ⟨b, 0, none⟩)) bs w' ∧ Below B w w') := by
 rcases h with h | h
 · refine (copyCheck_fresh b w h.cell0 h.shape h.frozen0).mono ?_
   rintro e w' ⟨rfl, rfl⟩
   exact ⟨rfl, h.used _, (Below.refl B w).setCell (p := ⟨b, 0, none⟩) h.1 _⟩
 · refine (copyCheck_used b w h.cell0).mono ?_
   rintro e w' ⟨rfl, rfl⟩
   exact ⟨rfl, h, Below.refl B _⟩
set_option maxRecDepth 100000 in
theorem writeByte (B b : Nat) (bs : List Value) (c : Int) (w : World) (h : Lib.IsBuilder 103 5 B b bs w) (hlen : bs.length + 1 ≤ 140737488355328) (hBw : B ≤ w.heap.size) :
 Calls Tryd.prog 62 #[.pointer (some ⟨b, 0, none⟩), .int .u8 c] w fun e w' => e = .returned .nilIface ∧ (Lib.BuilderAt 103 5 B b (.pointer (some ⟨b, 0, none⟩)) (bs ++ [.int .u8 c]) w' ∧ Below B w w') := by
 obtain ⟨i0, hi, hz0, hz1, hz2⟩ := info_parts infoByte
 go_enter Tryd.func62, Tryd.ntmps62
 go_wp2_with (go_at_call 71; refine (copyCheck B b bs _ h).mono ?_)
 rintro e w1 ⟨rfl, h1, hb1⟩
 obtain ⟨hB, v, hbk, hown, hne⟩ := h1
 have c0 : w1.cell? ⟨b, 0, none⟩ = some (.pointer (some ⟨b, 0, none⟩)) := by rw [Lib.cell_of_heap hbk]; rfl
 have c1 : w1.cell? ⟨b, 1, none⟩ = some v := by rw [Lib.cell_of_heap hbk]; rfl
 go_wp2_with (at_builtin; refine wpList_append_own _ rfl _ _ 28 rfl B 5 i0 (.int .u8 0) 1 1 Tryd.underlying28 hi hz0 hz1 hz2 rfl (by decide) _ _ _ rfl (hown.alloc _) ⟨w1.heap.size, 0, none⟩ 1 1 [.int .u8 c] rfl rfl ?c1 ?c2 ?c3 ?c4 ?c5 ?_)
 case c1 =>
  intro j u hj
  match j, hj with
  | 0, hj => simp at hj; subst hj; simp [Addr.add]
 case c2 => intro u hu; simp at hu; subst hu; rfl
 case c3 => unfold maxLen; omega
 case c4 => omega
 case c5 => have := hb1.size; simp; omega
 intro v' w2 hown' hgrow _
 have hlt : b < w1.heap.size := by
  rcases Nat.lt_or_ge b w1.heap.size with h' | h'
  · exact h'
  · simp [Array.getElem?_eq_none h'] at hbk
 have hb2 : w2.heap[b]? = some (.cells #[.pointer (some ⟨b, 0, none⟩), v] 103 (0, 0)) := by
  rw [hgrow.block b (by simp; omega) (fun e => hne e.symm), Lib.alloc_old w1 _ b hlt]
  exact hbk
 have d0 : w2.cell? ⟨b, 0, none⟩ = some (.pointer (some ⟨b, 0, none⟩)) := by rw [Lib.cell_of_heap hb2]; rfl
 have d1 : w2.cell? ⟨b, 1, none⟩ = some v := by rw [Lib.cell_of_heap hb2]; rfl
 have f1 : w2.frozen? ⟨b, 1, none⟩ = false := Lib.frozen_of_heap hb2 1
 obtain ⟨g, cap, rfl⟩ : ∃ g cap, v' = .slice (some ⟨g, 0, none⟩) (bs.length + 1) cap := by
  rcases hown'.2 with ⟨_, h0⟩ | ⟨g, cap, cur, hv, _⟩
  · omega
  · exact ⟨g, cap, hv⟩
 go_wp2
 go_ret
 refine ⟨rfl, ?_, ?_⟩
 · exact Lib.BuilderAt.put (T := 103) (e := 5) hB hb2 (bs' := bs ++ [.int .u8 c]) (by simpa using hown') (by decide)
 · exact ((hb1.alloc (by have := hb1.size; omega) _).grown hgrow (by have := hb1.size; simp; omega) (fun k hk => (hown.lt k hk).1)).setCell (p := ⟨b, 1, none⟩) hB _
/-- a builder just made -/
theorem fresh (w : World) : Lib.IsBuilder 103 5 w.heap.size w.heap.size [] (w.alloc (.cells #[.pointer none, .slice none 0 0] 103)) :=
 .inl ⟨Nat.le_refl _, _, heap_alloc_new _ _, World.ownsRow_nil _ _ _ _, by simp [Value.ownBlock]⟩
end Go.Proofs.YtfpcelmekfdafaaDoor.Bu
namespace Go.Proofs.YtfpcelmekfdafaaDoor.Jo
open Go.RowKit
/-- the bytes of all parts; the name is not opened by unification -/
@[irreducible] def joined (xs : List ByteArray) : ByteArray := ⟨(xs.flatMap fun x => x.data.toList).toArray⟩
theorem joined_list (xs : List ByteArray) : (joined xs).data.toList = xs.flatMap fun x => x.data.toList := by unfold joined; rfl
/-- a slice value that holds the strings xs -/
def Parts (w : World) (v : Value) (xs : List ByteArray) : Prop :=
 (xs = [] ∧ ∃ a c, v = .slice a 0 c) ∨
 (∃ b o c, v = .slice (some ⟨b, o, none⟩) xs.length c ∧ (∀ (j : Nat) x, xs[j]? = some x → w.cell? ⟨b, o + j, none⟩ = some (.string x)) ∧ b < w.heap.size ∧ xs.length ≤ c)
theorem Parts.below {w w' : World} {v : Value} {xs : List ByteArray} (h : Parts w v xs) (hb : Below w.heap.size w w') : Parts w' v xs := by
 rcases h with h | ⟨b, o, c, hv, hc, hl, hx⟩
 · exact .inl h
 · exact .inr ⟨b, o, c, hv, fun j x hx => (hb.cell (p := ⟨b, o + j, none⟩) hl).trans (hc j x hx), Nat.lt_of_lt_of_le hl hb.size, hx⟩
theorem joinTail_nil (l : List (List UInt8)) : Lib.joinTail [] l = l.flatten := by
 unfold Lib.joinTail
 rw [show l.map (([] : List UInt8) ++ ·) = l from List.map_id' l]
theorem join_nil (l : List (List UInt8)) : Lib.join l [] = l.flatten := by
 cases l with
 | nil => rfl
 | cons x l => rw [Lib.join_cons, joinTail_nil]; rfl
theorem join_any (w : World) (v : Value) (xs : List ByteArray) (h : Parts w v xs) (hs : (joined xs).size ≤ 140737488355328) (hN : xs.length ≤ 140737488355328) :
 Calls Tryd.prog 60 #[v, .string ⟨#[]⟩] w fun e w' => e = .returned (.string (joined xs)) ∧ Below w.heap.size w w' := by
 rcases h with ⟨rfl, a, c, rfl⟩ | ⟨b, o, c, rfl, hc, hl, hx⟩
 · refine (Tryd.strings_Join_none a c ⟨#[]⟩ w).mono ?_
   rintro e w' ⟨rfl, rfl⟩
   exact ⟨by unfold joined; rfl, Below.refl _ _⟩
 · have e : Lib.join (xs.map (·.data.toList)) [] = xs.flatMap fun x => x.data.toList := by rw [join_nil, List.flatMap_def]
   have hs' : (xs.flatMap fun x => x.data.toList).length ≤ 140737488355328 := by
    rw [← joined_list, Array.length_toList]; exact hs
   refine (Tryd.strings_Join b o c xs ⟨#[]⟩ w hc hl hN hx (by show (Lib.join _ []).length ≤ _; rw [e]; exact hs')).mono ?_
   rintro e' w' ⟨rfl, hb⟩
   refine ⟨?_, hb⟩
   show Ending.returned (.string ⟨(Lib.join _ []).toArray⟩) = _
   rw [e]; unfold joined; rfl
/-- n zero bytes; the name is not opened by unification -/
@[irreducible] def zeroStr (n : Nat) : ByteArray := ⟨(List.replicate n (0 : UInt8)).toArray⟩
theorem zeroStr_list (n : Nat) : (zeroStr n).data.toList = List.replicate n 0 := by unfold zeroStr; rfl
theorem zeroStr_size (n : Nat) : (zeroStr n).size = n := by unfold zeroStr; show (List.replicate n (0 : UInt8)).toArray.size = n; simp
theorem repeat_zero (w : World) (c : Nat) (hc : c ≤ 1000000) : Calls Tryd.prog 61 #[.string ⟨#[0]⟩, .int .i64 c] w fun e w' => e = .returned (.string (zeroStr c)) ∧ Below w.heap.size w w' := by
 refine (Tryd.strings_Repeat ⟨#[0]⟩ c w (by omega) (by show 1 * c ≤ _; omega)).mono ?_
 rintro e w' ⟨rfl, hb⟩
 refine ⟨?_, hb⟩
 have e : Lib.repeatL (⟨#[0]⟩ : ByteArray).data.toList c = List.replicate c 0 := by
  show Lib.repeatL [0] c = _
  induction c with
  | zero => rfl
  | succ c ih => rw [List.replicate_succ, ← ih (by omega)]; rfl
 rw [e]; unfold zeroStr; rfl
end Go.Proofs.YtfpcelmekfdafaaDoor.Jo
namespace Go.Proofs.YtfpcelmekfdafaaDoor.Sha
open Go.RowKit Go.Proofs.YtfpcelmekfdafaaDoor.Cl
/-- the first k words of h, then zeros -/
def pad8 (h : List Nat) (k : Nat) : List Nat := (List.range 8).map fun i => if i < k then nth h i else 0
theorem pad8_length (h : List Nat) (k : Nat) : (pad8 h k).length = 8 := by simp [pad8]
theorem pad8_set (h : List Nat) (k v : Nat) (hk : k < 8) (hv : v = nth h k) : (pad8 h k).set k v = pad8 h (k + 1) := by
 apply List.ext_getElem
 · simp [pad8]
 · intro i h1 h2
   rw [List.getElem_set]
   simp only [pad8, List.getElem_map, List.getElem_range]
   by_cases hij : k = i
   · subst hij; simp [hv]
   · have : i < k + 1 ↔ i < k := by omega
     simp [hij, this]
theorem pad8_all (h : List Nat) (hl : h.length = 8) : pad8 h 8 = h := by
 match h, hl with
 | [a, b, c, d, e, f, g, i], _ => rfl
theorem zero8 (w : World) (T : Nat) : Row (w.alloc (.cells #[.int .u64 0, .int .u64 0, .int .u64 0, .int .u64 0, .int .u64 0, .int .u64 0, .int .u64 0, .int .u64 0] T)) w.heap.size T (pad8 [] 0) := Rg.Blk.new w _ T
theorem pad8_zero (h : List Nat) : pad8 h 0 = pad8 [] 0 := by rfl
theorem nth_h0 (W k : Nat) (hk : k < 8) : nth (h0 W) k = if W = 32 then hi32 (nth firstL k) else nth firstL k := by
 simp [nth, h0, hk]
theorem extract_list (s : ByteArray) (n : Nat) : (s.extract n s.size).data.toList = s.data.toList.drop n := by
 simp
 exact List.take_of_length_le (by rw [List.length_drop, Array.length_toList]; exact Nat.le_refl _)
theorem extract_list0 (s : ByteArray) (n : Nat) : (s.extract 0 n).data.toList = s.data.toList.take n := by
 simp
theorem outBytes_snoc (W : Nat) (hs : List Nat) (j : Nat) (hj : j < hs.length) : Lib.byteCells (outBytes W (hs.take (j + 1))) = Lib.byteCells (outBytes W (hs.take j)) ++ Lib.byteCells (beBytes (W / 8) (nth hs j)) := by
 have e : nth hs j = hs[j] := by simp [nth, hj]
 rw [List.take_succ_eq_append_getElem hj, ← e]
 unfold outBytes Lib.byteCells
 rw [List.flatMap_append, List.map_append, List.flatMap_cons, List.flatMap_nil, List.append_nil]
def padn (n : Nat) : Nat := (128 - (n + 17) % 128) % 128
def strLen : Value → Nat
 | .string s => s.size
 | _ => 0
theorem bytes_append (a b : ByteArray) : (a ++ b).data.toList = a.data.toList ++ b.data.toList := by
 simp
theorem sum512 (w : World) (v : Value) (xs : List ByteArray) (hT : Tables w) (hP : Jo.Parts w v xs) (hs : (Jo.joined xs).size ≤ 1000000) (hN : xs.length ≤ 1000000) :
 Calls Tryd.prog 52 #[K512, v] w fun e w' => e = .returned (.string ⟨(sha 64 (Jo.joined xs).data.toList).toArray⟩) ∧ Below w.heap.size w w' := by
 have HT := ϕ hT
 have HP := ϕ hP
 clear hT hP
 unfold K512
 go_enter Tryd.func52, Tryd.ntmps52
 go_wp2_with (first
  | (refine Rg.box_fresh rfl 90 _ rfl _ rfl ?_; intro V hK hbV hnV; have HK := ϕ hK; have HBV := ϕ hbV; have HNV := ϕ hnV; clear hK hbV hnV))
 generalize hX : World.alloc V _ = X
 have HX := ϕ (show Row X V.heap.size 98 (pad8 (h0 64) 0) by subst hX; rw [pad8_zero]; exact zero8 _ _)
 have HKX := ϕ (show Rg.Blk X w.heap.size 90 k512c by subst hX; exact HK.out.alloc _)
 have HBX := ϕ (show Below w.heap.size w X by subst hX; exact HBV.out.alloc (by rw [HNV.out]; omega) _)
 have hwV : w.heap.size < V.heap.size := by rw [HNV.out]; omega
 clear hX
 go_loopw [18] (fun i wr => ∃ k : Nat, k ≤ 8 ∧ i = .int .i64 k ∧ Row wr V.heap.size 98 (pad8 (h0 64) k) ∧ Below V.heap.size X wr) (fun i _ => 8 - (intOf i).toNat)
 case atStart => exact ⟨0, by decide, rfl, HX.out, Below.refl _ _⟩
 case round =>
  obtain ⟨k, hk, rfl, hR, hb⟩ := hrel
  have hwr : V.heap.size < wr.heap.size := hR.lt
  have HR := ϕ hR
  have HB := ϕ hb
  have HKr := ϕ (HKX.out.below hb hwV)
  have HTr := ϕ ((HT.out.below HBX.out HT.out.size).below hb (by have := HT.out.size; omega))
  clear hR hb
  by_cases hk8 : k < 8
  · go_wp2_with fail
    have hKl : w.heap.size < wr.heap.size := by omega
    have tk := fun s : Rg.Later wr.heap.size wr => (s.cell 1 k (Nat.lt_of_lt_of_le (by decide) HTr.out.size)).trans (HTr.out.first k (by omega))
    have ik : (k : Int) < 8 := by omega
    refine Rg.wp_region_later wr.heap.size 7 (by kernel_rfl) (by kernel_rfl) ?_
    simp only [List.take_succ_cons, List.take_zero, List.drop_succ_cons, List.drop_zero]
    repeat (first | (go_big_quiet_want; refine Rg.quiet_load_row 90 _ rfl _ rfl _ _ _ (HKr.out.later hKl) Tryd.underlying90 rfl (by kernel_rfl) ?_; simp only [Act.put, List.setIfInBounds_toArray, List.set_cons_succ, List.set_cons_zero]; go_big_quiet_on) | go_big_quiet_step ((go_at_call 59; exact Rg.later_of (Nat.le_refl _) (word512_any _ _))))
    refine wpQuiet_nil ?_
    rintro _ ⟨s9, rfl⟩
    clear tk
    refine store_cell rfl 38 _ _ rfl rfl rfl Tryd.underlying38 (by kernel_rfl) (HR.out.below s9.is hwr) (by rw [pad8_length]; exact hk8) ?_
    intro w9 hR9 hg9
    have HR9 := ϕ hR9
    have HB9 := ϕ ((HB.out.trans (s9.is.mono (by omega))).grown hg9 (by have := s9.is.size; omega) (fun k hk => by cases hk; exact Nat.le_refl _))
    clear hR9 hg9
    go_wp2_with fail
    go_roundw
    case rel =>
     refine ⟨k + 1, by omega, by go_num, ?_, HB9.out⟩
     exact pad8_set (h0 64) k _ hk8 (by rw [nth_h0 _ _ hk8]; try rfl) ▸ HR9.out
    case measure => simp [intOf]; omega
  · obtain rfl : k = 8 := by omega
    have kw0 := HKr.out.cell 0 (v := .int .i64 64) rfl
    have HR8 := ϕ (show Row wr V.heap.size 98 (h0 64) from pad8_all (h0 64) (h0_length _) ▸ HR.out)
    obtain ⟨n, hn⟩ : ∃ n, (Jo.joined xs).size = n := ⟨_, rfl⟩
    have hn' : n ≤ 1000000 := hn ▸ hs
    have hs' : (Jo.joined xs).size ≤ 140737488355328 := by omega
    have Hs := ϕ hs'
    clear hs hs'
    have HPr := ϕ (show Jo.Parts wr v xs from HP.out.below (HBX.out.trans (HB.out.mono (by omega))))
    have hp : (-(((n : Int) + 1 + 16) % 128) % 128) = ((padn n : Nat) : Int) := by unfold padn; omega
    have hp2 : ((padn n : Nat) : Int) + 16 - 8 = ((zeros 64 n : Nat) : Int) := by unfold padn zeros; omega
    have hz : zeros 64 n ≤ 256 := by unfold zeros; omega
    have hzs := Jo.zeroStr_size (zeros 64 n)
    have hq1 : ¬ 9223372036854775807 < 1 + (Jo.zeroStr (zeros 64 n)).size := by omega
    have hq2 : ¬ 9223372036854775807 < n + (1 + (Jo.zeroStr (zeros 64 n)).size) := by omega
    clear hzs
    obtain ⟨wo, rfl⟩ : ∃ wo : World, wo = wr := ⟨_, rfl⟩
    go_wp2_with fail
    have kL := fun s : Rg.Later wo.heap.size wo => HKr.out.cellL (show w.heap.size < wo.heap.size by omega) 0 (v := .int .i64 64) rfl s
    refine Rg.wp_region_later_all wo.heap.size (by kernel_rfl) (by kernel_rfl) ?_
    repeat (go_big_quiet_step (fail))
    refine wpQuiet_nil ?_
    rintro _ ⟨s1, rfl⟩
    clear kL kw0
    go_wp2_with (first
     | (go_at_call 60; refine (Jo.join_any _ _ xs (HPr.out.below s1.is) Hs.out (by omega)).mono ?_; rintro e w2 ⟨rfl, hb2⟩; have HB2 := ϕ hb2; clear hb2)
     | (go_at_call 61; refine (Jo.repeat_zero _ (zeros 64 n) (by omega)).mono ?_; rintro e w3 ⟨rfl, hb3⟩; have HB3 := ϕ hb3; clear hb3))
    clear hq1 hq2 hp hp2
    have HT1 := ϕ (show (Jo.joined xs ++ ((⟨#[128]⟩ : ByteArray) ++ Jo.zeroStr (zeros 64 n))).data.toList = (Jo.joined xs).data.toList ++ ([128] ++ List.replicate (zeros 64 n) 0) by rw [bytes_append, bytes_append, Jo.zeroStr_list])
    have HTS := ϕ (show (Jo.joined xs ++ ((⟨#[128]⟩ : ByteArray) ++ Jo.zeroStr (zeros 64 n))).size ≤ 1000300 by rw [ByteArray.size_append, ByteArray.size_append, Jo.zeroStr_size, hn]; show n + (1 + zeros 64 n) ≤ _; omega)
    generalize Jo.joined xs ++ ((⟨#[128]⟩ : ByteArray) ++ Jo.zeroStr (zeros 64 n)) = tx at *
    have HKw := ϕ (((HKr.out.below s1.is HKr.out.lt).below HB2.out (by have := s1.is.size; omega)).below HB3.out (by have := s1.is.size; have := HB2.out.size; omega))
    have HRw := ϕ (((HR8.out.below s1.is hwr).below HB2.out (by have := s1.is.size; omega)).below HB3.out (by have := s1.is.size; have := HB2.out.size; omega))
    have HBw := ϕ (show Below w.heap.size w w3 from (((HBX.out.trans (HB.out.mono (by omega))).trans (s1.is.mono (by omega))).trans (HB2.out.mono (by have := s1.is.size; omega))).trans (HB3.out.mono (by have := s1.is.size; have := HB2.out.size; omega)))
    have HBu := ϕ (Bu.fresh w3)
    have HBY := ϕ (show Below w3.heap.size w3 (w3.alloc (.cells #[.pointer none, .slice none 0 0] 103)) from (Below.refl _ _).alloc (Nat.le_refl _) _)
    go_loopw [13] (fun i wr => ∃ k : Nat, k ≤ 8 ∧ i = .int .i64 (56 - 8 * (k : Int)) ∧ Lib.IsBuilder 103 5 w3.heap.size w3.heap.size (Lib.byteCells ((beBytes 8 (n * 8)).take k)) wr ∧ Below w3.heap.size w3 wr) (fun i _ => (intOf i + 8).toNat)
    case atStart => exact ⟨0, by decide, rfl, HBu.out, HBY.out⟩
    case round =>
     obtain ⟨k, hk, rfl, hU, hb⟩ := hrel
     have HU := ϕ hU
     have HBk := ϕ hb
     clear hU hb
     by_cases hk8 : k < 8
     · have i0 : 0 ≤ 56 - 8 * (k : Int) := by omega
       have hsz := HBk.out.size
       have hc := be_cells 8 (n * 8) k hk8 (56 - 8 * k) (by omega)
       have HC := ϕ hc
       clear hc
       have hle : (Lib.byteCells ((beBytes 8 (n * 8)).take k)).length + 1 ≤ 140737488355328 := by rw [Lib.byteCells_length, List.length_take, beBytes_length]; omega
       have HLE := ϕ hle
       clear hle
       go_wp2_with (go_at_call 62; refine (Bu.writeByte _ _ _ _ _ HU.out HLE.out hsz).mono ?_; rintro e w5 ⟨rfl, hU5, hb5⟩; have HU5 := ϕ hU5; have HB5 := ϕ hb5; clear hU5 hb5)
       go_roundw
       case rel =>
        refine ⟨k + 1, by omega, by go_num, ?_, HBk.out.trans HB5.out⟩
        rw [HC.out]
        exact .inr HU5.out
       case measure => simp [intOf]; omega
     · obtain rfl : k = 8 := by omega
       have hsz := HBk.out.size
       have hq3 : ¬ 9223372036854775807 < tx.size + (beBytes 8 (n * 8)).length := by rw [beBytes_length]; have := HTS.out; omega
       have htake : (beBytes 8 (n * 8)).take 8 = beBytes 8 (n * 8) := List.take_of_length_le (by rw [beBytes_length]; exact Nat.le_refl _)
       have HU8 := ϕ (htake ▸ HU.out)
       clear htake
       go_wp2_with (first
        | (go_at_call 63; refine (Tryd.Builder_String_any _ _ _ _ HU8.out hsz).mono ?_; rintro e w6 ⟨rfl, hb6⟩; have HB6 := ϕ hb6; clear hb6))
       have HSP := ϕ (show (tx ++ (⟨(beBytes 8 (n * 8)).toArray⟩ : ByteArray)).data.toList = padded 64 (Jo.joined xs).data.toList by
        have hbl : (Jo.joined xs).data.toList.length = n := by rw [Array.length_toList]; exact hn
        rw [bytes_append, HT1.out]; unfold padded; rw [hbl])
       have HSZ := ϕ (show (tx ++ (⟨(beBytes 8 (n * 8)).toArray⟩ : ByteArray)).size ≤ 1000400 by
        rw [ByteArray.size_append]; have := HTS.out; show tx.size + (beBytes 8 (n * 8)).toArray.size ≤ _; rw [List.size_toArray, beBytes_length]; omega)
       generalize tx ++ (⟨(beBytes 8 (n * 8)).toArray⟩ : ByteArray) = sp at *
       have hm := padded_length64 (Jo.joined xs).data.toList
       have hml : (padded 64 (Jo.joined xs).data.toList).length ≤ 2000000 := by
        rw [← HSP.out, Array.length_toList]; show sp.size ≤ _; exact Nat.le_trans HSZ.out (by decide)
       generalize hbs : (Jo.joined xs).data.toList = bs at *
       have HBS := ϕ hbs
       clear hbs
       have HM0 : padded 64 bs = padded 64 bs := rfl
       generalize hmm : padded 64 bs = m at *
       have HM := ϕ hmm
       clear hmm HM0
       have HKs := ϕ ((HKw.out.below HBk.out HKw.out.lt).below HB6.out HKw.out.lt)
       have HRs := ϕ ((HRw.out.below HBk.out HRw.out.lt).below HB6.out HRw.out.lt)
       have HBs := ϕ (show Below w.heap.size w w6 from (HBw.out.trans (HBk.out.mono HBw.out.size)).trans (HB6.out.mono HBw.out.size))
       clear hq3
       go_loopw [9] (fun s wr => ∃ (k : Nat) (sv : ByteArray), s = .string sv ∧ sv.data.toList = m.drop (k * 128) ∧ k * 128 ≤ m.length ∧ Row wr V.heap.size 98 (hashTo 64 m k) ∧ Rg.Blk wr w.heap.size 90 k512c ∧ Below w.heap.size w wr) (fun s _ => strLen s)
       case atStart => exact ⟨0, sp, rfl, by rw [HSP.out, Nat.zero_mul]; rfl, by omega, HRs.out, HKs.out, HBs.out⟩
       case round =>
        obtain ⟨k, sv, rfl, hsv, hkm, hR, hK, hb⟩ := hrel
        have hsvl : sv.size = m.length - k * 128 := by
         have := congrArg List.length hsv
         rw [Array.length_toList, List.length_drop] at this; exact this
        have HSV := ϕ hsv
        have HR := ϕ hR
        have HK := ϕ hK
        have HB := ϕ hb
        clear hsv hR hK hb
        by_cases hgo : k * 128 < m.length
        · have hge : 128 ≤ sv.size := by omega
          clear hsvl
          have hlw := HR.out.lt
          go_wp2_with fail
          have hi1 : (128 : Int) ≤ sv.size := by omega
          refine Rg.wp_region_later wr.heap.size 4 (by kernel_rfl) (by kernel_rfl) ?_
          simp only [List.take_succ_cons, List.take_zero, List.drop_succ_cons, List.drop_zero]
          repeat (first | (go_big_quiet_want; refine Rg.quiet_load_row 90 _ rfl _ rfl _ _ _ (HK.out.later HK.out.lt) Tryd.underlying90 rfl (by kernel_rfl) ?_; simp only [Act.put, List.setIfInBounds_toArray, List.set_cons_succ, List.set_cons_zero]; go_big_quiet_on) | go_big_quiet_step (fail))
          refine wpQuiet_nil ?_
          rintro _ ⟨s7, rfl⟩
          have hV2 : 2 ≤ V.heap.size := by have := HT.out.size; omega
          have HTx := ϕ (show Tables s7.val from (HT.out.below HB.out HT.out.size).below s7.is (by have := HT.out.size; omega))
          have hex : (sv.extract 0 128).size = 128 := by rw [ByteArray.size_extract]; omega
          have Hex := ϕ hex
          clear hex
          go_wp2_with (first
           | (go_at_call 64; refine (mix512 _ V.heap.size _ _ Hex.out HTx.out hV2 (HR.out.below s7.is hlw) (hashTo_length _ _ _) (hashTo_lt 64 (by decide) m k)).mono ?_; rintro e w8 ⟨rfl, hR8, hg8⟩; have HRm := ϕ hR8; have HGm := ϕ hg8; clear hR8 hg8))
          go_roundw
          case rel =>
           have hsv' := HSV.out
           refine ⟨k + 1, _, rfl, ?_, by omega, ?_, blk_grown (HK.out.below s7.is HK.out.lt) HGm.out (by omega), ?_⟩
           · rw [extract_list, hsv', List.drop_drop]
             congr 1; omega
           · have e : hashTo 64 m (k + 1) = mixed 64 (sv.extract 0 128).data.toList (hashTo 64 m k) := by
              rw [extract_list0, hsv']; rfl
             rw [e]; exact HRm.out
           · exact ((HB.out.trans (s7.is.mono (by have := HK.out.lt; omega))).grown HGm.out (by have := s7.is.size; have := HK.out.lt; omega) (fun k hk => by cases hk; omega))
          case measure => simp only [strLen, ByteArray.size_extract]; omega
        · obtain hkl : k * 128 = m.length := by omega
          obtain ⟨wo2, rfl⟩ : ∃ wo2 : World, wo2 = wr := ⟨_, rfl⟩
          have h0s : sv.size = 0 := by omega
          clear hsvl
          have HN8 := ϕ (show (u64s (hashTo 64 m k)).size = 8 by simp [u64s, hashTo_length])
          go_wp2_with (first
           | (refine wpList_load_row rfl 98 _ rfl V.heap.size rfl _ _ _ _ (Rg.Blk.alloc HR.out _) Tryd.underlying98 rfl (by rw [HN8.out]; rfl) ?_))
          clear h0s
          have HBo := ϕ (show Below w.heap.size w wo2 from HB.out)
          have HKo := ϕ (show Rg.Blk wo2 w.heap.size 90 k512c from HK.out)
          have HBu2 := ϕ (Bu.fresh wo2)
          have HBY2 := ϕ (show Below wo2.heap.size wo2 (wo2.alloc (.cells #[.pointer none, .slice none 0 0] 103)) from (Below.refl _ _).alloc (Nat.le_refl _) _)
          have hhl := hashTo_length 64 m k
          have HSHA := ϕ (show sha 64 bs = outBytes 64 (hashTo 64 m k) by
           unfold sha; rw [HM.out]; congr 2; omega)
          have hwo : w.heap.size < wo2.heap.size := HKo.out.lt
          generalize hashTo 64 m k = hs at *
          go_loopw [83] (fun i wr => ∃ j : Nat, j ≤ 8 ∧ i = .int .i64 j ∧ Lib.IsBuilder 103 5 wo2.heap.size wo2.heap.size (Lib.byteCells (outBytes 64 (hs.take j))) wr ∧ Below wo2.heap.size wo2 wr) (fun i _ => 8 - (intOf i).toNat)
          case atStart => exact ⟨0, by decide, rfl, HBu2.out, HBY2.out⟩
          case round =>
           obtain ⟨j, hj, rfl, hU, hb⟩ := hrel
           have HU2 := ϕ hU
           have HBk2 := ϕ hb
           clear hU hb
           by_cases hj8 : j < 8
           · have hidx := fun w => index_words (P := Tryd.prog) 98 38 8 hs j Tryd.underlying98 Tryd.underlying38 (by kernel_rfl) hhl hj8 w
             have kw0 := (HKo.out.below HBk2.out hwo).cell 0 (v := .int .i64 64) rfl
             obtain ⟨wo3, rfl⟩ : ∃ wo3 : World, wo3 = wr := ⟨_, rfl⟩
             have hd : decide ((j : Int) < 8) = true := by simp; omega
             go_wp2_with fail
             clear hd
             clear hidx kw0
             go_loopw [17] (fun i wr => ∃ l : Nat, l ≤ 8 ∧ i = .int .i64 (56 - 8 * (l : Int)) ∧ Lib.IsBuilder 103 5 wo2.heap.size wo2.heap.size (Lib.byteCells (outBytes 64 (hs.take j)) ++ Lib.byteCells ((beBytes 8 (nth hs j)).take l)) wr ∧ Below wo2.heap.size wo2 wr) (fun i _ => (intOf i + 8).toNat)
             case atStart => exact ⟨0, by omega, rfl, by rw [show (beBytes 8 (nth hs j)).take 0 = [] from rfl, show Lib.byteCells [] = [] from rfl, List.append_nil]; exact HU2.out, HBk2.out⟩
             case round =>
              obtain ⟨l, hl, rfl, hU, hb⟩ := hrel
              have HU3 := ϕ hU
              have HBk3 := ϕ hb
              have hsz := HBk3.out.size
              clear hU hb
              by_cases hl8 : l < 8
              · have i0 : 0 ≤ 56 - 8 * (l : Int) := by omega
                have HC := ϕ (be_cells 8 (nth hs j) l hl8 (56 - 8 * l) (by omega))
                have hle : (Lib.byteCells (outBytes 64 (hs.take j)) ++ Lib.byteCells ((beBytes 8 (nth hs j)).take l)).length + 1 ≤ 140737488355328 := by
                 rw [List.length_append, Lib.byteCells_length, Lib.byteCells_length, outBytes_length, List.length_take, List.length_take, beBytes_length]
                 have : min j hs.length * (64 / 8) ≤ 8 * 8 := Nat.mul_le_mul (by omega) (by decide)
                 omega
                have HLE := ϕ hle
                clear hle
                go_wp2_with (go_at_call 62; refine (Bu.writeByte _ _ _ _ _ HU3.out HLE.out hsz).mono ?_; rintro e w9 ⟨rfl, hU9, hb9⟩; have HU9 := ϕ hU9; have HB9 := ϕ hb9; clear hU9 hb9)
                go_roundw
                case rel =>
                 have hU10 : Lib.IsBuilder 103 5 wo2.heap.size wo2.heap.size (Lib.byteCells (outBytes 64 (hs.take j)) ++ Lib.byteCells ((beBytes 8 (nth hs j)).take (l + 1))) w9 := by
                  rw [HC.out, ← List.append_assoc]
                  exact .inr HU9.out
                 first
                  | exact ⟨l + 1, by omega, by go_num, hU10, HBk3.out.trans HB9.out⟩
                  | ((repeat apply Exists.intro); refine ⟨?_, rfl⟩; exact ⟨l + 1, by omega, by go_num, hU10, HBk3.out.trans HB9.out⟩)
                case measure => simp [intOf]; omega
              · obtain rfl : l = 8 := by omega
                go_wp2_with fail
                go_roundw
                case rel =>
                 have hU11 : Lib.IsBuilder 103 5 wo2.heap.size wo2.heap.size (Lib.byteCells (outBytes 64 (hs.take (j + 1)))) wr := by
                  rw [outBytes_snoc 64 hs j (by omega)]
                  have := HU3.out
                  rwa [show (beBytes 8 (nth hs j)).take 8 = beBytes 8 (nth hs j) from List.take_of_length_le (by rw [beBytes_length]; exact Nat.le_refl _)] at this
                 first
                  | exact ⟨j + 1, by omega, by go_num, hU11, HBk3.out⟩
                  | ((repeat apply Exists.intro); refine ⟨?_, rfl⟩; exact ⟨j + 1, by omega, by go_num, hU11, HBk3.out⟩)
                case measure => simp [intOf]; omega
           · obtain rfl : j = 8 := by omega
             have hsz := HBk2.out.size
             have HU8b := ϕ (show Lib.IsBuilder 103 5 wo2.heap.size wo2.heap.size (Lib.byteCells (outBytes 64 hs)) wr from (show hs.take 8 = hs from List.take_of_length_le (by omega)) ▸ HU2.out)
             go_wp2_with (first
              | (go_at_call 63; refine (Tryd.Builder_String_any _ _ _ _ HU8b.out hsz).mono ?_; rintro e w6 ⟨rfl, hb6⟩; have HB6b := ϕ hb6; clear hb6))
             go_ret
             exact ⟨by rw [HBS.out, HSHA.out]; rfl, (HBo.out.trans (HBk2.out.mono (by omega))).trans (HB6b.out.mono (by omega))⟩
open Go.Proofs.YtfpcelmekfdafaaDoor.Cv
theorem kind512_any (w : World) : Calls Tryd.prog 51 #[] w fun e w' => e = .returned K512 ∧ Below w.heap.size w w' := by
 unfold K512 k512c
 go_enter Tryd.func51, Tryd.ntmps51
 go_wp2
 exact bodyPost_ret (v := K512) (by simp [results, Tryd.results51, go_sem, K512, k512c]) rfl ⟨rfl, (Below.refl _ _).alloc (Nat.le_refl _) _⟩
theorem Sum512_any (w : World) (v : Value) (xs : List ByteArray) (hT : Tables w) (hP : Jo.Parts w v xs) (hs : (Jo.joined xs).size ≤ 1000000) (hN : xs.length ≤ 1000000) :
 Calls Tryd.prog 35 #[v] w fun e w' => e = .returned (.agg (bytesV (sha 64 (Jo.joined xs).data.toList))) ∧ Below w.heap.size w w' := by
 have HT := ϕ hT
 have HP := ϕ hP
 have Hs := ϕ hs
 have HL := ϕ (sha_length 64 (by decide) (Jo.joined xs).data.toList)
 have HZ := ϕ (show (bytesV (sha 64 (Jo.joined xs).data.toList)).size = 64 by rw [bytesV_size, HL.out])
 clear hT hP hs
 go_enter Tryd.func35, Tryd.ntmps35
 go_wp2_with fail
 generalize hX : World.alloc w _ = X
 have HBX := ϕ (show Below w.heap.size w X by subst hX; exact (Below.refl _ _).alloc (Nat.le_refl _) _)
 have HR := ϕ (show ∃ cs : Array Value, cs.size = 64 ∧ Rg.Blk X w.heap.size 26 cs by subst hX; exact ⟨_, rfl, Rg.Blk.new _ _ _⟩)
 have hXs : w.heap.size < X.heap.size := by obtain ⟨cs, _, h⟩ := HR.out; exact h.lt
 clear hX
 go_wp2_with (first
  | (go_at_call 51; refine (kind512_any _).mono ?_; rintro e w1 ⟨rfl, hb1⟩; have HB1 := ϕ hb1; clear hb1)
  | (go_at_call 52; refine (sum512 _ _ xs ((HT.out.below HBX.out HT.out.size).below HB1.out (by have := HT.out.size; omega)) ((HP.out.below HBX.out).below (HB1.out.mono (Nat.le_refl _) |>.mono (Nat.le_refl _))) Hs.out hN).mono ?_; rintro e w2 ⟨rfl, hb2⟩; have HB2 := ϕ hb2; clear hb2
     have HSL := ϕ (show (⟨(sha 64 (Jo.joined xs).data.toList).toArray⟩ : ByteArray).data.toList = sha 64 (Jo.joined xs).data.toList from rfl)
     have hsz : (⟨(sha 64 (Jo.joined xs).data.toList).toArray⟩ : ByteArray).size = 64 := by show (sha 64 _).toArray.size = 64; rw [List.size_toArray, HL.out]
     generalize (⟨(sha 64 (Jo.joined xs).data.toList).toArray⟩ : ByteArray) = sb at *
     have HSZ := ϕ hsz
     clear hsz)
  | (refine conv_bytes rfl 9 28 5 _ rfl rfl Tryd.underlying9 Tryd.underlying28 Tryd.underlying5 ?_; intro Y cap hY hfY hbY hnY hcY; have HY := ϕ hY; have HBY := ϕ hbY; clear hY hfY hbY hnY hcY)
  | (refine slice_to_array rfl 26 5 64 _ rfl _ _ _ _ rfl Tryd.underlying26 (by rw [HSZ.out]; decide) ?_)
  | (refine load_cells rfl 26 _ rfl _ 0 rfl (bytesV (sha 64 (Jo.joined xs).data.toList)) _ (HSL.out ▸ HY.out).cells Tryd.underlying26 rfl (by rw [HZ.out]; rfl) ?_)
  | (obtain ⟨cs, hcs, hB⟩ := HR.out
     refine store_blk rfl 26 _ _ rfl w.heap.size _ cs 26 rfl rfl (((hB.below HB1.out hXs).below HB2.out (by have := HB1.out.size; omega)).below HBY.out (by have := HB1.out.size; have := HB2.out.size; omega)) (by rw [HZ.out]; rfl) (by rw [hcs, HZ.out]) (bytesV_one _) ?_
     intro Z hZ hgZ; have HZZ := ϕ hZ; have HGZ := ϕ hgZ; clear hZ hgZ hcs hB))
 exact bodyPost_ret (v := .agg (bytesV (sha 64 (Jo.joined xs).data.toList)))
  (results_cell_row Tryd.results35 _ _ w.heap.size 26 _ (0, 0) _ rfl HZZ.out Tryd.underlying26 rfl (by rw [HZ.out]; rfl)) rfl
  ⟨rfl, (((HBX.out.trans (HB1.out.mono (by omega))).trans (HB2.out.mono (by have := HB1.out.size; omega))).trans (HBY.out.mono (by have := HB1.out.size; have := HB2.out.size; omega))).grown HGZ.out (by have := HB1.out.size; have := HB2.out.size; have := HBY.out.size; omega) (fun k hk => by cases hk; exact Nat.le_refl _)⟩
open Go.Proofs.YtfpcelmekfdafaaDoor.Ws Go.Proofs.YtfpcelmekfdafaaDoor.Ow
end Go.Proofs.YtfpcelmekfdafaaDoor.Sha
namespace Go.Proofs.YtfpcelmekfdafaaDoor.Rf
open Go.RowKit Go.Proofs.YtfpcelmekfdafaaDoor.Ow Go.Proofs.YtfpcelmekfdafaaDoor.Kx Go.Proofs.YtfpcelmekfdafaaDoor.Dg Go.Proofs.YtfpcelmekfdafaaDoor.Ed
end Go.Proofs.YtfpcelmekfdafaaDoor.Rf
namespace Go.Proofs.YtfpcelmekfdafaaDoor.Ed
open Go.Proofs.YtfpcelmekfdafaaDoor.Nt Go.Proofs.YtfpcelmekfdafaaDoor.Kx
/-- a digest of 64 bytes: the scalar's bytes -/
def secA (h : List UInt8) : List UInt8 := clampB (h.take 32)
def dig5 (s : List UInt8) : List UInt8 := Sha.sha 64 s
theorem dig5_len (s : List UInt8) : (dig5 s).length = 64 := Sha.sha_length 64 (by decide) _
/-- a seed's number, and its key -/
def aN (seed : List UInt8) : Nat := leN (secA (dig5 seed))
def pubP (seed : List UInt8) : Pt := Pt.mul (aN seed) base
def pub (seed : List UInt8) : List UInt8 := enc (pubP seed)
/-- a digest, modulo the order -/
def red (s : List UInt8) : Nat := leN (dig5 s) % Ed.L
def rN (seed m : List UInt8) : Nat := red ((dig5 seed).drop 32 ++ m)
def rP (seed m : List UInt8) : Pt := Pt.mul (rN seed m) base
def sN (seed key m : List UInt8) : Nat := (red (enc (rP seed m) ++ key ++ m) * aN seed + rN seed m) % Ed.L
def sig (seed key m : List UInt8) : List UInt8 := enc (rP seed m) ++ toLe 32 (sN seed key m)
/-- does it fit? -/
def verA (key m r s : List UInt8) (A : Pt) : Bool := decide (leN s < Ed.L) && decide (enc ((Pt.mul (leN s) base).add (Pt.mul (red (r ++ key ++ m)) A.neg)) = r)
def ver (key m r s : List UInt8) : Bool := (dec key).elim false (verA key m r s)
theorem ver_none {key m r s : List UInt8} (h : dec key = none) : ver key m r s = false := by unfold ver; rw [h]; rfl
theorem ver_someA {key m r s : List UInt8} {A : Pt} (h : dec key = some A) : ver key m r s = verA key m r s A := by unfold ver; rw [h]; rfl
theorem ver_some {key m r s : List UInt8} {A : Pt} (h : dec key = some A) : ver key m r s = (decide (leN s < Ed.L) && decide (enc ((Pt.mul (leN s) base).add (Pt.mul (red (r ++ key ++ m)) A.neg)) = r)) := by rw [ver_someA h]; unfold verA; rfl
end Go.Proofs.YtfpcelmekfdafaaDoor.Ed
namespace Go.Proofs.YtfpcelmekfdafaaDoor.Rf
open Go.RowKit Go.Proofs.YtfpcelmekfdafaaDoor.Ow Go.Proofs.YtfpcelmekfdafaaDoor.Kx Go.Proofs.YtfpcelmekfdafaaDoor.Dg Go.Proofs.YtfpcelmekfdafaaDoor.Ed
theorem b8 (b : UInt8) : (b &&& 248).toNat = b.toNat / 8 * 8 := by
 have h : ∀ x : BitVec 8, (x &&& 248).toNat = x.toNat / 8 * 8 := by decide +kernel
 exact h b.toBitVec
theorem clamp_sets {l : List UInt8} (hl : l.length = 32) {a b : UInt8} (ha : l[0]? = some a) (hb : l[31]? = some b) : clampB l = (l.set 0 (a &&& 248)).set 31 (b &&& 63 ||| 64) := by
 unfold clampB
 simp only
 have e1 : l.getD 0 0 = a := by rw [List.getD_eq_getElem?_getD, ha]; rfl
 have e2 : (l.set 0 (a &&& 248)).getD 31 0 = b := by rw [List.getD_eq_getElem?_getD, List.getElem?_set_ne (by omega), hb]; rfl
 rw [e1, e2]
def bs (l : List UInt8) : ByteArray := ⟨l.toArray⟩
theorem bs_list (l : List UInt8) : (bs l).data.toList = l := rfl
theorem bs_of (S : ByteArray) : bs S.data.toList = S := by apply ByteArray.ext; rfl
theorem bs_extract (l : List UInt8) (a b : Nat) : (bs l).extract a b = bs ((l.take b).drop a) := by
 apply ByteArray.ext; apply Array.toList_inj.1
 show ((bs l).extract a b).data.toList = (l.take b).drop a
 rw [ByteArray.data_extract, Array.toList_extract, List.extract_eq_take_drop, bs_list, List.drop_take]
theorem red_lt (l : List UInt8) : red l < Ed.L := Nat.mod_lt _ l_pos
theorem leN_l {n : Nat} (h : n < Ed.L) : leN (toLe 32 n) = n := by
 rw [leN_toLe]
 exact Nat.mod_eq_of_lt (Nat.lt_of_lt_of_le h (by decide +kernel))
theorem clampB_l (h : List UInt8) (hl : h.length = 64) : (secA h).length = 32 := by unfold secA; rw [clampB_len, List.length_take, hl]; rfl
end Go.Proofs.YtfpcelmekfdafaaDoor.Rf
namespace Go.Proofs.YtfpcelmekfdafaaDoor.Kx
open Go.RowKit Go.Proofs.YtfpcelmekfdafaaDoor.Cl Go.Proofs.YtfpcelmekfdafaaDoor.Ed Go.Proofs.YtfpcelmekfdafaaDoor.Rf
/-- a seed's secret in memory: 32 bytes and a text -/
def secV (a p : List UInt8) : Array Value := (Cv.bytesV a).push (.string (bs p))
theorem secV_size (a p : List UInt8) : (secV a p).size = a.length + 1 := by unfold secV; rw [Array.size_push, Cv.bytesV_size]
theorem secV_one (a p : List UInt8) : (secV a p).all (·.oneCell') = true := by
 unfold secV Cv.bytesV
 simp [Lib.byteCells, Value.oneCell']
theorem secV_get {a p : List UInt8} {j : Nat} {v : Value} (h : (Cv.bytesV a)[j]? = some v) : (secV a p)[j]? = some v := by
 unfold secV
 rw [Array.getElem?_push_lt (Array.getElem?_eq_some_iff.1 h).1, ← Array.getElem?_eq_getElem (Array.getElem?_eq_some_iff.1 h).1]
 exact h
theorem secV_str (a p : List UInt8) : (secV a p)[a.length]? = some (.string (bs p)) := by
 unfold secV
 rw [← Cv.bytesV_size a, Array.getElem?_push_size]
theorem part_row {P : Program} (w : World) (t e : TypeId) (n : Nat) (i : TypeInfo) (hu : P.underlying t = some (.array n e)) (hi : P.info? t = some i) (cs : Array Value) (off : Nat) : (part t cs off).run P w = .ok (.agg (cs.extract off (off + P.cellsOf t))) w := by
 unfold part isAgg
 simp [Sem.run_bind, run_underlying hu, run_sizeOf w hi]
theorem secV_left (a p : List UInt8) : (secV a p).extract 0 a.length = Cv.bytesV a := by
 unfold secV Cv.bytesV
 apply Array.toList_inj.1
 simp [Lib.byteCells]
theorem run_secF (w : World) (a p : List UInt8) (ha : a.length = 32) : (Instr.field 46 (.agg (secV a p)) 0).run Tryd.prog w = .ok (.agg (Cv.bytesV a)) w := by
 obtain ⟨i, hi, hs⟩ : ∃ i, Tryd.prog.info? 22 = some i ∧ i.size = 32 := by
  cases h : Tryd.prog.info? 22 with
  | none => exact absurd (show (Tryd.prog.info? 22).isSome = true by kernel_rfl) (by rw [h]; decide)
  | some i => exact ⟨i, rfl, by have e : (Tryd.prog.info? 22).map (·.size) = some 32 := by kernel_rfl
                                rw [h] at e; simpa using e⟩
 have hc : Tryd.prog.cellsOf 22 = 32 := by unfold Program.cellsOf; simp [hi, hs]
 have h := part_row w 22 5 32 i Tryd.underlying22 hi (secV a p) 0
 rw [hc, Nat.zero_add] at h
 have h2 := secV_left a p
 rw [ha] at h2
 rw [h2] at h
 generalize secV a p = sv at *
 unfold Instr.field
 simp [Sem.run_bind, run_underlying Tryd.underlying46, asAgg, h]
theorem fold_setO (o : Nat) : ∀ (l : List Value) (k : Nat) (arr : Array Value), o + k + l.length ≤ arr.size → ∀ j, ((l.zipIdx k).foldl (fun (cs : Array Value) (x : Value × Nat) => cs.setIfInBounds (o + x.2) x.1) arr)[j]? = if o + k ≤ j ∧ j < o + k + l.length then l[j - (o + k)]? else arr[j]?
 | [], k, arr, _, j => by
  rw [if_neg (fun e => by have := e.2; simp at this; omega)]; rfl
 | x :: l, k, arr, h, j => by
  rw [List.zipIdx_cons, List.foldl_cons, fold_setO o l (k + 1) _ (by rw [Array.size_setIfInBounds]; simp at h; omega) j]
  by_cases h1 : o + k = j
  · subst h1
    rw [if_neg (by omega), if_pos (by simp), Array.getElem?_setIfInBounds_self_of_lt (by simp at h; omega)]
    simp
  · rw [Array.getElem?_setIfInBounds_ne h1]
    by_cases h2 : o + (k + 1) ≤ j ∧ j < o + (k + 1) + l.length
    · rw [if_pos h2, if_pos (by simp; omega), show j - (o + k) = (j - (o + (k + 1))) + 1 by omega, List.getElem?_cons_succ]
    · rw [if_neg h2, if_neg (by simp; omega)]
theorem built_sec (a p : List UInt8) (ha : a.length = 32) : Tryd.prog.built 46 [(0, .agg (Cv.bytesV a)), (1, .string (bs p))] = some (secV a p) := by
 have e : Tryd.prog.built 46 [(0, .agg (Cv.bytesV a)), (1, .string (bs p))] = Instr.fill (#[(0, 32), (32, 1)][·]?) #[.int .u8 0, .int .u8 0, .int .u8 0, .int .u8 0, .int .u8 0, .int .u8 0, .int .u8 0, .int .u8 0, .int .u8 0, .int .u8 0, .int .u8 0, .int .u8 0, .int .u8 0, .int .u8 0, .int .u8 0, .int .u8 0, .int .u8 0, .int .u8 0, .int .u8 0, .int .u8 0, .int .u8 0, .int .u8 0, .int .u8 0, .int .u8 0, .int .u8 0, .int .u8 0, .int .u8 0, .int .u8 0, .int .u8 0, .int .u8 0, .int .u8 0, .int .u8 0, .string ⟨#[]⟩] [(0, .agg (Cv.bytesV a)), (1, .string (bs p))] := by kernel_rfl
 have hs : (Cv.bytesV a).size = 32 := by rw [Cv.bytesV_size, ha]
 rw [e]
 unfold Instr.fill
 show (if (Cv.bytesV a).size ≠ 32 || 0 + (Cv.bytesV a).size > 33 then none else _) = _
 rw [hs, if_neg (by decide)]
 show Instr.fill (#[(0, 32), (32, 1)][·]?) ((Cv.bytesV a).zipIdx.foldl (fun (cs : Array Value) (x : Value × Nat) => cs.setIfInBounds (0 + x.2) x.1) #[.int .u8 0, .int .u8 0, .int .u8 0, .int .u8 0, .int .u8 0, .int .u8 0, .int .u8 0, .int .u8 0, .int .u8 0, .int .u8 0, .int .u8 0, .int .u8 0, .int .u8 0, .int .u8 0, .int .u8 0, .int .u8 0, .int .u8 0, .int .u8 0, .int .u8 0, .int .u8 0, .int .u8 0, .int .u8 0, .int .u8 0, .int .u8 0, .int .u8 0, .int .u8 0, .int .u8 0, .int .u8 0, .int .u8 0, .int .u8 0, .int .u8 0, .int .u8 0, .string ⟨#[]⟩]) [(1, .string (bs p))] = _
 obtain ⟨zz, hz⟩ : ∃ zz : Array Value, zz = (#[.int .u8 0, .int .u8 0, .int .u8 0, .int .u8 0, .int .u8 0, .int .u8 0, .int .u8 0, .int .u8 0, .int .u8 0, .int .u8 0, .int .u8 0, .int .u8 0, .int .u8 0, .int .u8 0, .int .u8 0, .int .u8 0, .int .u8 0, .int .u8 0, .int .u8 0, .int .u8 0, .int .u8 0, .int .u8 0, .int .u8 0, .int .u8 0, .int .u8 0, .int .u8 0, .int .u8 0, .int .u8 0, .int .u8 0, .int .u8 0, .int .u8 0, .int .u8 0, .string ⟨#[]⟩] : Array Value) := ⟨_, rfl⟩
 have hz1 : zz.size = 33 := by rw [hz]; rfl
 rw [← hz]
 clear hz e
 have hl : (Cv.bytesV a).toList.length = 32 := by rw [Array.length_toList, hs]
 have hf := fold_setO 0 (Cv.bytesV a).toList 0 zz (by rw [hl, hz1]; decide)
 rw [← Array.foldl_toList, Array.toList_zipIdx]
 generalize hg : List.foldl (fun (cs : Array Value) (x : Value × Nat) => cs.setIfInBounds (0 + x.2) x.1) zz ((Cv.bytesV a).toList.zipIdx 0) = g at *
 have hgs : g.size = 33 := by
  have h1 := hf 32
  rw [hl, if_neg (by omega), Array.getElem?_eq_getElem (xs := zz) (by omega)] at h1
  have h2 := hf 33
  rw [hl, if_neg (by omega), Array.getElem?_eq_none (xs := zz) (by omega)] at h2
  have h3 := (Array.getElem?_eq_some_iff.1 h1).1
  have h4 := Array.getElem?_eq_none_iff.1 h2
  omega
 unfold Instr.fill
 show (if (1 : Nat) ≠ 1 || 32 + 1 > g.size then none else _) = _
 rw [hgs, if_neg (by decide)]
 unfold Instr.fill
 show some (g.setIfInBounds 32 (.string (bs p))) = some (secV a p)
 refine congrArg some (Array.ext_getElem? fun j => ?_)
 by_cases hj : j = 32
 · subst hj
   rw [Array.getElem?_setIfInBounds_self_of_lt (by omega)]
   have := secV_str a p
   rw [ha] at this
   exact this.symm
 · rw [Array.getElem?_setIfInBounds_ne (fun e => hj e.symm), hf j, hl]
   by_cases h2 : j < 32
   · rw [if_pos (by omega), Nat.zero_add, Nat.sub_zero, Array.getElem?_toList, Array.getElem?_eq_getElem (by omega)]
     exact (secV_get (Array.getElem?_eq_getElem (by omega))).symm
   · rw [if_neg (by omega), Array.getElem?_eq_none (by omega), Array.getElem?_eq_none (by rw [secV_size]; omega)]
theorem parts_n (w : World) (T : TypeId) (xs : List ByteArray) (h : xs ≠ []) (n : Nat) (hn : n = xs.length) : Jo.Parts (w.alloc (.cells (xs.map Value.string).toArray T)) (.slice (some ⟨w.heap.size, 0, none⟩) n n) xs := by
 subst hn
 exact .inr ⟨w.heap.size, 0, xs.length, rfl, fun j x hx => by rw [Nat.zero_add]; exact (Rg.Blk.new w _ _).cell j (by simp [hx]), by simp, Nat.le_refl _⟩
theorem bytes_front {w : World} {b T : Nat} {l : List UInt8} (h : Rg.Blk w b T (Cv.bytesV l)) (n : Nat) : Cv.Bytes w b 0 (l.take n) := fun j x hx => (Cv.Bytes.of_blk h) j x (by
 rw [List.getElem?_take] at hx
 split at hx
 · exact hx
 · cases hx)
theorem bytes_back {w : World} {b T : Nat} {l : List UInt8} (h : Rg.Blk w b T (Cv.bytesV l)) (n : Nat) : Cv.Bytes w b n (l.drop n) := fun j x hx => by
 rw [List.getElem?_drop] at hx
 have := (Cv.Bytes.of_blk h) (n + j) x hx
 rwa [Nat.zero_add] at this
/-- Sum512 over lists of bytes -/
theorem sum_l (W : World) (v : Value) (xs : List ByteArray) (l : List UInt8) (hl : (Jo.joined xs).data.toList = l) (hz : l.length ≤ 100000) (hn : xs.length ≤ 100) (hT : Sha.Tables W) (hv : Jo.Parts W v xs) : Calls Tryd.prog 35 #[v] W fun e w' => e = .returned (.agg (Cv.bytesV (dig5 l))) ∧ Below W.heap.size W w' := by
 have h := Sha.Sum512_any W v xs hT hv (by rw [← ByteArray.size_data, ← Array.length_toList, hl]; omega) (by omega)
 rw [hl] at h
 exact h
theorem open_any (w : World) (seed : List UInt8) (hl : seed.length = 32) (hT : Sha.Tables w) : Calls Tryd.prog 14 #[.agg (Cv.bytesV seed)] w fun e w' => e = .returned (.agg (secV (secA (dig5 seed)) ((dig5 seed).drop 32))) ∧ Below w.heap.size w w' := by
 obtain ⟨d, hd⟩ : ∃ d, dig5 seed = d := ⟨_, rfl⟩
 rw [hd]
 have hdl : d.length = 64 := by rw [← hd, dig5_len]
 obtain ⟨t, ht⟩ : ∃ t, d.take 32 = t := ⟨_, rfl⟩
 have htl : t.length = 32 := by rw [← ht, List.length_take, hdl]; rfl
 obtain ⟨pf, hpf⟩ : ∃ t, d.drop 32 = t := ⟨_, rfl⟩
 have HPL := ϕ (show pf.length = 32 by rw [← hpf, List.length_drop, hdl])
 obtain ⟨a0, h0⟩ : ∃ a, t[0]? = some a := ⟨_, List.getElem?_eq_getElem (by omega)⟩
 obtain ⟨a31, h31⟩ : ∃ a, t[31]? = some a := ⟨_, List.getElem?_eq_getElem (by omega)⟩
 obtain ⟨z0, hz0⟩ : ∃ z, a0 &&& 248 = z := ⟨_, rfl⟩
 obtain ⟨z31, hz31⟩ : ∃ z, a31 &&& 63 ||| 64 = z := ⟨_, rfl⟩
 obtain ⟨sa, hsa⟩ : ∃ s, secA d = s := ⟨_, rfl⟩
 have HCL := ϕ (show (t.set 0 z0).set 31 z31 = sa by rw [← hsa]; unfold secA; rw [ht, clamp_sets htl h0 h31, hz0, hz31])
 have HSL := ϕ (show sa.length = 32 by rw [← hsa]; exact clampB_l _ hdl)
 have HS := ϕ (fun W v (hT : Sha.Tables W) (hv : Jo.Parts W v [⟨seed.toArray⟩]) => show Calls Tryd.prog 35 #[v] W fun e w' => e = .returned (.agg (Cv.bytesV d)) ∧ Below W.heap.size W w' from hd ▸ sum_l W v _ seed (by rw [Jo.joined_list]; simp) (by omega) (by simp) hT hv)
 have HL := ϕ hl
 have HT := ϕ hT
 have HDL := ϕ hdl
 have HTL := ϕ htl
 have HTK := ϕ ht
 have HPF := ϕ hpf
 have H0 := ϕ h0
 have H31 := ϕ (show (t.set 0 z0)[31]? = some a31 by rw [List.getElem?_set_ne (by decide)]; exact h31)
 have e0 : bits .andNot .u8 (a0.toNat : Int) 7 = (z0.toNat : Int) := by rw [← hz0]; exact andNot7 a0
 have e1 : bits .and .u8 (a31.toNat : Int) 63 = ((a31 &&& 63).toNat : Int) := and63 a31
 have e2 : bits .or .u8 ((a31 &&& 63).toNat : Int) 64 = (z31.toNat : Int) := by rw [← hz31]; exact or64 _
 obtain ⟨y31, hy31⟩ : ∃ y : UInt8, a31 &&& 63 = y := ⟨_, rfl⟩
 rw [hy31] at e1 e2
 have E0 := ϕ e0
 have E1 := ϕ e1
 have E2 := ϕ e2
 rw [hsa, hpf]
 clear hd hl hT hdl htl ht h0 h31 hz0 hz31 hsa hpf e0 e1 e2 hy31
 go_enter Tryd.func14, Tryd.ntmps14
 go_upto_region 1 with ((with_reducible refine gate_ ?_); refine Rg.box_fresh rfl 22 _ rfl (Cv.bytesV seed) rfl ?_; intro X hX hbX hnX; have HX := ϕ hX; have HBX := ϕ hbX; clear hX hbX hnX)
 obtain ⟨sb, hsb⟩ : ∃ n, w.heap.size = n := ⟨_, rfl⟩
 obtain ⟨ob, hob⟩ : ∃ n, X.heap.size = n := ⟨_, rfl⟩
 have HN1 := ϕ (show w.heap.size ≤ ob from hob ▸ HBX.out.size)
 have HSB := ϕ (show Rg.Blk (X.alloc (.cells #[.int .u8 0, .int .u8 0, .int .u8 0, .int .u8 0, .int .u8 0, .int .u8 0, .int .u8 0, .int .u8 0, .int .u8 0, .int .u8 0, .int .u8 0, .int .u8 0, .int .u8 0, .int .u8 0, .int .u8 0, .int .u8 0, .int .u8 0, .int .u8 0, .int .u8 0, .int .u8 0, .int .u8 0, .int .u8 0, .int .u8 0, .int .u8 0, .int .u8 0, .int .u8 0, .int .u8 0, .int .u8 0, .int .u8 0, .int .u8 0, .int .u8 0, .int .u8 0, .string ⟨#[]⟩] 46)) sb 22 (Cv.bytesV seed) from (hsb ▸ HX.out).alloc _)
 have HOB := ϕ (show Rg.Blk (X.alloc (.cells #[.int .u8 0, .int .u8 0, .int .u8 0, .int .u8 0, .int .u8 0, .int .u8 0, .int .u8 0, .int .u8 0, .int .u8 0, .int .u8 0, .int .u8 0, .int .u8 0, .int .u8 0, .int .u8 0, .int .u8 0, .int .u8 0, .int .u8 0, .int .u8 0, .int .u8 0, .int .u8 0, .int .u8 0, .int .u8 0, .int .u8 0, .int .u8 0, .int .u8 0, .int .u8 0, .int .u8 0, .int .u8 0, .int .u8 0, .int .u8 0, .int .u8 0, .int .u8 0, .string ⟨#[]⟩] 46)) ob 46 (#[.int .u8 0, .int .u8 0, .int .u8 0, .int .u8 0, .int .u8 0, .int .u8 0, .int .u8 0, .int .u8 0, .int .u8 0, .int .u8 0, .int .u8 0, .int .u8 0, .int .u8 0, .int .u8 0, .int .u8 0, .int .u8 0, .int .u8 0, .int .u8 0, .int .u8 0, .int .u8 0, .int .u8 0, .int .u8 0, .int .u8 0, .int .u8 0, .int .u8 0, .int .u8 0, .int .u8 0, .int .u8 0, .int .u8 0, .int .u8 0, .int .u8 0, .int .u8 0, .string ⟨#[]⟩] : Array Value) from Rg.Blk.newAt hob.symm _ _)
 have HB := ϕ (show Below w.heap.size w (X.alloc (.cells #[.int .u8 0, .int .u8 0, .int .u8 0, .int .u8 0, .int .u8 0, .int .u8 0, .int .u8 0, .int .u8 0, .int .u8 0, .int .u8 0, .int .u8 0, .int .u8 0, .int .u8 0, .int .u8 0, .int .u8 0, .int .u8 0, .int .u8 0, .int .u8 0, .int .u8 0, .int .u8 0, .int .u8 0, .int .u8 0, .int .u8 0, .int .u8 0, .int .u8 0, .int .u8 0, .int .u8 0, .int .u8 0, .int .u8 0, .int .u8 0, .int .u8 0, .int .u8 0, .string ⟨#[]⟩] 46)) from HBX.out.alloc HBX.out.size _)
 have HT := ϕ (HT.out.below HB.out HT.out.size)
 try rw [hsb]
 try rw [hob]
 clear HX HBX hsb hob
 generalize (X.alloc (.cells #[.int .u8 0, .int .u8 0, .int .u8 0, .int .u8 0, .int .u8 0, .int .u8 0, .int .u8 0, .int .u8 0, .int .u8 0, .int .u8 0, .int .u8 0, .int .u8 0, .int .u8 0, .int .u8 0, .int .u8 0, .int .u8 0, .int .u8 0, .int .u8 0, .int .u8 0, .int .u8 0, .int .u8 0, .int .u8 0, .int .u8 0, .int .u8 0, .int .u8 0, .int .u8 0, .int .u8 0, .int .u8 0, .int .u8 0, .int .u8 0, .int .u8 0, .int .u8 0, .string ⟨#[]⟩] 46)) = Y at *
 have tb0 := True.intro
 go_upto_region 2 with (first
  | ((with_reducible refine gate_ ?_); refine Cv.conv_string rfl 28 5 9 _ rfl Tryd.underlying28 Tryd.underlying5 Tryd.underlying9 sb 0 32 32 seed rfl HL.out (Cv.Bytes.of_blk HSB.out) ?_; skip)
  | (go_at_call 35; refine (HS.out _ _ (HT.out.below ((Below.refl _ _).alloc (Nat.le_refl _) _) HT.out.size) (parts_n _ _ [_] (by simp) 1 rfl)).mono ?_; rintro e w1 ⟨rfl, hb1⟩; have hb2 := (Below.alloc (Below.refl Y.heap.size Y) (Nat.le_refl _) _).trans (hb1.mono (by simp)); have HOB := ϕ (HOB.out.below hb2 HOB.out.lt); have HB := tm HB hb2; clear hb1 hb2)
  | (refine Rg.store_fresh rfl 26 _ _ rfl (Cv.bytesV d) _ 26 rfl rfl (by rw [Cv.bytesV_size, HDL.out]; kernel_rfl) (by rw [Cv.bytesV_size, HDL.out]; rfl) (Cv.bytesV_one _) ?_; intro V1 hX hbX; have HD := ϕ hX; have HNd := ϕ (show ob < w1.heap.size from HOB.out.lt); have HOB := ϕ (HOB.out.below hbX HOB.out.lt); have HB1 := ϕ HB.out; have HB := tm HB hbX; clear hX hbX))
 obtain ⟨db, hdb⟩ : ∃ n, w1.heap.size = n := ⟨_, rfl⟩
 have HD := ϕ (show Rg.Blk V1 db 26 (Cv.bytesV d) from hdb ▸ HD.out)
 have HN2 := ϕ (show ob < db from hdb ▸ HNd.out)
 try rw [hdb]
 clear hdb HNd HSB HB1 HT HS
 go_upto_region 3 with (first
  | ((with_reducible refine gate_ ?_); refine Cv.slice_to_array rfl 22 5 32 _ rfl _ _ _ _ rfl Tryd.underlying22 (by decide) ?_; skip)
  | ((with_reducible refine gate_ ?_); refine Cv.load_cells rfl 22 _ rfl db 0 rfl (Cv.bytesV t) _ (HTK.out ▸ Cv.Bytes.cells (bytes_front HD.out 32)) Tryd.underlying22 rfl (by rw [Cv.bytesV_size, HTL.out]; kernel_rfl) ?_)
  | (refine Rg.store_fresh rfl 22 _ _ rfl (Cv.bytesV t) _ 22 rfl rfl (by rw [Cv.bytesV_size, HTL.out]; kernel_rfl) (by rw [Cv.bytesV_size, HTL.out]; rfl) (Cv.bytesV_one _) ?_; intro V2 hX hbX; have HA := ϕ hX; have HNd := ϕ (show db < V1.heap.size from HD.out.lt); have HOB := ϕ (HOB.out.below hbX HOB.out.lt); have HD := ϕ (HD.out.below hbX HD.out.lt); have HGA := ϕ (show w.heap.size ≤ V1.heap.size from HB.out.size); have HB := tm HB hbX; clear hX hbX))
 obtain ⟨ab, hab⟩ : ∃ n, V1.heap.size = n := ⟨_, rfl⟩
 have HA := ϕ (show Rg.Blk V2 ab 22 (Cv.bytesV t) from hab ▸ HA.out)
 have HN := ϕ (show ¬ ab = ob ∧ ¬ db = ob ∧ w.heap.size ≤ ob from by have h1 := hab ▸ HNd.out; have h2 := HN2.out; have h3 := HN1.out; omega)
 have HN3 := ϕ (show ¬ ob = ab ∧ ¬ db = ab ∧ w.heap.size ≤ ab from by have h1 := hab ▸ HNd.out; have h2 := HN2.out; have h3 := hab ▸ HGA.out; omega)
 try rw [hab]
 clear hab HNd HN1 HN2 HGA
 have x0 := HA.out.cell 0 (Cv.bytesV_get _ _ _ H0.out)
 have e0 := E0.out
 go_upto_region 4 with ((with_reducible refine gate_ ?_); refine Cv.store_byte rfl 5 _ _ rfl (b := ab) (j := 0) (l := t) (v := z0) rfl (by first | rfl | (simp [e0]; done)) Tryd.underlying5 (by kernel_rfl) HA.out (by rw [HTL.out]; decide) ?_; intro V3 hV hgV; have HD := ϕ (blk_other HD.out hgV (fun e => HN3.out.2.1 e.symm)); have HOB := ϕ (blk_other HOB.out hgV (fun e => HN3.out.1 e.symm)); have HA3 := ϕ hV; have HB := ϕ (HB.out.grown hgV HB.out.size (fun j e => by cases e; exact HN3.out.2.2)); clear hV hgV)
 clear x0 e0 HA
 have x1 := HA3.out.cell 31 (Cv.bytesV_get _ _ _ H31.out)
 have e1 := E1.out
 have e2 := E2.out
 go_upto_region 5 with ((with_reducible refine gate_ ?_); refine Cv.store_byte rfl 5 _ _ rfl (b := ab) (j := 31) (l := t.set 0 z0) (v := z31) rfl (by first | rfl | (simp [e1, e2]; done)) Tryd.underlying5 (by kernel_rfl) HA3.out (by rw [List.length_set, HTL.out]; decide) ?_; intro V4 hV hgV; have HD := ϕ (blk_other HD.out hgV (fun e => HN3.out.2.1 e.symm)); have HOB := ϕ (blk_other HOB.out hgV (fun e => HN3.out.1 e.symm)); have HA := ϕ (show Rg.Blk V4 ab 22 (Cv.bytesV sa) from HCL.out ▸ hV); have HB := ϕ (HB.out.grown hgV HB.out.size (fun j e => by cases e; exact HN3.out.2.2)); clear hV hgV)
 clear x1 e1 e2 HA3
 refine RL.start (fun W => Sp.Upd V4 W [ob]) (by kernel_rfl) (Sp.Upd.trans (Sp.Upd.refl _ _) (Sp.Upd.of_below (Below.drew (Below.refl _ _))) (by simp)) ?_
 refine RL.tw 0 (v := .agg (Cv.bytesV sa)) rfl (fun W hSW => RT.run_row 22 _ rfl _ rfl _ _ (upd_blk hSW HA.out (by simp; exact HN.out.1)) Tryd.underlying22 rfl (by rw [Cv.bytesV_size, HSL.out]; kernel_rfl)) ?_
 try go_frame
 refine' RL.tv 1 ?hk15 ?_
 case hk15 => (intro W hSW; go_simp; try with_reducible rfl)
 try go_frame
 refine' RL.tv 2 ?hk16 ?_
 case hk16 => (intro W hSW; have x1 := Cv.run_string_len (P := Tryd.prog) W 28 5 9 Tryd.underlying28 Tryd.underlying5 Tryd.underlying9 db 32 32 32 pf HPL.out (HPF.out ▸ bytes_back (upd_blk hSW HD.out (by simp; exact HN.out.2.1)) 32); go_simp; try with_reducible rfl)
 try go_frame
 refine RL.tw 3 (v := .agg (secV sa pf)) rfl (fun W hSW => run_build_op 46 _ rfl #[(0, .agg (Cv.bytesV sa)), (1, .string (bs pf))] (by go_simp; try rfl) _ (built_sec _ _ HSL.out)) ?_
 try go_frame
 refine RL.sk 4 (fun va hlva hsva K hK => ?_)
 have hO := (HOB.out.below (Below.drew (Below.refl _ _)) HOB.out.lt).below hlva (by have := HOB.out.lt; simpa using this)
 refine store_blk_op 46 _ _ rfl ob (secV sa pf) _ 46 rfl (by rfl) hO (by rw [secV_size, HSL.out]; kernel_rfl) (by rw [secV_size, HSL.out]; rfl) (secV_one _ _) ?_
 intro Y hY hgY
 refine hK.out _ _ (Sp.Upd.trans hsva (Sp.Upd.of_grown1 hgY) (fun q hq => .inl hq)) ?_
 clear hK
 try go_frame
 refine RL.done (by kernel_rfl) (fun V hlV hsV => ?_)
 have HR := ϕ (show Rg.Blk V ob 46 (secV sa pf) from Rg.Blk.below hY hlV hY.lt)
 have HB := ϕ (below_upd HB.out hsV (fun k hk => by simp at hk; rw [hk]; exact HN.out.2.2) HB.out.size)
 clear hO hY hgY hlva hsva hlV hsV
 go_wp2_with fail
 refine bodyPost_ret (v := .agg (secV sa pf))
  (results_cell_row Tryd.results14 _ _ ob 46 _ (0, 0) _ rfl HR.out Tryd.underlying46 rfl (by rw [secV_size, HSL.out]; kernel_rfl)) rfl ?_
 exact ⟨rfl, HB.out⟩
end Go.Proofs.YtfpcelmekfdafaaDoor.Kx
namespace Go.Proofs.YtfpcelmekfdafaaDoor.RL
open Go.RowKit
end Go.Proofs.YtfpcelmekfdafaaDoor.RL
namespace Go.Proofs.YtfpcelmekfdafaaDoor.Kx
open Go.RowKit Go.Proofs.YtfpcelmekfdafaaDoor.Cl Go.Proofs.YtfpcelmekfdafaaDoor.Ed Go.Proofs.YtfpcelmekfdafaaDoor.Rf
theorem tab_upd {w w' : World} {s : List Nat} (h : Sha.Tables w) (hu : Sp.Upd w w' s) (hs : ∀ k ∈ s, 3 ≤ k) : Sha.Tables w' :=
 h.below (below_upd (Below.refl _ _) hu hs h.size) (Nat.le_refl _)
theorem red_toLe (l : List UInt8) : leN (⟨(dig5 l).toArray⟩ : ByteArray).data.toList % Ed.L = red l := rfl
theorem reduce_l (w : World) (v : Value) (xs : List ByteArray) (l : List UInt8) (hl : (Jo.joined xs).data.toList = l) (hz : l.length ≤ 100000) (hn : xs.length ≤ 100) (hT : Sha.Tables w) (hO : Ord w) (hv : Jo.Parts w v xs) : Calls Tryd.prog 16 #[v] w fun e w' => e = .returned (.agg (Cv.bytesV (toLe 32 (red l)))) ∧ Below w.heap.size w w' := by
 obtain ⟨d, hd⟩ : ∃ d, dig5 l = d := ⟨_, rfl⟩
 have hdl : d.length = 64 := by rw [← hd, dig5_len]
 have HR := ϕ (show toLe 32 (leN (⟨d.toArray⟩ : ByteArray).data.toList % Ed.L) = toLe 32 (red l) from by rw [← hd, red_toLe])
 obtain ⟨rd, hrd⟩ : ∃ r, toLe 32 (red l) = r := ⟨_, rfl⟩
 rw [hrd] at HR ⊢
 have HRL := ϕ (show rd.length = 32 from by rw [← hrd, toLe_len])
 have HS := ϕ (fun W (hT : Sha.Tables W) (hv : Jo.Parts W v xs) => show Calls Tryd.prog 35 #[v] W fun e w' => e = .returned (.agg (Cv.bytesV d)) ∧ Below W.heap.size W w' from hd ▸ sum_l W v xs l hl hz hn hT hv)
 have HT := ϕ hT
 have HO := ϕ hO
 have HP := ϕ hv
 have HDL := ϕ hdl
 have HDS := ϕ (show (⟨d.toArray⟩ : ByteArray).size = 64 from by show d.toArray.size = 64; rw [List.size_toArray]; exact hdl)
 clear hd hdl hl hz hn hT hO hv hrd
 go_enter Tryd.func16, Tryd.ntmps16
 go_upto_region 1 with fail
 obtain ⟨rb, hrb⟩ : ∃ n, w.heap.size = n := ⟨_, rfl⟩
 have HN := ϕ (show w.heap.size ≤ rb from Nat.le_of_eq hrb)
 have HB := ϕ (show Below w.heap.size w (w.alloc (.cells z32 22)) from (Below.refl _ _).alloc (Nat.le_refl _) _)
 have HRB := ϕ (show Rg.Blk (w.alloc (.cells z32 22)) rb 22 z32 from Rg.Blk.newAt hrb.symm _ _)
 have HT := ϕ (HT.out.below HB.out HT.out.size)
 have HO := ϕ (HO.out.below HB.out HO.out.size)
 have HP := ϕ (HP.out.below HB.out)
 rw [hrb]
 generalize (w.alloc (.cells z32 22)) = Y at *
 clear hrb
 go_upto_region 2 with (first
  | (go_at_call 35; refine (HS.out _ HT.out HP.out).mono ?_; rintro e w1 ⟨rfl, hb1⟩; have HRB := ϕ (HRB.out.below hb1 HRB.out.lt); have HO := ϕ (HO.out.below hb1 HO.out.size); have HB := tm HB hb1; clear hb1)
  | (refine Rg.store_fresh rfl 26 _ _ rfl (Cv.bytesV d) _ 26 rfl rfl (by rw [Cv.bytesV_size, HDL.out]; kernel_rfl) (by rw [Cv.bytesV_size, HDL.out]; rfl) (Cv.bytesV_one _) ?_; intro V1 hX hbX; have HD := ϕ hX; have HRB := ϕ (HRB.out.below hbX HRB.out.lt); have HO := ϕ (HO.out.below hbX HO.out.size); have HB := tm HB hbX; clear hX hbX))
 go_wp2_with (first
  | ((with_reducible refine gate_ ?_); refine Cv.conv_string rfl 28 5 9 _ rfl Tryd.underlying28 Tryd.underlying5 Tryd.underlying9 _ 0 64 64 d rfl HDL.out (Cv.Bytes.of_blk HD.out) ?_; skip)
  | (go_at_call 38; refine (Reduce_any _ ⟨d.toArray⟩ HDS.out HO.out).mono ?_; rintro e w2 ⟨rfl, hb1⟩; rw [HR.out]; have HRB2 := ϕ (HRB.out.below hb1 HRB.out.lt); have HB2 := ϕ (HB.out.trans (hb1.mono HB.out.size)); clear hb1)
  | ((with_reducible refine gate_ ?_); refine Cv.store_blk rfl 22 _ _ rfl rb (Cv.bytesV rd) z32 22 rfl rfl HRB2.out (by rw [Cv.bytesV_size, HRL.out]; kernel_rfl) (by rw [Cv.bytesV_size, HRL.out]; rfl) (Cv.bytesV_one _) ?_; intro V hV hgV; have HZ2 := ϕ hV; have HB3 := ϕ (HB2.out.grown hgV HB2.out.size (fun j e => by cases e; exact HN.out)); clear hV hgV))
 refine bodyPost_ret (v := .agg (Cv.bytesV rd))
  (results_cell_row Tryd.results16 _ _ rb 22 _ (0, 0) _ rfl HZ2.out Tryd.underlying22 rfl (by rw [Cv.bytesV_size, HRL.out]; kernel_rfl)) rfl ?_
 exact ⟨rfl, HB3.out⟩
theorem Key_any (w : World) (seed : List UInt8) (hl : seed.length = 32) (hT : Sha.Tables w) : Calls Tryd.prog 6 #[.agg (Cv.bytesV seed)] w fun e w' => e = .returned (.agg (Cv.bytesV (pub seed))) ∧ Below w.heap.size w w' := by
 obtain ⟨cd, ct, c1, c2, c3, c4, ecd, ect, hrq, cbeg⟩ := begin_e
 have CBE := ϕ cbeg
 obtain ⟨B0, hB0⟩ : ∃ R : E4, (⟨c1, c2, c3, c4⟩ : E4) = R := ⟨_, rfl⟩
 have hrB : Rq4 base B0 := hB0 ▸ hrq
 have hop := fun W (hW : Sha.Tables W) => open_any W seed hl hW
 obtain ⟨sa, hsa⟩ : ∃ s, secA (dig5 seed) = s := ⟨_, rfl⟩
 obtain ⟨pf, hpf⟩ : ∃ s, (dig5 seed).drop 32 = s := ⟨_, rfl⟩
 have hsl : sa.length = 32 := by rw [← hsa]; exact clampB_l _ (dig5_len _)
 obtain ⟨ke, hke⟩ : ∃ s, pub seed = s := ⟨_, rfl⟩
 have hkp : pub seed = enc (Pt.mul (leN sa) base) := by rw [← hsa]; rfl
 rw [hsa, hpf] at hop
 obtain ⟨R1, hR1, cmu⟩ := mult_q (cd := cd) (ct := ct) (c1 := c1) (c2 := c2) (c3 := c3) (c4 := c4) ect hrB sa hsl
 have cby := bytes_q hR1
 rw [← hkp, hke] at cby
 rw [hke]
 have HOP := ϕ hop
 have CMU := ϕ (hB0 ▸ cmu)
 have CBY := ϕ cby
 have HSL := ϕ hsl
 have HKL := ϕ (show ke.length = 32 from by rw [← hke, hkp]; exact enc_len _)
 have HL := ϕ hl
 have HT := ϕ hT
 clear hop hsa hpf hsl hke hkp hR1 cmu cby hl hT ecd ect hrq cbeg hB0 hrB
 go_enter Tryd.func6, Tryd.ntmps6
 go_upto_region 1 with ((with_reducible refine gate_ ?_); refine Rg.box_fresh rfl 22 _ rfl (Cv.bytesV seed) rfl ?_; intro X hX hbX hnX; have HX := ϕ hX; have HBX := ϕ hbX; clear hX hbX hnX)
 obtain ⟨sb, hsb⟩ : ∃ n, w.heap.size = n := ⟨_, rfl⟩
 obtain ⟨rb, hrb⟩ : ∃ n, X.heap.size = n := ⟨_, rfl⟩
 have HGR := ϕ (show w.heap.size ≤ rb from hrb ▸ HBX.out.size)
 have NT := ϕ (show 3 ≤ rb from Nat.le_trans HT.out.size HGR.out)
 have Hsb := ϕ (show Rg.Blk (X.alloc (.cells z32 22)) sb 22 (Cv.bytesV seed) from (hsb ▸ HX.out).alloc _)
 have HRB := ϕ (show Rg.Blk (X.alloc (.cells z32 22)) rb 22 z32 from Rg.Blk.newAt hrb.symm _ _)
 have Nsb := ϕ (show ¬ sb = rb from by have h := (hsb ▸ HX.out).lt; omega)
 have HB := ϕ (show Below w.heap.size w (X.alloc (.cells z32 22)) from HBX.out.alloc HBX.out.size _)
 have HT := ϕ (HT.out.below HB.out HT.out.size)
 try rw [hsb]
 try rw [hrb]
 clear HX HBX hsb hrb
 generalize (X.alloc (.cells z32 22)) = Y at *
 go_upto_region 2 with (go_at_call 12; refine (CBE.out _).mono ?_; rintro e w1 ⟨⟨cb, hcb, rfl, hcv⟩, hb1⟩; have Ncb := ϕ (show ¬ cb = rb from by have h := HRB.out.lt; omega); have Hcb := ϕ (show Rg.Blk w1 cb 49 (u64s (els [cd, ct, c1, c2, c3, c4])) from hcv); have Hsb := ϕ (Hsb.out.below hb1 Hsb.out.lt); have HRB := ϕ (HRB.out.below hb1 HRB.out.lt); have HT := ϕ (HT.out.below hb1 HT.out.size); have HB := tm HB hb1; clear hb1 hcv hcb)
 refine RL.start (fun W => Sp.Upd w1 W [rb]) (by kernel_rfl) (Sp.Upd.trans (Sp.Upd.refl _ _) (Sp.Upd.of_below (Below.drew (Below.refl _ _))) (by simp)) ?_
 refine' RL.tv 0 ?hk15 ?_
 case hk15 => (intro W hSW; go_simp; try with_reducible rfl)
 try go_frame
 refine RL.tw 1 (v := .agg (Cv.bytesV seed)) rfl (fun W hSW => RT.run_row 22 _ rfl _ rfl _ _ (upd_blk hSW Hsb.out (by simp; exact Nsb.out)) Tryd.underlying22 rfl (by rw [Cv.bytesV_size, HL.out]; kernel_rfl)) ?_
 try go_frame
 refine' RL.tc 2 (v := (.agg (secV sa pf))) 14 #[.agg (Cv.bytesV seed)] ?hk16 ?hc16 ?_
 case hk16 => (intro W; go_simp; try with_reducible rfl)
 case hc16 => (intro W hSW; exact (HOP.out W (tab_upd HT.out hSW (by simp; exact NT.out))).mono (fun e w9 h9 => ⟨h9.1, h9.2, Sp.Upd.trans hSW (Sp.Upd.of_below h9.2) (by simp)⟩))
 try go_frame
 refine' RL.tv 3 ?hk17 ?_
 case hk17 => (intro W hSW; have x1 := run_secF W sa pf HSL.out; go_simp; try with_reducible rfl)
 try go_frame
 refine' RL.tv 4 ?hk18 ?_
 case hk18 => (intro W hSW; go_simp; try with_reducible rfl)
 try go_frame
 refine' RL.tv 5 ?hk19 ?_
 case hk19 => (intro W hSW; go_simp; try with_reducible rfl)
 try go_frame
 refine' RL.tv 6 ?hk20 ?_
 case hk20 => (intro W hSW; go_simp; try with_reducible rfl)
 try go_frame
 refine RL.tw 7 (v := .agg (u64s (els [c1, c2, c3, c4]))) rfl (fun W hSW => run_at 43 _ rfl cb 10 rfl (u64s (els [c1, c2, c3, c4])) (els_at (upd_blk hSW Hcb.out (by simp; exact Ncb.out)) 2 10 [c1, c2, c3, c4] rfl rfl (by simp)) Tryd.underlying43 rfl (by kernel_rfl)) ?_
 try go_frame
 refine' RL.tc 8 (v := (.agg (u64s (els [R1.x, R1.y, R1.z, R1.t])))) 13 #[.pointer (some ⟨cb, 0, none⟩), .agg (Cv.bytesV sa), .agg (u64s (els [c1, c2, c3, c4]))] ?hk21 ?hc21 ?_
 case hk21 => (intro W; go_simp; try with_reducible rfl)
 case hc21 => (intro W hSW; exact (CMU.out cb W (upd_blk hSW Hcb.out (by simp; exact Ncb.out))).mono (fun e w9 h9 => ⟨h9.1, h9.2, Sp.Upd.trans hSW (Sp.Upd.of_below h9.2) (by simp)⟩))
 try go_frame
 refine' RL.tc 9 (v := (.agg (Cv.bytesV ke))) 15 #[.agg (u64s (els [R1.x, R1.y, R1.z, R1.t]))] ?hk22 ?hc22 ?_
 case hk22 => (intro W; go_simp; try with_reducible rfl)
 case hc22 => (intro W hSW; exact (CBY.out W).mono (fun e w9 h9 => ⟨h9.1, h9.2, Sp.Upd.trans hSW (Sp.Upd.of_below h9.2) (by simp)⟩))
 try go_frame
 refine RL.sk 10 (fun va hlva hsva K hK => ?_)
 have hO := (HRB.out.below (Below.drew (Below.refl _ _)) HRB.out.lt).below hlva (by have := HRB.out.lt; simpa using this)
 refine store_blk_op 22 _ _ rfl rb (Cv.bytesV ke) _ 22 rfl (by rfl) hO (by rw [Cv.bytesV_size, HKL.out]; kernel_rfl) (by rw [Cv.bytesV_size, HKL.out]; rfl) (Cv.bytesV_one _) ?_
 intro Y hY hgY
 refine hK.out _ _ (Sp.Upd.trans hsva (Sp.Upd.of_grown1 hgY) (fun q hq => .inl hq)) ?_
 clear hK
 try go_frame
 refine RL.done (by kernel_rfl) (fun V hlV hsV => ?_)
 have HR := ϕ (show Rg.Blk V rb 22 (Cv.bytesV ke) from Rg.Blk.below hY hlV hY.lt)
 have HB := ϕ (below_upd HB.out hsV (fun k hk => by simp at hk; rw [hk]; exact HGR.out) HB.out.size)
 clear hO hY hgY hlva hsva hlV hsV
 go_wp2_with fail
 refine bodyPost_ret (v := .agg (Cv.bytesV ke))
  (results_cell_row Tryd.results6 _ _ rb 22 _ (0, 0) _ rfl HR.out Tryd.underlying22 rfl (by rw [Cv.bytesV_size, HKL.out]; kernel_rfl)) rfl ?_
 exact ⟨rfl, HB.out⟩
end Go.Proofs.YtfpcelmekfdafaaDoor.Kx
namespace Go.Proofs.YtfpcelmekfdafaaDoor.RL
open Go.RowKit
theorem wp_enter {P : Program} {o : Oper} {a : Act} {w : World} {K : Act → World → Prop} {Q : Exit → Act → World → Prop} {F : FuncId} {args : Array Value} (hv : (execOp a.eval o).run P w = .ok (.enter F args) w) (h : Calls P F args w fun e w' => ∃ v, e = .returned v ∧ K (a.put o.dst v) w') : o.wp P a w K Q := by
 unfold Oper.wp
 rw [hv]
 refine Calls.mono h ?_
 rintro e w' ⟨v, rfl, hk⟩
 exact hk
theorem wp_made {P : Program} {o : Oper} {a : Act} {w w' : World} {K : Act → World → Prop} {Q : Exit → Act → World → Prop} {v : Value} (hv : (execOp a.eval o).run P w = .ok (.value v) w') (h : K (a.put o.dst v) w') : o.wp P a w K Q := by
 unfold Oper.wp
 rw [hv]
 exact h
theorem rest_of {T : Nat → Nat → World → Prop} {G : Prop} (F : Nat → Nat → World → Prop) (h1 : (∀ b c W, F b c W → T b c W) → G) (h2 : ∀ b c W, F b c W → T b c W) : G := h1 h2
theorem norm {P : Program} {md : Region.Mode} {ops : Array Oper} {Q : Exit → Act → World → Prop} {S : World → Prop} {fuel : Nat} {listed : Array Bool} {a : Act} {w : World} (l' : Array Bool) (h : listed = l') (hh : H P md ops Q S w fuel l' a) : H P md ops Q S w fuel listed a := h ▸ hh
end Go.Proofs.YtfpcelmekfdafaaDoor.RL
namespace Go.Proofs.YtfpcelmekfdafaaDoor.Kx
open Go.RowKit Go.Proofs.YtfpcelmekfdafaaDoor.Cl Go.Proofs.YtfpcelmekfdafaaDoor.Ed Go.Proofs.YtfpcelmekfdafaaDoor.Rf
theorem Point_any (w : World) (l : List UInt8) (hl : l.length = 32) : Calls Tryd.prog 11 #[.agg (Cv.bytesV l)] w fun e w' => e = .returned (.bool (dec l).isSome) ∧ Below w.heap.size w w' := by
 obtain ⟨cd, ct, c1, c2, c3, c4, ecd, ect, hrq, cbeg⟩ := begin_e
 have CBE := ϕ cbeg
 obtain ⟨B0, hB0⟩ : ∃ R : E4, (⟨c1, c2, c3, c4⟩ : E4) = R := ⟨_, rfl⟩
 have hrB : Rq4 base B0 := hB0 ▸ hrq
 obtain ⟨R0, ok, hok, crd⟩ := read_q (cd := cd) (ct := ct) (c1 := c1) (c2 := c2) (c3 := c3) (c4 := c4) ecd l hl
 have HOK := ϕ (show (dec l).isSome = ok from by
  rcases hok with ⟨h1, p, h2, _⟩ | ⟨h1, h2⟩
  · rw [h1, h2]; rfl
  · rw [h1, h2]; rfl)
 have CRD := ϕ crd
 have HL := ϕ hl
 rw [HOK.out]
 clear hok crd hl ecd ect hrq cbeg hB0 hrB
 go_enter Tryd.func11, Tryd.ntmps11
 go_upto_region 1 with ((with_reducible refine gate_ ?_); refine Rg.box_fresh rfl 22 _ rfl (Cv.bytesV l) rfl ?_; intro X hX hbX hnX; have HX := ϕ hX; have HBX := ϕ hbX; clear hX hbX hnX)
 obtain ⟨sb, hsb⟩ : ∃ n, w.heap.size = n := ⟨_, rfl⟩
 have Hsb := ϕ (show Rg.Blk X sb 22 (Cv.bytesV l) from hsb ▸ HX.out)
 have HBX := ϕ (show Below w.heap.size w X from HBX.out)
 have HSB := ϕ hsb
 try rw [hsb]
 clear HX hsb
 refine RL.start (RL.Aft X) (by kernel_rfl) (RL.Aft.drew (RL.Aft.refl X)) ?_
 refine RL.tw 1 (v := .agg (Cv.bytesV l)) rfl (fun W hSW => RT.run_row 22 _ rfl _ rfl _ _ (aft_blk hSW Hsb.out) Tryd.underlying22 rfl (by rw [Cv.bytesV_size, HL.out]; kernel_rfl)) ?_
 try go_frame
 refine' RL.rest_of (T := ?TT) (fun cb ab W => RL.Aft X W ∧ Rg.Blk W cb 49 (u64s (els [cd, ct, c1, c2, c3, c4])) ∧ Rg.Blk W ab 43 q20 ∧ X.heap.size ≤ ab) ?hmain ?hrr
 case hmain =>
  intro hrest
  refine RL.step2 (i := 0) (j := 6) rfl rfl (by kernel_rfl) (by rfl) (by rfl) (fun y1 hly1 hsy1 K hK => ?_) (fun y1 hly1 hsy1 K hK => ?_)
  · refine RL.wp_enter (F := 12) (args := #[]) (by go_simp; try rfl) ?_
    refine (CBE.out y1).mono ?_
    rintro e y1x ⟨⟨cb, hcb, rfl, kcb⟩, hb⟩
    have hSy1x : RL.Aft X y1x := RL.Aft.lat hsy1 hb
    refine ⟨_, rfl, hK.out _ _ (RL.Aft.lat hsy1 hb) ?_⟩
    have kcb : Rg.Blk y1x cb 49 (u64s (els [cd, ct, c1, c2, c3, c4])) := kcb
    clear hK
    try go_frame
    refine RL.step2 (i := 2) (j := 6) rfl rfl (by kernel_rfl) (by rfl) (by rfl) (fun y2 hly2 hsy2 K hK => ?_) (fun y2 hly2 hsy2 K hK => ?_)
    · have kcb := kcb.below hly2 kcb.lt
      refine RL.wp_enter (F := 22) (args := #[.pointer (some ⟨cb, 0, none⟩), .agg (Cv.bytesV l)]) (by go_simp; try rfl) ?_
      refine (CRD.out cb y2 kcb).mono ?_
      rintro e y2x ⟨rfl, hb⟩
      have hSy2x : RL.Aft X y2x := RL.Aft.lat hsy2 hb
      have kcb := kcb.below hb kcb.lt
      refine ⟨_, rfl, hK.out _ _ (RL.Aft.lat hsy2 hb) ?_⟩
      clear hK
      try go_frame
      refine' RL.tv 3 ?hk15 ?_
      case hk15 => (intro W hSW; go_simp; try with_reducible rfl)
      try go_frame
      refine' RL.tv 4 ?hk16 ?_
      case hk16 => (intro W hSW; go_simp; try with_reducible rfl)
      try go_frame
      refine' RL.tv 5 ?hk17 ?_
      case hk17 => (intro W hSW; go_simp; try with_reducible rfl)
      try go_frame
      refine RL.sk 6 (fun y3 hly3 hsy3 K hK => ?_)
      have kcb := kcb.below hly3 kcb.lt
      refine RL.wp_made (v := .pointer (some ⟨y3.heap.size, 0, none⟩)) (w' := y3.alloc (.cells q20 43)) (by go_simp; try rfl) ?_
      obtain ⟨ab, hab⟩ : ∃ n, y3.heap.size = n := ⟨_, rfl⟩
      have hba : Below y3.heap.size y3 (y3.alloc (.cells q20 43)) := (Below.refl _ _).alloc (Nat.le_refl _) _
      have kab : Rg.Blk (y3.alloc (.cells q20 43)) ab 43 q20 := Rg.Blk.newAt hab.symm _ _
      have gab : X.heap.size ≤ ab := by rw [← hab]; exact (show RL.Aft X y3 from hsy3).size
      have kcb := kcb.below hba kcb.lt
      refine hK.out _ _ (RL.Aft.alloc hsy3 _) ?_
      try rw [hab]
      have hSy3y : RL.Aft X (y3.alloc (.cells q20 43)) := RL.Aft.alloc hsy3 _
      generalize hyy3 : y3.alloc (.cells q20 43) = y3y at *
      clear hab hba hyy3
      clear hK
      try go_frame
      refine RL.norm #[true, true, true, true, true, true, true, false, false] (by kernel_rfl) ?_
      exact hrest cb ab _ ⟨by assumption, kcb, kab, gab⟩
    · have kcb := kcb.below hly2 kcb.lt
      refine RL.wp_made (v := .pointer (some ⟨y2.heap.size, 0, none⟩)) (w' := y2.alloc (.cells q20 43)) (by go_simp; try rfl) ?_
      obtain ⟨ab, hab⟩ : ∃ n, y2.heap.size = n := ⟨_, rfl⟩
      have hba : Below y2.heap.size y2 (y2.alloc (.cells q20 43)) := (Below.refl _ _).alloc (Nat.le_refl _) _
      have kab : Rg.Blk (y2.alloc (.cells q20 43)) ab 43 q20 := Rg.Blk.newAt hab.symm _ _
      have gab : X.heap.size ≤ ab := by rw [← hab]; exact (show RL.Aft X y2 from hsy2).size
      have kcb := kcb.below hba kcb.lt
      refine hK.out _ _ (RL.Aft.alloc hsy2 _) ?_
      try rw [hab]
      have hSy2y : RL.Aft X (y2.alloc (.cells q20 43)) := RL.Aft.alloc hsy2 _
      generalize hyy2 : y2.alloc (.cells q20 43) = y2y at *
      clear hab hba hyy2
      clear hK
      try go_frame
      refine RL.sk 2 (fun y4 hly4 hsy4 K hK => ?_)
      have kcb := kcb.below hly4 kcb.lt
      have kab := kab.below hly4 kab.lt
      refine RL.wp_enter (F := 22) (args := #[.pointer (some ⟨cb, 0, none⟩), .agg (Cv.bytesV l)]) (by go_simp; try rfl) ?_
      refine (CRD.out cb y4 kcb).mono ?_
      rintro e y4x ⟨rfl, hb⟩
      have hSy4x : RL.Aft X y4x := RL.Aft.lat hsy4 hb
      have kcb := kcb.below hb kcb.lt
      have kab := kab.below hb kab.lt
      refine ⟨_, rfl, hK.out _ _ (RL.Aft.lat hsy4 hb) ?_⟩
      clear hK
      try go_frame
      refine' RL.tv 3 ?hk18 ?_
      case hk18 => (intro W hSW; go_simp; try with_reducible rfl)
      try go_frame
      refine' RL.tv 4 ?hk19 ?_
      case hk19 => (intro W hSW; go_simp; try with_reducible rfl)
      try go_frame
      refine' RL.tv 5 ?hk20 ?_
      case hk20 => (intro W hSW; go_simp; try with_reducible rfl)
      try go_frame
      refine RL.norm #[true, true, true, true, true, true, true, false, false] (by kernel_rfl) ?_
      exact hrest cb ab _ ⟨by assumption, kcb, kab, gab⟩
  · refine RL.wp_made (v := .pointer (some ⟨y1.heap.size, 0, none⟩)) (w' := y1.alloc (.cells q20 43)) (by go_simp; try rfl) ?_
    obtain ⟨ab, hab⟩ : ∃ n, y1.heap.size = n := ⟨_, rfl⟩
    have hba : Below y1.heap.size y1 (y1.alloc (.cells q20 43)) := (Below.refl _ _).alloc (Nat.le_refl _) _
    have kab : Rg.Blk (y1.alloc (.cells q20 43)) ab 43 q20 := Rg.Blk.newAt hab.symm _ _
    have gab : X.heap.size ≤ ab := by rw [← hab]; exact (show RL.Aft X y1 from hsy1).size
    refine hK.out _ _ (RL.Aft.alloc hsy1 _) ?_
    try rw [hab]
    have hSy1y : RL.Aft X (y1.alloc (.cells q20 43)) := RL.Aft.alloc hsy1 _
    generalize hyy1 : y1.alloc (.cells q20 43) = y1y at *
    clear hab hba hyy1
    clear hK
    try go_frame
    refine RL.sk 0 (fun y5 hly5 hsy5 K hK => ?_)
    have kab := kab.below hly5 kab.lt
    refine RL.wp_enter (F := 12) (args := #[]) (by go_simp; try rfl) ?_
    refine (CBE.out y5).mono ?_
    rintro e y5x ⟨⟨cb, hcb, rfl, kcb⟩, hb⟩
    have hSy5x : RL.Aft X y5x := RL.Aft.lat hsy5 hb
    have kab := kab.below hb kab.lt
    refine ⟨_, rfl, hK.out _ _ (RL.Aft.lat hsy5 hb) ?_⟩
    have kcb : Rg.Blk y5x cb 49 (u64s (els [cd, ct, c1, c2, c3, c4])) := kcb
    clear hK
    try go_frame
    refine RL.sk 2 (fun y6 hly6 hsy6 K hK => ?_)
    have kab := kab.below hly6 kab.lt
    have kcb := kcb.below hly6 kcb.lt
    refine RL.wp_enter (F := 22) (args := #[.pointer (some ⟨cb, 0, none⟩), .agg (Cv.bytesV l)]) (by go_simp; try rfl) ?_
    refine (CRD.out cb y6 kcb).mono ?_
    rintro e y6x ⟨rfl, hb⟩
    have hSy6x : RL.Aft X y6x := RL.Aft.lat hsy6 hb
    have kab := kab.below hb kab.lt
    have kcb := kcb.below hb kcb.lt
    refine ⟨_, rfl, hK.out _ _ (RL.Aft.lat hsy6 hb) ?_⟩
    clear hK
    try go_frame
    refine' RL.tv 3 ?hk21 ?_
    case hk21 => (intro W hSW; go_simp; try with_reducible rfl)
    try go_frame
    refine' RL.tv 4 ?hk22 ?_
    case hk22 => (intro W hSW; go_simp; try with_reducible rfl)
    try go_frame
    refine' RL.tv 5 ?hk23 ?_
    case hk23 => (intro W hSW; go_simp; try with_reducible rfl)
    try go_frame
    refine RL.norm #[true, true, true, true, true, true, true, false, false] (by kernel_rfl) ?_
    exact hrest cb ab _ ⟨by assumption, kcb, kab, gab⟩
 case hrr =>
  rintro cb ab Z0 ⟨ha0, -, g2, gab⟩
  refine RL.sk 7 (fun va hlva hsva K hK => ?_)
  have g2 := g2.below hlva g2.lt
  refine store_blk_op 43 _ _ rfl ab (u64s (els [R0.x, R0.y, R0.z, R0.t])) _ 43 rfl (by rfl) g2 (by kernel_rfl) rfl (els_all _) ?_
  intro Y hY hgY
  refine hK.out _ _ (Below.grown hsva hgY (Below.size hsva) (fun k hk => by cases hk; exact gab)) ?_
  clear hK
  try go_frame
  refine' RL.tv 8 ?hk24 ?_
  case hk24 => (intro W hSW; go_simp; try with_reducible rfl)
  try go_frame
  refine RL.done (by kernel_rfl) (fun V hlV hsV => ?_)
  have HB := ϕ (HBX.out.trans (Below.mono (show Below X.heap.size X V from hsV) HBX.out.size))
  go_wp2_with fail
  go_ret
  exact ⟨rfl, HSB.out ▸ HB.out⟩
theorem parts_blk {w : World} {T b : Nat} (xs : List ByteArray) (h : Rg.Blk w b T (xs.map Value.string).toArray) (n : Nat) (hn : n = xs.length) : Jo.Parts w (.slice (some ⟨b, 0, none⟩) n n) xs := by
 subst hn
 exact .inr ⟨b, 0, xs.length, rfl, fun j x hx => by rw [Nat.zero_add]; exact h.cell j (by simp [hx]), h.lt, Nat.le_refl _⟩
/-- copy of bytes into a row of bytes -/
theorem copy_op {P : Program} {o : Oper} {a : Act} {w : World} {K : Act → World → Prop} {Q : Exit → Act → World → Prop} (d s : Operand) (t t' e : TypeId) (ho : o.op = .call { callee := .builtin .copy, args := #[d, s], argTypes := #[t, t'] })
 {b off dl dc g so sl sc T : Nat} {l src : List UInt8} (hd : a.eval d = .slice (some ⟨b, off, none⟩) dl dc) (hs : a.eval s = .slice (some ⟨g, so, none⟩) sl sc) (hu : P.underlying t = some (.slice e)) (hz : (P.info? e).map (·.size) = some 1)
 (hB : Rg.Blk w b T (Cv.bytesV l)) (hS : Cv.Bytes w g so src) (hn : src.length = Nat.min sl dl) (hf : off + src.length ≤ l.length)
 (h : ∀ X v, Rg.Blk X b T (Cv.bytesV (l.take off ++ src ++ l.drop (off + src.length))) → w.grownBy X (some b) → K (a.put o.dst v) X) : Oper.wp P o a w K Q := by
 have hl : (Lib.byteCells src).length = src.length := by simp [Lib.byteCells]
 have hr := run_copy_row (P := P) w t t' o.type e b off dl dc ⟨g, so, none⟩ sl sc (Cv.bytesV l) T (Lib.byteCells src) hu hz hB (hl.trans hn) (fun j v hv => by
  have hv2 : (Cv.bytesV src)[j]? = some v := by unfold Cv.bytesV; rw [List.getElem?_toArray]; exact hv
  have h3 := hS.cells j v hv2
  have e3 : Addr.add ⟨g, so, none⟩ j = ⟨g, so + j, none⟩ := by unfold Addr.add; split <;> simp_all
  rw [e3]; exact h3) (by rw [hl, Cv.bytesV_size]; exact hf) (by intro v hv; simp [Lib.byteCells] at hv; obtain ⟨x, _, rfl⟩ := hv; rfl)
 have e1 : ((Cv.bytesV l).toList.take off ++ Lib.byteCells src ++ (Cv.bytesV l).toList.drop (off + (Lib.byteCells src).length)).toArray = Cv.bytesV (l.take off ++ src ++ l.drop (off + src.length)) := by
  rw [hl]
  unfold Cv.bytesV
  simp [Lib.byteCells, List.map_take, List.map_drop]
 rw [e1] at hr
 refine Lib.wp_copy_run w d s t t' ho _ _ hd hs hr ?_
 exact h _ _ hB.setRow ⟨rfl, rfl, rfl, by simp, fun k _ hk => setRow_other w b k _ (fun e => hk (congrArg some e))⟩
theorem cb_ne_tb {W : World} {b T1 T2 : Nat} {c1 c2 : Array Value} (h1 : Rg.Blk W b T1 c1) (h2 : Rg.Blk W b T2 c2) (hT : T1 ≠ T2 := by decide) : False := by
 have := h1.symm.trans h2
 injection this with this
 injection this with _ this
 exact hT this
theorem muln_s {k a r : Nat} {ab : List UInt8} (hk : k < Ed.L) (hr : r < Ed.L) (ha : leN ab = a) : mulN (toLe 32 k) ab (toLe 32 r) % Ed.L = (k * a + r) % Ed.L := by
 unfold mulN
 rw [leN_l hk, leN_l hr, ha, Nat.mul_comm a, Nat.add_comm]
theorem Sign_any (w : World) (seed m : List UInt8) (hl : seed.length = 32) (hm : m.length ≤ 10000) (hT : Sha.Tables w) (hO : Ord w) : Calls Tryd.prog 7 #[.agg (Cv.bytesV seed), .string (bs m)] w fun e w' => e = .returned (.agg (Cv.bytesV (sig seed (pub seed) m))) ∧ Below w.heap.size w w' := by
 obtain ⟨cd, ct, c1, c2, c3, c4, ecd, ect, hrq, cbeg⟩ := begin_e
 have CBE := ϕ cbeg
 obtain ⟨B0, hB0⟩ : ∃ R : E4, (⟨c1, c2, c3, c4⟩ : E4) = R := ⟨_, rfl⟩
 have hrB : Rq4 base B0 := hB0 ▸ hrq
 have hop := fun W (hW : Sha.Tables W) => open_any W seed hl hW
 obtain ⟨sa, hsa⟩ : ∃ s, secA (dig5 seed) = s := ⟨_, rfl⟩
 obtain ⟨pf, hpf⟩ : ∃ s, (dig5 seed).drop 32 = s := ⟨_, rfl⟩
 have hsl : sa.length = 32 := by rw [← hsa]; exact clampB_l _ (dig5_len _)
 have hpl : pf.length = 32 := by rw [← hpf, List.length_drop, dig5_len]
 have han : leN sa = aN seed := by rw [← hsa]; rfl
 obtain ⟨ke, hke⟩ : ∃ s, pub seed = s := ⟨_, rfl⟩
 have hkp : pub seed = enc (Pt.mul (leN sa) base) := by rw [← hsa]; rfl
 rw [hsa, hpf] at hop
 obtain ⟨rr, hrr⟩ : ∃ s, toLe 32 (rN seed m) = s := ⟨_, rfl⟩
 have hrl : rr.length = 32 := by rw [← hrr, toLe_len]
 have hrn : rN seed m < Ed.L := red_lt _
 obtain ⟨rp, hat⟩ : ∃ s, enc (rP seed m) = s := ⟨_, rfl⟩
 have hatl : rp.length = 32 := by rw [← hat]; exact enc_len _
 have hkl : ke.length = 32 := by rw [← hke, hkp]; exact enc_len _
 obtain ⟨kk, hkk⟩ : ∃ s, toLe 32 (red (rp ++ ke ++ m)) = s := ⟨_, rfl⟩
 have hkkl : kk.length = 32 := by rw [← hkk, toLe_len]
 obtain ⟨ss, hss⟩ : ∃ s, toLe 32 (sN seed ke m) = s := ⟨_, rfl⟩
 have hssl : ss.length = 32 := by rw [← hss, toLe_len]
 have hms : toLe 32 (mulN kk sa rr % Ed.L) = ss := by
  rw [← hkk, ← hrr, muln_s (red_lt _) hrn han, ← hss]
  unfold sN
  rw [hat]
 obtain ⟨R1, hR1, cm1⟩ := mult_q (cd := cd) (ct := ct) (c1 := c1) (c2 := c2) (c3 := c3) (c4 := c4) ect hrB sa hsl
 have cb1 := bytes_q hR1
 rw [← hkp, hke] at cb1
 obtain ⟨R2, hR2, cm2⟩ := mult_q (cd := cd) (ct := ct) (c1 := c1) (c2 := c2) (c3 := c3) (c4 := c4) ect hrB rr hrl
 have cb2 := bytes_q hR2
 rw [← hrr, leN_l hrn, show enc (Pt.mul (rN seed m) base) = enc (rP seed m) from rfl, hat] at cb2
 have HRES := ϕ (show sig seed ke m = rp ++ ss from by unfold sig; rw [hat, hss])
 have HR1 := ϕ (fun W v (hT : Sha.Tables W) (hO : Ord W) (hv : Jo.Parts W v [bs pf, bs m]) => show Calls Tryd.prog 16 #[v] W fun e w' => e = .returned (.agg (Cv.bytesV rr)) ∧ Below W.heap.size W w' from by
  have h := reduce_l W v _ (pf ++ m) (by rw [Jo.joined_list]; simp [bs_list]) (by rw [List.length_append]; omega) (by simp) hT hO hv
  rw [← hrr]
  unfold rN
  rw [hpf]
  exact h)
 have HR2 := ϕ (fun W v (hT : Sha.Tables W) (hO : Ord W) (hv : Jo.Parts W v [⟨rp.toArray⟩, ⟨ke.toArray⟩, bs m]) => show Calls Tryd.prog 16 #[v] W fun e w' => e = .returned (.agg (Cv.bytesV kk)) ∧ Below W.heap.size W w' from by
  have h := reduce_l W v _ (rp ++ ke ++ m) (by rw [Jo.joined_list]; simp [bs_list]) (by rw [List.length_append, List.length_append]; omega) (by simp) hT hO hv
  rw [← hkk]
  exact h)
 have CMA := ϕ (fun W (hO : Ord W) => show Calls Tryd.prog 17 #[.agg (Cv.bytesV kk), .agg (Cv.bytesV sa), .agg (Cv.bytesV rr)] W fun e w' => e = .returned (.agg (Cv.bytesV ss)) ∧ Below W.heap.size W w' from hms ▸ MulAdd_any W kk sa rr hkkl hsl hrl hO)
 have HOP := ϕ hop
 have CM1 := ϕ (hB0 ▸ cm1)
 have CB1 := ϕ cb1
 have CM2 := ϕ (hB0 ▸ cm2)
 have CB2 := ϕ cb2
 have HSL := ϕ hsl
 have HKL := ϕ hkl
 have HRL := ϕ hrl
 have HAL := ϕ hatl
 have HSS := ϕ hssl
 have HGL := ϕ (show (rp ++ ss).length = 64 from by rw [List.length_append]; omega)
 have EQ1 := ϕ (show (List.replicate 64 (0 : UInt8)).take 0 ++ rp ++ (List.replicate 64 (0 : UInt8)).drop (0 + rp.length) = rp ++ List.replicate 32 0 from by rw [hatl]; simp)
 have EQ2 := ϕ (show (rp ++ List.replicate 32 (0 : UInt8)).take 32 ++ ss ++ (rp ++ List.replicate 32 (0 : UInt8)).drop (32 + ss.length) = rp ++ ss from by
  rw [List.take_append_of_le_length (by omega), List.take_of_length_le (by omega), List.drop_eq_nil_of_le (by simp; omega), List.append_nil])
 have HL := ϕ hl
 have HT := ϕ hT
 have HO := ϕ hO
 rw [hke]
 clear hop hsa hpf hsl hpl han hke hkp hR1 cm1 cb1 hR2 cm2 cb2 hrr hrl hrn hat hatl hkl hkk hkkl hss hssl hms hl hm hT hO ecd ect hrq cbeg hB0 hrB
 go_enter Tryd.func7, Tryd.ntmps7
 go_upto_region 1 with ((with_reducible refine gate_ ?_); refine Rg.box_fresh rfl 22 _ rfl (Cv.bytesV seed) rfl ?_; intro X hX hbX hnX; have HX := ϕ hX; have HBX := ϕ hbX; clear hX hbX hnX)
 obtain ⟨sb, hsb⟩ : ∃ n, w.heap.size = n := ⟨_, rfl⟩
 obtain ⟨rb, hrb⟩ : ∃ n, X.heap.size = n := ⟨_, rfl⟩
 have GR := ϕ (show w.heap.size ≤ rb from hrb ▸ HBX.out.size)
 have Hsb := ϕ (show Rg.Blk (X.alloc (.cells #[.int .u8 0, .int .u8 0, .int .u8 0, .int .u8 0, .int .u8 0, .int .u8 0, .int .u8 0, .int .u8 0, .int .u8 0, .int .u8 0, .int .u8 0, .int .u8 0, .int .u8 0, .int .u8 0, .int .u8 0, .int .u8 0, .int .u8 0, .int .u8 0, .int .u8 0, .int .u8 0, .int .u8 0, .int .u8 0, .int .u8 0, .int .u8 0, .int .u8 0, .int .u8 0, .int .u8 0, .int .u8 0, .int .u8 0, .int .u8 0, .int .u8 0, .int .u8 0, .int .u8 0, .int .u8 0, .int .u8 0, .int .u8 0, .int .u8 0, .int .u8 0, .int .u8 0, .int .u8 0, .int .u8 0, .int .u8 0, .int .u8 0, .int .u8 0, .int .u8 0, .int .u8 0, .int .u8 0, .int .u8 0, .int .u8 0, .int .u8 0, .int .u8 0, .int .u8 0, .int .u8 0, .int .u8 0, .int .u8 0, .int .u8 0, .int .u8 0, .int .u8 0, .int .u8 0, .int .u8 0, .int .u8 0, .int .u8 0, .int .u8 0, .int .u8 0] 26)) sb 22 (Cv.bytesV seed) from (hsb ▸ HX.out).alloc _)
 have Hrb := ϕ (show Rg.Blk (X.alloc (.cells #[.int .u8 0, .int .u8 0, .int .u8 0, .int .u8 0, .int .u8 0, .int .u8 0, .int .u8 0, .int .u8 0, .int .u8 0, .int .u8 0, .int .u8 0, .int .u8 0, .int .u8 0, .int .u8 0, .int .u8 0, .int .u8 0, .int .u8 0, .int .u8 0, .int .u8 0, .int .u8 0, .int .u8 0, .int .u8 0, .int .u8 0, .int .u8 0, .int .u8 0, .int .u8 0, .int .u8 0, .int .u8 0, .int .u8 0, .int .u8 0, .int .u8 0, .int .u8 0, .int .u8 0, .int .u8 0, .int .u8 0, .int .u8 0, .int .u8 0, .int .u8 0, .int .u8 0, .int .u8 0, .int .u8 0, .int .u8 0, .int .u8 0, .int .u8 0, .int .u8 0, .int .u8 0, .int .u8 0, .int .u8 0, .int .u8 0, .int .u8 0, .int .u8 0, .int .u8 0, .int .u8 0, .int .u8 0, .int .u8 0, .int .u8 0, .int .u8 0, .int .u8 0, .int .u8 0, .int .u8 0, .int .u8 0, .int .u8 0, .int .u8 0, .int .u8 0] 26)) rb 26 (#[.int .u8 0, .int .u8 0, .int .u8 0, .int .u8 0, .int .u8 0, .int .u8 0, .int .u8 0, .int .u8 0, .int .u8 0, .int .u8 0, .int .u8 0, .int .u8 0, .int .u8 0, .int .u8 0, .int .u8 0, .int .u8 0, .int .u8 0, .int .u8 0, .int .u8 0, .int .u8 0, .int .u8 0, .int .u8 0, .int .u8 0, .int .u8 0, .int .u8 0, .int .u8 0, .int .u8 0, .int .u8 0, .int .u8 0, .int .u8 0, .int .u8 0, .int .u8 0, .int .u8 0, .int .u8 0, .int .u8 0, .int .u8 0, .int .u8 0, .int .u8 0, .int .u8 0, .int .u8 0, .int .u8 0, .int .u8 0, .int .u8 0, .int .u8 0, .int .u8 0, .int .u8 0, .int .u8 0, .int .u8 0, .int .u8 0, .int .u8 0, .int .u8 0, .int .u8 0, .int .u8 0, .int .u8 0, .int .u8 0, .int .u8 0, .int .u8 0, .int .u8 0, .int .u8 0, .int .u8 0, .int .u8 0, .int .u8 0, .int .u8 0, .int .u8 0] : Array Value) from Rg.Blk.newAt hrb.symm _ _)
 have HB := ϕ (show Below w.heap.size w (X.alloc (.cells #[.int .u8 0, .int .u8 0, .int .u8 0, .int .u8 0, .int .u8 0, .int .u8 0, .int .u8 0, .int .u8 0, .int .u8 0, .int .u8 0, .int .u8 0, .int .u8 0, .int .u8 0, .int .u8 0, .int .u8 0, .int .u8 0, .int .u8 0, .int .u8 0, .int .u8 0, .int .u8 0, .int .u8 0, .int .u8 0, .int .u8 0, .int .u8 0, .int .u8 0, .int .u8 0, .int .u8 0, .int .u8 0, .int .u8 0, .int .u8 0, .int .u8 0, .int .u8 0, .int .u8 0, .int .u8 0, .int .u8 0, .int .u8 0, .int .u8 0, .int .u8 0, .int .u8 0, .int .u8 0, .int .u8 0, .int .u8 0, .int .u8 0, .int .u8 0, .int .u8 0, .int .u8 0, .int .u8 0, .int .u8 0, .int .u8 0, .int .u8 0, .int .u8 0, .int .u8 0, .int .u8 0, .int .u8 0, .int .u8 0, .int .u8 0, .int .u8 0, .int .u8 0, .int .u8 0, .int .u8 0, .int .u8 0, .int .u8 0, .int .u8 0, .int .u8 0] 26)) from HBX.out.alloc HBX.out.size _)
 have HT := ϕ (HT.out.below HB.out HT.out.size)
 have HO := ϕ (HO.out.below HB.out HO.out.size)
 try rw [hsb]
 try rw [hrb]
 clear HX HBX hsb hrb
 generalize (X.alloc (.cells #[.int .u8 0, .int .u8 0, .int .u8 0, .int .u8 0, .int .u8 0, .int .u8 0, .int .u8 0, .int .u8 0, .int .u8 0, .int .u8 0, .int .u8 0, .int .u8 0, .int .u8 0, .int .u8 0, .int .u8 0, .int .u8 0, .int .u8 0, .int .u8 0, .int .u8 0, .int .u8 0, .int .u8 0, .int .u8 0, .int .u8 0, .int .u8 0, .int .u8 0, .int .u8 0, .int .u8 0, .int .u8 0, .int .u8 0, .int .u8 0, .int .u8 0, .int .u8 0, .int .u8 0, .int .u8 0, .int .u8 0, .int .u8 0, .int .u8 0, .int .u8 0, .int .u8 0, .int .u8 0, .int .u8 0, .int .u8 0, .int .u8 0, .int .u8 0, .int .u8 0, .int .u8 0, .int .u8 0, .int .u8 0, .int .u8 0, .int .u8 0, .int .u8 0, .int .u8 0, .int .u8 0, .int .u8 0, .int .u8 0, .int .u8 0, .int .u8 0, .int .u8 0, .int .u8 0, .int .u8 0, .int .u8 0, .int .u8 0, .int .u8 0, .int .u8 0] 26)) = Y at *
 refine RL.start (RL.Aft Y) (by kernel_rfl) (RL.Aft.drew (RL.Aft.refl Y)) ?_
 refine RL.tw 1 (v := .agg (Cv.bytesV seed)) rfl (fun W hSW => RT.run_row 22 _ rfl _ rfl _ _ (aft_blk hSW Hsb.out) Tryd.underlying22 rfl (by rw [Cv.bytesV_size, HL.out]; kernel_rfl)) ?_
 try go_frame
 refine' RL.rest_of (T := ?TTq7) (fun cb tb W => RL.Aft Y W ∧ Rg.Blk W cb 49 (u64s (els [cd, ct, c1, c2, c3, c4])) ∧ Rg.Blk W tb 46 (#[.int .u8 0, .int .u8 0, .int .u8 0, .int .u8 0, .int .u8 0, .int .u8 0, .int .u8 0, .int .u8 0, .int .u8 0, .int .u8 0, .int .u8 0, .int .u8 0, .int .u8 0, .int .u8 0, .int .u8 0, .int .u8 0, .int .u8 0, .int .u8 0, .int .u8 0, .int .u8 0, .int .u8 0, .int .u8 0, .int .u8 0, .int .u8 0, .int .u8 0, .int .u8 0, .int .u8 0, .int .u8 0, .int .u8 0, .int .u8 0, .int .u8 0, .int .u8 0, .string ⟨#[]⟩] : Array Value) ∧ Y.heap.size ≤ tb) ?hmainq7 ?hrrq7
 case hmainq7 =>
  intro hrest
  refine RL.step2 (i := 0) (j := 3) rfl rfl (by kernel_rfl) (by rfl) (by rfl) (fun y8 hly8 hsy8 K hK => ?_) (fun y8 hly8 hsy8 K hK => ?_)
  · refine RL.wp_enter (F := 12) (args := #[]) (by go_simp; try rfl) ?_
    refine (CBE.out y8).mono ?_
    rintro e y8x ⟨⟨cb, hcb, rfl, kcb⟩, hb⟩
    have hSy8x : RL.Aft Y y8x := RL.Aft.lat hsy8 hb
    refine ⟨_, rfl, hK.out _ _ (RL.Aft.lat hsy8 hb) ?_⟩
    have kcb : Rg.Blk y8x cb 49 (u64s (els [cd, ct, c1, c2, c3, c4])) := kcb
    clear hK
    try go_frame
    refine' RL.tc 2 (v := (.agg (secV sa pf))) 14 #[.agg (Cv.bytesV seed)] ?hk25 ?hc25 ?_
    case hk25 => (intro W; go_simp; try with_reducible rfl)
    case hc25 => (intro W hSW; exact (HOP.out W (HT.out.below hSW HT.out.size)).mono (fun e w9 h9 => ⟨h9.1, h9.2, RL.Aft.lat hSW h9.2⟩))
    try go_frame
    refine RL.sk 3 (fun y9 hly9 hsy9 K hK => ?_)
    have kcb := kcb.below hly9 kcb.lt
    refine RL.wp_made (v := .pointer (some ⟨y9.heap.size, 0, none⟩)) (w' := y9.alloc (.cells #[.int .u8 0, .int .u8 0, .int .u8 0, .int .u8 0, .int .u8 0, .int .u8 0, .int .u8 0, .int .u8 0, .int .u8 0, .int .u8 0, .int .u8 0, .int .u8 0, .int .u8 0, .int .u8 0, .int .u8 0, .int .u8 0, .int .u8 0, .int .u8 0, .int .u8 0, .int .u8 0, .int .u8 0, .int .u8 0, .int .u8 0, .int .u8 0, .int .u8 0, .int .u8 0, .int .u8 0, .int .u8 0, .int .u8 0, .int .u8 0, .int .u8 0, .int .u8 0, .string ⟨#[]⟩] 46)) (by go_simp; try rfl) ?_
    obtain ⟨tb, htb⟩ : ∃ n, y9.heap.size = n := ⟨_, rfl⟩
    have hba : Below y9.heap.size y9 (y9.alloc (.cells #[.int .u8 0, .int .u8 0, .int .u8 0, .int .u8 0, .int .u8 0, .int .u8 0, .int .u8 0, .int .u8 0, .int .u8 0, .int .u8 0, .int .u8 0, .int .u8 0, .int .u8 0, .int .u8 0, .int .u8 0, .int .u8 0, .int .u8 0, .int .u8 0, .int .u8 0, .int .u8 0, .int .u8 0, .int .u8 0, .int .u8 0, .int .u8 0, .int .u8 0, .int .u8 0, .int .u8 0, .int .u8 0, .int .u8 0, .int .u8 0, .int .u8 0, .int .u8 0, .string ⟨#[]⟩] 46)) := (Below.refl _ _).alloc (Nat.le_refl _) _
    have ktb : Rg.Blk (y9.alloc (.cells #[.int .u8 0, .int .u8 0, .int .u8 0, .int .u8 0, .int .u8 0, .int .u8 0, .int .u8 0, .int .u8 0, .int .u8 0, .int .u8 0, .int .u8 0, .int .u8 0, .int .u8 0, .int .u8 0, .int .u8 0, .int .u8 0, .int .u8 0, .int .u8 0, .int .u8 0, .int .u8 0, .int .u8 0, .int .u8 0, .int .u8 0, .int .u8 0, .int .u8 0, .int .u8 0, .int .u8 0, .int .u8 0, .int .u8 0, .int .u8 0, .int .u8 0, .int .u8 0, .string ⟨#[]⟩] 46)) tb 46 #[.int .u8 0, .int .u8 0, .int .u8 0, .int .u8 0, .int .u8 0, .int .u8 0, .int .u8 0, .int .u8 0, .int .u8 0, .int .u8 0, .int .u8 0, .int .u8 0, .int .u8 0, .int .u8 0, .int .u8 0, .int .u8 0, .int .u8 0, .int .u8 0, .int .u8 0, .int .u8 0, .int .u8 0, .int .u8 0, .int .u8 0, .int .u8 0, .int .u8 0, .int .u8 0, .int .u8 0, .int .u8 0, .int .u8 0, .int .u8 0, .int .u8 0, .int .u8 0, .string ⟨#[]⟩] := Rg.Blk.newAt htb.symm _ _
    have gtb : Y.heap.size ≤ tb := by rw [← htb]; exact (show RL.Aft Y y9 from hsy9).size
    have kcb := kcb.below hba kcb.lt
    refine hK.out _ _ (RL.Aft.alloc hsy9 _) ?_
    try rw [htb]
    have hSy9y : RL.Aft Y (y9.alloc (.cells #[.int .u8 0, .int .u8 0, .int .u8 0, .int .u8 0, .int .u8 0, .int .u8 0, .int .u8 0, .int .u8 0, .int .u8 0, .int .u8 0, .int .u8 0, .int .u8 0, .int .u8 0, .int .u8 0, .int .u8 0, .int .u8 0, .int .u8 0, .int .u8 0, .int .u8 0, .int .u8 0, .int .u8 0, .int .u8 0, .int .u8 0, .int .u8 0, .int .u8 0, .int .u8 0, .int .u8 0, .int .u8 0, .int .u8 0, .int .u8 0, .int .u8 0, .int .u8 0, .string ⟨#[]⟩] 46)) := RL.Aft.alloc hsy9 _
    generalize hyy9 : y9.alloc (.cells #[.int .u8 0, .int .u8 0, .int .u8 0, .int .u8 0, .int .u8 0, .int .u8 0, .int .u8 0, .int .u8 0, .int .u8 0, .int .u8 0, .int .u8 0, .int .u8 0, .int .u8 0, .int .u8 0, .int .u8 0, .int .u8 0, .int .u8 0, .int .u8 0, .int .u8 0, .int .u8 0, .int .u8 0, .int .u8 0, .int .u8 0, .int .u8 0, .int .u8 0, .int .u8 0, .int .u8 0, .int .u8 0, .int .u8 0, .int .u8 0, .int .u8 0, .int .u8 0, .string ⟨#[]⟩] 46) = y9y at *
    clear htb hba hyy9
    clear hK
    try go_frame
    refine RL.norm #[true, true, true, true, false, false] (by kernel_rfl) ?_
    exact hrest cb tb _ ⟨by assumption, kcb, ktb, gtb⟩
  · refine RL.wp_made (v := .pointer (some ⟨y8.heap.size, 0, none⟩)) (w' := y8.alloc (.cells #[.int .u8 0, .int .u8 0, .int .u8 0, .int .u8 0, .int .u8 0, .int .u8 0, .int .u8 0, .int .u8 0, .int .u8 0, .int .u8 0, .int .u8 0, .int .u8 0, .int .u8 0, .int .u8 0, .int .u8 0, .int .u8 0, .int .u8 0, .int .u8 0, .int .u8 0, .int .u8 0, .int .u8 0, .int .u8 0, .int .u8 0, .int .u8 0, .int .u8 0, .int .u8 0, .int .u8 0, .int .u8 0, .int .u8 0, .int .u8 0, .int .u8 0, .int .u8 0, .string ⟨#[]⟩] 46)) (by go_simp; try rfl) ?_
    obtain ⟨tb, htb⟩ : ∃ n, y8.heap.size = n := ⟨_, rfl⟩
    have hba : Below y8.heap.size y8 (y8.alloc (.cells #[.int .u8 0, .int .u8 0, .int .u8 0, .int .u8 0, .int .u8 0, .int .u8 0, .int .u8 0, .int .u8 0, .int .u8 0, .int .u8 0, .int .u8 0, .int .u8 0, .int .u8 0, .int .u8 0, .int .u8 0, .int .u8 0, .int .u8 0, .int .u8 0, .int .u8 0, .int .u8 0, .int .u8 0, .int .u8 0, .int .u8 0, .int .u8 0, .int .u8 0, .int .u8 0, .int .u8 0, .int .u8 0, .int .u8 0, .int .u8 0, .int .u8 0, .int .u8 0, .string ⟨#[]⟩] 46)) := (Below.refl _ _).alloc (Nat.le_refl _) _
    have ktb : Rg.Blk (y8.alloc (.cells #[.int .u8 0, .int .u8 0, .int .u8 0, .int .u8 0, .int .u8 0, .int .u8 0, .int .u8 0, .int .u8 0, .int .u8 0, .int .u8 0, .int .u8 0, .int .u8 0, .int .u8 0, .int .u8 0, .int .u8 0, .int .u8 0, .int .u8 0, .int .u8 0, .int .u8 0, .int .u8 0, .int .u8 0, .int .u8 0, .int .u8 0, .int .u8 0, .int .u8 0, .int .u8 0, .int .u8 0, .int .u8 0, .int .u8 0, .int .u8 0, .int .u8 0, .int .u8 0, .string ⟨#[]⟩] 46)) tb 46 #[.int .u8 0, .int .u8 0, .int .u8 0, .int .u8 0, .int .u8 0, .int .u8 0, .int .u8 0, .int .u8 0, .int .u8 0, .int .u8 0, .int .u8 0, .int .u8 0, .int .u8 0, .int .u8 0, .int .u8 0, .int .u8 0, .int .u8 0, .int .u8 0, .int .u8 0, .int .u8 0, .int .u8 0, .int .u8 0, .int .u8 0, .int .u8 0, .int .u8 0, .int .u8 0, .int .u8 0, .int .u8 0, .int .u8 0, .int .u8 0, .int .u8 0, .int .u8 0, .string ⟨#[]⟩] := Rg.Blk.newAt htb.symm _ _
    have gtb : Y.heap.size ≤ tb := by rw [← htb]; exact (show RL.Aft Y y8 from hsy8).size
    refine hK.out _ _ (RL.Aft.alloc hsy8 _) ?_
    try rw [htb]
    have hSy8y : RL.Aft Y (y8.alloc (.cells #[.int .u8 0, .int .u8 0, .int .u8 0, .int .u8 0, .int .u8 0, .int .u8 0, .int .u8 0, .int .u8 0, .int .u8 0, .int .u8 0, .int .u8 0, .int .u8 0, .int .u8 0, .int .u8 0, .int .u8 0, .int .u8 0, .int .u8 0, .int .u8 0, .int .u8 0, .int .u8 0, .int .u8 0, .int .u8 0, .int .u8 0, .int .u8 0, .int .u8 0, .int .u8 0, .int .u8 0, .int .u8 0, .int .u8 0, .int .u8 0, .int .u8 0, .int .u8 0, .string ⟨#[]⟩] 46)) := RL.Aft.alloc hsy8 _
    generalize hyy8 : y8.alloc (.cells #[.int .u8 0, .int .u8 0, .int .u8 0, .int .u8 0, .int .u8 0, .int .u8 0, .int .u8 0, .int .u8 0, .int .u8 0, .int .u8 0, .int .u8 0, .int .u8 0, .int .u8 0, .int .u8 0, .int .u8 0, .int .u8 0, .int .u8 0, .int .u8 0, .int .u8 0, .int .u8 0, .int .u8 0, .int .u8 0, .int .u8 0, .int .u8 0, .int .u8 0, .int .u8 0, .int .u8 0, .int .u8 0, .int .u8 0, .int .u8 0, .int .u8 0, .int .u8 0, .string ⟨#[]⟩] 46) = y8y at *
    clear htb hba hyy8
    clear hK
    try go_frame
    refine RL.sk 0 (fun y10 hly10 hsy10 K hK => ?_)
    have ktb := ktb.below hly10 ktb.lt
    refine RL.wp_enter (F := 12) (args := #[]) (by go_simp; try rfl) ?_
    refine (CBE.out y10).mono ?_
    rintro e y10x ⟨⟨cb, hcb, rfl, kcb⟩, hb⟩
    have hSy10x : RL.Aft Y y10x := RL.Aft.lat hsy10 hb
    have ktb := ktb.below hb ktb.lt
    refine ⟨_, rfl, hK.out _ _ (RL.Aft.lat hsy10 hb) ?_⟩
    have kcb : Rg.Blk y10x cb 49 (u64s (els [cd, ct, c1, c2, c3, c4])) := kcb
    clear hK
    try go_frame
    refine' RL.tc 2 (v := (.agg (secV sa pf))) 14 #[.agg (Cv.bytesV seed)] ?hk26 ?hc26 ?_
    case hk26 => (intro W; go_simp; try with_reducible rfl)
    case hc26 => (intro W hSW; exact (HOP.out W (HT.out.below hSW HT.out.size)).mono (fun e w9 h9 => ⟨h9.1, h9.2, RL.Aft.lat hSW h9.2⟩))
    try go_frame
    refine RL.norm #[true, true, true, true, false, false] (by kernel_rfl) ?_
    exact hrest cb tb _ ⟨by assumption, kcb, ktb, gtb⟩
 case hrrq7 =>
  rintro cb tb Z0 ⟨ha0, kcb, hZ, gtb⟩
  have Ftb := ϕ gtb
  refine' RL.tv 4 ?hk27 ?_
  case hk27 => (intro W hSW; go_simp; try with_reducible rfl)
  try go_frame
  refine RL.sk 5 (fun va hlva hsva K hK => ?_)
  have hZ := hZ.below hlva hZ.lt
  have kcb := kcb.below hlva kcb.lt
  refine store_blk_op 46 _ _ rfl tb (secV sa pf) _ 46 rfl (by rfl) hZ (by rw [secV_size, HSL.out]; kernel_rfl) (by rw [secV_size, HSL.out]; rfl) (secV_one _ _) ?_
  intro Y9 hY hgY
  have kcb := blk_other kcb hgY (fun e => by subst e; exact cb_ne_tb kcb hZ)
  refine hK.out _ _ (Below.grown hsva hgY (Below.size hsva) (fun k hk => by cases hk; exact Ftb.out)) ?_
  clear hK
  try go_frame
  refine RL.done (by kernel_rfl) (fun Z1 hlZ1 hsZ1 => ?_)
  have Htb := ϕ (show Rg.Blk Z1 tb 46 (secV sa pf) from hY.below hlZ1 hY.lt)
  have Hcb := ϕ (show Rg.Blk Z1 cb 49 (u64s (els [cd, ct, c1, c2, c3, c4])) from kcb.below hlZ1 kcb.lt)
  clear hZ hY hgY hlva hsva kcb ha0 gtb Ftb
  have HA := ϕ (show RL.Aft Y Z1 from hsZ1)
  have Hrb := ϕ (aft_blk HA.out Hrb.out)
  have HT := ϕ (HT.out.below HA.out HT.out.size)
  have HO := ϕ (HO.out.below HA.out HO.out.size)
  have HB := ϕ (HB.out.trans (Below.mono HA.out HB.out.size))
  clear HA hsZ1 hlZ1 Hsb
  go_upto_region 2 with fail
  refine RL.start (RL.Aft Z1) (by kernel_rfl) (RL.Aft.drew (RL.Aft.refl Z1)) ?_
  refine' RL.tv 0 ?hk28 ?_
  case hk28 => (intro W hSW; go_simp; try with_reducible rfl)
  try go_frame
  refine' RL.tv 1 ?hk29 ?_
  case hk29 => (intro W hSW; go_simp; try with_reducible rfl)
  try go_frame
  refine RL.tw 2 (v := .agg (Cv.bytesV sa)) rfl (fun W hSW => run_at 22 _ rfl tb 0 rfl (Cv.bytesV sa) (fun j v hv => by rw [Nat.zero_add]; exact (aft_blk hSW Htb.out).cell j (secV_get hv)) Tryd.underlying22 rfl (by rw [Cv.bytesV_size, HSL.out]; kernel_rfl)) ?_
  try go_frame
  refine' RL.tv 3 ?hk30 ?_
  case hk30 => (intro W hSW; go_simp; try with_reducible rfl)
  try go_frame
  refine' RL.tv 4 ?hk31 ?_
  case hk31 => (intro W hSW; go_simp; try with_reducible rfl)
  try go_frame
  refine' RL.tv 5 ?hk32 ?_
  case hk32 => (intro W hSW; go_simp; try with_reducible rfl)
  try go_frame
  refine RL.tw 6 (v := .agg (u64s (els [c1, c2, c3, c4]))) rfl (fun W hSW => run_at 43 _ rfl cb 10 rfl (u64s (els [c1, c2, c3, c4])) (els_at (aft_blk hSW Hcb.out) 2 10 [c1, c2, c3, c4] rfl rfl (by simp)) Tryd.underlying43 rfl (by kernel_rfl)) ?_
  try go_frame
  refine' RL.tc 7 (v := (.agg (u64s (els [R1.x, R1.y, R1.z, R1.t])))) 13 #[.pointer (some ⟨cb, 0, none⟩), .agg (Cv.bytesV sa), .agg (u64s (els [c1, c2, c3, c4]))] ?hk33 ?hc33 ?_
  case hk33 => (intro W; go_simp; try with_reducible rfl)
  case hc33 => (intro W hSW; exact (CM1.out cb W (aft_blk hSW Hcb.out)).mono (fun e w9 h9 => ⟨h9.1, h9.2, RL.Aft.lat hSW h9.2⟩))
  try go_frame
  refine' RL.tc 8 (v := (.agg (Cv.bytesV ke))) 15 #[.agg (u64s (els [R1.x, R1.y, R1.z, R1.t]))] ?hk34 ?hc34 ?_
  case hk34 => (intro W; go_simp; try with_reducible rfl)
  case hc34 => (intro W hSW; exact (CB1.out W).mono (fun e w9 h9 => ⟨h9.1, h9.2, RL.Aft.lat hSW h9.2⟩))
  try go_frame
  refine RL.sk 9 (fun wa hlwa hswa K hK => ?_)
  go_simp
  obtain ⟨kb, hkb⟩ : ∃ n, wa.heap.size = n := ⟨_, rfl⟩
  have hZ := Rg.Blk.newAt hkb.symm z32 22
  have Fkb := ϕ (show Z1.heap.size ≤ kb from hkb ▸ Below.size hswa)
  refine hK.out _ _ (RL.Aft.alloc hswa _) ?_
  try rw [hkb]
  clear hK hkb
  try go_frame
  refine RL.sk 10 (fun va hlva hsva K hK => ?_)
  have hZ := hZ.below hlva hZ.lt
  refine store_blk_op 22 _ _ rfl kb (Cv.bytesV ke) _ 22 rfl (by rfl) hZ (by rw [Cv.bytesV_size, HKL.out]; kernel_rfl) (by rw [Cv.bytesV_size, HKL.out]; rfl) (Cv.bytesV_one _) ?_
  intro Y9 hY hgY
  refine hK.out _ _ (Below.grown hsva hgY (Below.size hsva) (fun k hk => by cases hk; exact Fkb.out)) ?_
  clear hK
  try go_frame
  refine RL.done (by kernel_rfl) (fun Z2 hlZ2 hsZ2 => ?_)
  have Hkb := ϕ (show Rg.Blk Z2 kb 22 (Cv.bytesV ke) from hY.below hlZ2 hY.lt)
  clear hZ hY hgY hlva hsva
  have HA := ϕ (show RL.Aft Z1 Z2 from hsZ2)
  have Hrb := ϕ (aft_blk HA.out Hrb.out)
  have Hcb := ϕ (aft_blk HA.out Hcb.out)
  have Htb := ϕ (aft_blk HA.out Htb.out)
  have HT := ϕ (HT.out.below HA.out HT.out.size)
  have HO := ϕ (HO.out.below HA.out HO.out.size)
  have HB := ϕ (HB.out.trans (Below.mono HA.out HB.out.size))
  clear HA hsZ2 hlZ2
  have xs := Htb.out.cell 32 (HSL.out ▸ secV_str sa pf)
  go_upto_region 4 with (first
   | (go_at_call 16; refine (HR1.out _ _ (HT.out.below ((Below.refl _ _).alloc (Nat.le_refl _) _) HT.out.size) (HO.out.below ((Below.refl _ _).alloc (Nat.le_refl _) _) HO.out.size) (parts_n _ _ [_, _] (by simp) 2 rfl)).mono ?_; rintro e w3 ⟨rfl, hb1⟩; have hb2 := (Below.alloc (Below.refl Z2.heap.size Z2) (Nat.le_refl _) _).trans (hb1.mono (by simp)); have Hrb := ϕ (Hrb.out.below hb2 Hrb.out.lt); have Hcb := ϕ (Hcb.out.below hb2 Hcb.out.lt); have Htb := ϕ (Htb.out.below hb2 Htb.out.lt); have Hkb := ϕ (Hkb.out.below hb2 Hkb.out.lt); have HT := ϕ (HT.out.below hb2 HT.out.size); have HO := ϕ (HO.out.below hb2 HO.out.size); have HB := tm HB hb2; clear hb1 hb2)
   | (refine Rg.store_fresh rfl 22 _ _ rfl (Cv.bytesV rr) _ 22 rfl rfl (by rw [Cv.bytesV_size, HRL.out]; kernel_rfl) (by rw [Cv.bytesV_size, HRL.out]; rfl) (Cv.bytesV_one _) ?_; intro Z3 hX hbX; have Hmb := ϕ hX; have Hrb := ϕ (Hrb.out.below hbX Hrb.out.lt); have Hcb := ϕ (Hcb.out.below hbX Hcb.out.lt); have Htb := ϕ (Htb.out.below hbX Htb.out.lt); have Hkb := ϕ (Hkb.out.below hbX Hkb.out.lt); have HT := ϕ (HT.out.below hbX HT.out.size); have HO := ϕ (HO.out.below hbX HO.out.size); have HB := tm HB hbX; clear hX hbX))
  obtain ⟨mb, hmb⟩ : ∃ n, w3.heap.size = n := ⟨_, rfl⟩
  have Hmb := ϕ (show Rg.Blk Z3 mb 22 (Cv.bytesV rr) from hmb ▸ Hmb.out)
  try rw [hmb]
  clear hmb xs
  refine RL.start (RL.Aft Z3) (by kernel_rfl) (RL.Aft.drew (RL.Aft.refl Z3)) ?_
  refine' RL.tv 0 ?hk35 ?_
  case hk35 => (intro W hSW; go_simp; try with_reducible rfl)
  try go_frame
  refine RL.tw 1 (v := .agg (Cv.bytesV rr)) rfl (fun W hSW => RT.run_row 22 _ rfl _ rfl _ _ (aft_blk hSW Hmb.out) Tryd.underlying22 rfl (by rw [Cv.bytesV_size, HRL.out]; kernel_rfl)) ?_
  try go_frame
  refine' RL.tv 2 ?hk36 ?_
  case hk36 => (intro W hSW; go_simp; try with_reducible rfl)
  try go_frame
  refine' RL.tv 3 ?hk37 ?_
  case hk37 => (intro W hSW; go_simp; try with_reducible rfl)
  try go_frame
  refine' RL.tv 4 ?hk38 ?_
  case hk38 => (intro W hSW; go_simp; try with_reducible rfl)
  try go_frame
  refine RL.tw 5 (v := .agg (u64s (els [c1, c2, c3, c4]))) rfl (fun W hSW => run_at 43 _ rfl cb 10 rfl (u64s (els [c1, c2, c3, c4])) (els_at (aft_blk hSW Hcb.out) 2 10 [c1, c2, c3, c4] rfl rfl (by simp)) Tryd.underlying43 rfl (by kernel_rfl)) ?_
  try go_frame
  refine' RL.tc 6 (v := (.agg (u64s (els [R2.x, R2.y, R2.z, R2.t])))) 13 #[.pointer (some ⟨cb, 0, none⟩), .agg (Cv.bytesV rr), .agg (u64s (els [c1, c2, c3, c4]))] ?hk39 ?hc39 ?_
  case hk39 => (intro W; go_simp; try with_reducible rfl)
  case hc39 => (intro W hSW; exact (CM2.out cb W (aft_blk hSW Hcb.out)).mono (fun e w9 h9 => ⟨h9.1, h9.2, RL.Aft.lat hSW h9.2⟩))
  try go_frame
  refine' RL.tc 7 (v := (.agg (Cv.bytesV rp))) 15 #[.agg (u64s (els [R2.x, R2.y, R2.z, R2.t]))] ?hk40 ?hc40 ?_
  case hk40 => (intro W; go_simp; try with_reducible rfl)
  case hc40 => (intro W hSW; exact (CB2.out W).mono (fun e w9 h9 => ⟨h9.1, h9.2, RL.Aft.lat hSW h9.2⟩))
  try go_frame
  refine RL.sk 8 (fun wa hlwa hswa K hK => ?_)
  go_simp
  obtain ⟨hb, hhb⟩ : ∃ n, wa.heap.size = n := ⟨_, rfl⟩
  have hZ := Rg.Blk.newAt hhb.symm z32 22
  have Fhb := ϕ (show Z3.heap.size ≤ hb from hhb ▸ Below.size hswa)
  refine hK.out _ _ (RL.Aft.alloc hswa _) ?_
  try rw [hhb]
  clear hK hhb
  try go_frame
  refine RL.sk 9 (fun va hlva hsva K hK => ?_)
  have hZ := hZ.below hlva hZ.lt
  refine store_blk_op 22 _ _ rfl hb (Cv.bytesV rp) _ 22 rfl (by rfl) hZ (by rw [Cv.bytesV_size, HAL.out]; kernel_rfl) (by rw [Cv.bytesV_size, HAL.out]; rfl) (Cv.bytesV_one _) ?_
  intro Y9 hY hgY
  refine hK.out _ _ (Below.grown hsva hgY (Below.size hsva) (fun k hk => by cases hk; exact Fhb.out)) ?_
  clear hK
  try go_frame
  refine RL.done (by kernel_rfl) (fun Z4 hlZ4 hsZ4 => ?_)
  have Hhb := ϕ (show Rg.Blk Z4 hb 22 (Cv.bytesV rp) from hY.below hlZ4 hY.lt)
  clear hZ hY hgY hlva hsva
  have HA := ϕ (show RL.Aft Z3 Z4 from hsZ4)
  have Hrb := ϕ (aft_blk HA.out Hrb.out)
  have Htb := ϕ (aft_blk HA.out Htb.out)
  have Hkb := ϕ (aft_blk HA.out Hkb.out)
  have Hmb := ϕ (aft_blk HA.out Hmb.out)
  have HT := ϕ (HT.out.below HA.out HT.out.size)
  have HO := ϕ (HO.out.below HA.out HO.out.size)
  have HB := ϕ (HB.out.trans (Below.mono HA.out HB.out.size))
  clear HA hsZ4 hlZ4
  go_upto_region 5 with fail
  refine RL.start (RL.Aft Z4) (by kernel_rfl) (RL.Aft.drew (RL.Aft.refl Z4)) ?_
  refine' RL.tv 0 ?hk41 ?_
  case hk41 => (intro W hSW; go_simp; try with_reducible rfl)
  try go_frame
  refine' RL.tv 1 ?hk42 ?_
  case hk42 => (intro W hSW; have x1 := Cv.run_string_len (P := Tryd.prog) W 28 5 9 Tryd.underlying28 Tryd.underlying5 Tryd.underlying9 hb 0 32 32 rp HAL.out (Cv.Bytes.of_blk (aft_blk hSW Hhb.out)); go_simp; try with_reducible rfl)
  try go_frame
  refine' RL.tv 2 ?hk43 ?_
  case hk43 => (intro W hSW; go_simp; try with_reducible rfl)
  try go_frame
  refine' RL.tv 3 ?hk44 ?_
  case hk44 => (intro W hSW; have x1 := Cv.run_string_len (P := Tryd.prog) W 28 5 9 Tryd.underlying28 Tryd.underlying5 Tryd.underlying9 kb 0 32 32 ke HKL.out (Cv.Bytes.of_blk (aft_blk hSW Hkb.out)); go_simp; try with_reducible rfl)
  try go_frame
  refine' RL.tv 4 ?hk45 ?_
  case hk45 => (intro W hSW; go_simp; try with_reducible rfl)
  try go_frame
  refine' RL.tv 7 ?hk46 ?_
  case hk46 => (intro W hSW; go_simp; try with_reducible rfl)
  try go_frame
  refine RL.tw 8 (v := .agg (Cv.bytesV sa)) rfl (fun W hSW => run_at 22 _ rfl tb 0 rfl (Cv.bytesV sa) (fun j v hv => by rw [Nat.zero_add]; exact (aft_blk hSW Htb.out).cell j (secV_get hv)) Tryd.underlying22 rfl (by rw [Cv.bytesV_size, HSL.out]; kernel_rfl)) ?_
  try go_frame
  refine RL.tw 9 (v := .agg (Cv.bytesV rr)) rfl (fun W hSW => RT.run_row 22 _ rfl _ rfl _ _ (aft_blk hSW Hmb.out) Tryd.underlying22 rfl (by rw [Cv.bytesV_size, HRL.out]; kernel_rfl)) ?_
  try go_frame
  refine' RL.rest_of (T := ?TTq11) (fun gb xb W => RL.Aft Z4 W ∧ Rg.Blk W xb 22 z32 ∧ Z4.heap.size ≤ xb) ?hmainq11 ?hrrq11
  case hmainq11 =>
   intro hrest
   refine RL.step2 (i := 5) (j := 11) rfl rfl (by kernel_rfl) (by rfl) (by rfl) (fun y12 hly12 hsy12 K hK => ?_) (fun y12 hly12 hsy12 K hK => ?_)
   · refine RL.wp_made (v := .slice (some ⟨y12.heap.size, 0, none⟩) 3 3) (w' := y12.alloc (.cells #[.string ⟨rp.toArray⟩, .string ⟨ke.toArray⟩, .string (bs m)] 9)) (by go_simp; try rfl) ?_
     obtain ⟨gb, hgb⟩ : ∃ n, y12.heap.size = n := ⟨_, rfl⟩
     have hba : Below y12.heap.size y12 (y12.alloc (.cells #[.string ⟨rp.toArray⟩, .string ⟨ke.toArray⟩, .string (bs m)] 9)) := (Below.refl _ _).alloc (Nat.le_refl _) _
     have kgb : Rg.Blk (y12.alloc (.cells #[.string ⟨rp.toArray⟩, .string ⟨ke.toArray⟩, .string (bs m)] 9)) gb 9 #[.string ⟨rp.toArray⟩, .string ⟨ke.toArray⟩, .string (bs m)] := Rg.Blk.newAt hgb.symm _ _
     have ggb : Z4.heap.size ≤ gb := by rw [← hgb]; exact (show RL.Aft Z4 y12 from hsy12).size
     refine hK.out _ _ (RL.Aft.alloc hsy12 _) ?_
     try rw [hgb]
     have hSy12y : RL.Aft Z4 (y12.alloc (.cells #[.string ⟨rp.toArray⟩, .string ⟨ke.toArray⟩, .string (bs m)] 9)) := RL.Aft.alloc hsy12 _
     generalize hyy12 : y12.alloc (.cells #[.string ⟨rp.toArray⟩, .string ⟨ke.toArray⟩, .string (bs m)] 9) = y12y at *
     clear hgb hba hyy12
     clear hK
     try go_frame
     refine RL.step2 (i := 6) (j := 11) rfl rfl (by kernel_rfl) (by rfl) (by rfl) (fun y13 hly13 hsy13 K hK => ?_) (fun y13 hly13 hsy13 K hK => ?_)
     · have kgb := kgb.below hly13 kgb.lt
       refine RL.wp_enter (F := 16) (args := #[.slice (some ⟨gb, 0, none⟩) 3 3]) (by go_simp; try rfl) ?_
       refine (HR2.out y13 _ (HT.out.below hsy13 HT.out.size) (HO.out.below hsy13 HO.out.size) (parts_blk [_, _, _] kgb 3 rfl)).mono ?_
       rintro e y13x ⟨rfl, hb⟩
       have hSy13x : RL.Aft Z4 y13x := RL.Aft.lat hsy13 hb
       have kgb := kgb.below hb kgb.lt
       refine ⟨_, rfl, hK.out _ _ (RL.Aft.lat hsy13 hb) ?_⟩
       clear hK
       try go_frame
       refine' RL.tc 10 (v := (.agg (Cv.bytesV ss))) 17 #[.agg (Cv.bytesV kk), .agg (Cv.bytesV sa), .agg (Cv.bytesV rr)] ?hk47 ?hc47 ?_
       case hk47 => (intro W; go_simp; try with_reducible rfl)
       case hc47 => (intro W hSW; exact (CMA.out W (HO.out.below hSW HO.out.size)).mono (fun e w9 h9 => ⟨h9.1, h9.2, RL.Aft.lat hSW h9.2⟩))
       try go_frame
       refine RL.sk 11 (fun y14 hly14 hsy14 K hK => ?_)
       have kgb := kgb.below hly14 kgb.lt
       refine RL.wp_made (v := .pointer (some ⟨y14.heap.size, 0, none⟩)) (w' := y14.alloc (.cells z32 22)) (by go_simp; try rfl) ?_
       obtain ⟨xb, hxb⟩ : ∃ n, y14.heap.size = n := ⟨_, rfl⟩
       have hba : Below y14.heap.size y14 (y14.alloc (.cells z32 22)) := (Below.refl _ _).alloc (Nat.le_refl _) _
       have kxb : Rg.Blk (y14.alloc (.cells z32 22)) xb 22 z32 := Rg.Blk.newAt hxb.symm _ _
       have gxb : Z4.heap.size ≤ xb := by rw [← hxb]; exact (show RL.Aft Z4 y14 from hsy14).size
       have kgb := kgb.below hba kgb.lt
       refine hK.out _ _ (RL.Aft.alloc hsy14 _) ?_
       try rw [hxb]
       have hSy14y : RL.Aft Z4 (y14.alloc (.cells z32 22)) := RL.Aft.alloc hsy14 _
       generalize hyy14 : y14.alloc (.cells z32 22) = y14y at *
       clear hxb hba hyy14
       clear hK
       try go_frame
       refine RL.norm #[true, true, true, true, true, true, true, true, true, true, true, true, false] (by kernel_rfl) ?_
       exact hrest gb xb _ ⟨by assumption, kxb, gxb⟩
     · have kgb := kgb.below hly13 kgb.lt
       refine RL.wp_made (v := .pointer (some ⟨y13.heap.size, 0, none⟩)) (w' := y13.alloc (.cells z32 22)) (by go_simp; try rfl) ?_
       obtain ⟨xb, hxb⟩ : ∃ n, y13.heap.size = n := ⟨_, rfl⟩
       have hba : Below y13.heap.size y13 (y13.alloc (.cells z32 22)) := (Below.refl _ _).alloc (Nat.le_refl _) _
       have kxb : Rg.Blk (y13.alloc (.cells z32 22)) xb 22 z32 := Rg.Blk.newAt hxb.symm _ _
       have gxb : Z4.heap.size ≤ xb := by rw [← hxb]; exact (show RL.Aft Z4 y13 from hsy13).size
       have kgb := kgb.below hba kgb.lt
       refine hK.out _ _ (RL.Aft.alloc hsy13 _) ?_
       try rw [hxb]
       have hSy13y : RL.Aft Z4 (y13.alloc (.cells z32 22)) := RL.Aft.alloc hsy13 _
       generalize hyy13 : y13.alloc (.cells z32 22) = y13y at *
       clear hxb hba hyy13
       clear hK
       try go_frame
       refine RL.sk 6 (fun y15 hly15 hsy15 K hK => ?_)
       have kgb := kgb.below hly15 kgb.lt
       have kxb := kxb.below hly15 kxb.lt
       refine RL.wp_enter (F := 16) (args := #[.slice (some ⟨gb, 0, none⟩) 3 3]) (by go_simp; try rfl) ?_
       refine (HR2.out y15 _ (HT.out.below hsy15 HT.out.size) (HO.out.below hsy15 HO.out.size) (parts_blk [_, _, _] kgb 3 rfl)).mono ?_
       rintro e y15x ⟨rfl, hb⟩
       have hSy15x : RL.Aft Z4 y15x := RL.Aft.lat hsy15 hb
       have kgb := kgb.below hb kgb.lt
       have kxb := kxb.below hb kxb.lt
       refine ⟨_, rfl, hK.out _ _ (RL.Aft.lat hsy15 hb) ?_⟩
       clear hK
       try go_frame
       refine' RL.tc 10 (v := (.agg (Cv.bytesV ss))) 17 #[.agg (Cv.bytesV kk), .agg (Cv.bytesV sa), .agg (Cv.bytesV rr)] ?hk48 ?hc48 ?_
       case hk48 => (intro W; go_simp; try with_reducible rfl)
       case hc48 => (intro W hSW; exact (CMA.out W (HO.out.below hSW HO.out.size)).mono (fun e w9 h9 => ⟨h9.1, h9.2, RL.Aft.lat hSW h9.2⟩))
       try go_frame
       refine RL.norm #[true, true, true, true, true, true, true, true, true, true, true, true, false] (by kernel_rfl) ?_
       exact hrest gb xb _ ⟨by assumption, kxb, gxb⟩
   · refine RL.wp_made (v := .pointer (some ⟨y12.heap.size, 0, none⟩)) (w' := y12.alloc (.cells z32 22)) (by go_simp; try rfl) ?_
     obtain ⟨xb, hxb⟩ : ∃ n, y12.heap.size = n := ⟨_, rfl⟩
     have hba : Below y12.heap.size y12 (y12.alloc (.cells z32 22)) := (Below.refl _ _).alloc (Nat.le_refl _) _
     have kxb : Rg.Blk (y12.alloc (.cells z32 22)) xb 22 z32 := Rg.Blk.newAt hxb.symm _ _
     have gxb : Z4.heap.size ≤ xb := by rw [← hxb]; exact (show RL.Aft Z4 y12 from hsy12).size
     refine hK.out _ _ (RL.Aft.alloc hsy12 _) ?_
     try rw [hxb]
     have hSy12y : RL.Aft Z4 (y12.alloc (.cells z32 22)) := RL.Aft.alloc hsy12 _
     generalize hyy12 : y12.alloc (.cells z32 22) = y12y at *
     clear hxb hba hyy12
     clear hK
     try go_frame
     refine RL.sk 5 (fun y16 hly16 hsy16 K hK => ?_)
     have kxb := kxb.below hly16 kxb.lt
     refine RL.wp_made (v := .slice (some ⟨y16.heap.size, 0, none⟩) 3 3) (w' := y16.alloc (.cells #[.string ⟨rp.toArray⟩, .string ⟨ke.toArray⟩, .string (bs m)] 9)) (by go_simp; try rfl) ?_
     obtain ⟨gb, hgb⟩ : ∃ n, y16.heap.size = n := ⟨_, rfl⟩
     have hba : Below y16.heap.size y16 (y16.alloc (.cells #[.string ⟨rp.toArray⟩, .string ⟨ke.toArray⟩, .string (bs m)] 9)) := (Below.refl _ _).alloc (Nat.le_refl _) _
     have kgb : Rg.Blk (y16.alloc (.cells #[.string ⟨rp.toArray⟩, .string ⟨ke.toArray⟩, .string (bs m)] 9)) gb 9 #[.string ⟨rp.toArray⟩, .string ⟨ke.toArray⟩, .string (bs m)] := Rg.Blk.newAt hgb.symm _ _
     have ggb : Z4.heap.size ≤ gb := by rw [← hgb]; exact (show RL.Aft Z4 y16 from hsy16).size
     have kxb := kxb.below hba kxb.lt
     refine hK.out _ _ (RL.Aft.alloc hsy16 _) ?_
     try rw [hgb]
     have hSy16y : RL.Aft Z4 (y16.alloc (.cells #[.string ⟨rp.toArray⟩, .string ⟨ke.toArray⟩, .string (bs m)] 9)) := RL.Aft.alloc hsy16 _
     generalize hyy16 : y16.alloc (.cells #[.string ⟨rp.toArray⟩, .string ⟨ke.toArray⟩, .string (bs m)] 9) = y16y at *
     clear hgb hba hyy16
     clear hK
     try go_frame
     refine RL.sk 6 (fun y17 hly17 hsy17 K hK => ?_)
     have kxb := kxb.below hly17 kxb.lt
     have kgb := kgb.below hly17 kgb.lt
     refine RL.wp_enter (F := 16) (args := #[.slice (some ⟨gb, 0, none⟩) 3 3]) (by go_simp; try rfl) ?_
     refine (HR2.out y17 _ (HT.out.below hsy17 HT.out.size) (HO.out.below hsy17 HO.out.size) (parts_blk [_, _, _] kgb 3 rfl)).mono ?_
     rintro e y17x ⟨rfl, hb⟩
     have hSy17x : RL.Aft Z4 y17x := RL.Aft.lat hsy17 hb
     have kxb := kxb.below hb kxb.lt
     have kgb := kgb.below hb kgb.lt
     refine ⟨_, rfl, hK.out _ _ (RL.Aft.lat hsy17 hb) ?_⟩
     clear hK
     try go_frame
     refine' RL.tc 10 (v := (.agg (Cv.bytesV ss))) 17 #[.agg (Cv.bytesV kk), .agg (Cv.bytesV sa), .agg (Cv.bytesV rr)] ?hk49 ?hc49 ?_
     case hk49 => (intro W; go_simp; try with_reducible rfl)
     case hc49 => (intro W hSW; exact (CMA.out W (HO.out.below hSW HO.out.size)).mono (fun e w9 h9 => ⟨h9.1, h9.2, RL.Aft.lat hSW h9.2⟩))
     try go_frame
     refine RL.norm #[true, true, true, true, true, true, true, true, true, true, true, true, false] (by kernel_rfl) ?_
     exact hrest gb xb _ ⟨by assumption, kxb, gxb⟩
  case hrrq11 =>
   rintro gb xb Z0 ⟨ha0, hZ, gxb⟩
   have Fxb := ϕ gxb
   refine RL.sk 12 (fun va hlva hsva K hK => ?_)
   have hZ := hZ.below hlva hZ.lt
   refine store_blk_op 22 _ _ rfl xb (Cv.bytesV ss) _ 22 rfl (by rfl) hZ (by rw [Cv.bytesV_size, HSS.out]; kernel_rfl) (by rw [Cv.bytesV_size, HSS.out]; rfl) (Cv.bytesV_one _) ?_
   intro Y9 hY hgY
   refine hK.out _ _ (Below.grown hsva hgY (Below.size hsva) (fun k hk => by cases hk; exact Fxb.out)) ?_
   clear hK
   try go_frame
   refine RL.done (by kernel_rfl) (fun Z5 hlZ5 hsZ5 => ?_)
   have Hxb := ϕ (show Rg.Blk Z5 xb 22 (Cv.bytesV ss) from hY.below hlZ5 hY.lt)
   clear hZ hY hgY hlva hsva
   have HA := ϕ (show RL.Aft Z4 Z5 from hsZ5)
   have Hrb := ϕ (aft_blk HA.out Hrb.out)
   have Hhb := ϕ (aft_blk HA.out Hhb.out)
   have HB := ϕ (HB.out.trans (Below.mono HA.out HB.out.size))
   clear HA hsZ5 hlZ5
   go_upto_region 7 with fail
   obtain ⟨ob, hob⟩ : ∃ n, Z5.heap.size = n := ⟨_, rfl⟩
   obtain ⟨Z6, hZ6⟩ : ∃ Z, (Z5.alloc (.cells #[.int .u8 0, .int .u8 0, .int .u8 0, .int .u8 0, .int .u8 0, .int .u8 0, .int .u8 0, .int .u8 0, .int .u8 0, .int .u8 0, .int .u8 0, .int .u8 0, .int .u8 0, .int .u8 0, .int .u8 0, .int .u8 0, .int .u8 0, .int .u8 0, .int .u8 0, .int .u8 0, .int .u8 0, .int .u8 0, .int .u8 0, .int .u8 0, .int .u8 0, .int .u8 0, .int .u8 0, .int .u8 0, .int .u8 0, .int .u8 0, .int .u8 0, .int .u8 0, .int .u8 0, .int .u8 0, .int .u8 0, .int .u8 0, .int .u8 0, .int .u8 0, .int .u8 0, .int .u8 0, .int .u8 0, .int .u8 0, .int .u8 0, .int .u8 0, .int .u8 0, .int .u8 0, .int .u8 0, .int .u8 0, .int .u8 0, .int .u8 0, .int .u8 0, .int .u8 0, .int .u8 0, .int .u8 0, .int .u8 0, .int .u8 0, .int .u8 0, .int .u8 0, .int .u8 0, .int .u8 0, .int .u8 0, .int .u8 0, .int .u8 0, .int .u8 0] 26)) = Z := ⟨_, rfl⟩
   have Hob := ϕ (show Rg.Blk Z6 ob 26 (Cv.bytesV (List.replicate 64 0)) from by rw [z64b, ← hZ6]; exact Rg.Blk.newAt hob.symm _ _)
   have GO := ϕ (show w.heap.size ≤ ob from hob ▸ HB.out.size)
   have NN := ϕ (show ¬ rb = ob ∧ ¬ hb = ob ∧ ¬ xb = ob from by have h1 := Hrb.out.lt; have h2 := Hhb.out.lt; have h3 := Hxb.out.lt; omega)
   have hba : Below Z5.heap.size Z5 Z6 := by rw [← hZ6]; exact (Below.refl _ _).alloc (Nat.le_refl _) _
   have Hrb := ϕ (Hrb.out.below hba Hrb.out.lt)
   have Hhb := ϕ (Hhb.out.below hba Hhb.out.lt)
   have Hxb := ϕ (Hxb.out.below hba Hxb.out.lt)
   have HB := tm HB hba
   rw [hZ6]
   try rw [hob]
   clear hob HT HO Hcb Htb Hkb Hmb hba hZ6
   refine RL.start (fun W => Sp.Upd Z6 W [ob]) (by kernel_rfl) (Sp.Upd.trans (Sp.Upd.refl _ _) (Sp.Upd.of_below (Below.drew (Below.refl _ _))) (by simp)) ?_
   refine' RL.tv 0 ?hk50 ?_
   case hk50 => (intro W hSW; go_simp; try with_reducible rfl)
   try go_frame
   refine' RL.tv 1 ?hk51 ?_
   case hk51 => (intro W hSW; go_simp; try with_reducible rfl)
   try go_frame
   refine RL.sk 2 (fun va hlva hsva K hK => ?_)
   have hO := (Hob.out.below (Below.drew (Below.refl _ _)) Hob.out.lt).below hlva (by have := Hob.out.lt; simpa using this)
   have hS := upd_blk hsva Hhb.out (by simp; exact NN.out.2.1)
   refine copy_op _ _ 28 28 5 rfl (off := 0) rfl rfl Tryd.underlying28 (by kernel_rfl) hO (src := rp) (Cv.Bytes.of_blk hS) (by rw [HAL.out]; rfl) (by rw [HAL.out]; simp [HAL.out]) ?_
   intro Y9 v9 hY hgY
   refine hK.out _ _ (Sp.Upd.trans hsva (Sp.Upd.of_grown1 hgY) (fun q hq => .inl hq)) ?_
   clear hK
   try go_frame
   refine RL.done (by kernel_rfl) (fun Z7 hlZ7 hsZ7 => ?_)
   have Hob := ϕ (show Rg.Blk Z7 ob 26 (Cv.bytesV (rp ++ List.replicate 32 0)) from EQ1.out ▸ hY.below hlZ7 hY.lt)
   have Hrb := ϕ (upd_blk hsZ7 Hrb.out (by simp; exact NN.out.1))
   have Hxb := ϕ (upd_blk hsZ7 Hxb.out (by simp; exact NN.out.2.2))
   have HB := ϕ (below_upd HB.out hsZ7 (fun k hk => by simp at hk; rw [hk]; exact GO.out) HB.out.size)
   clear hO hS hY hgY hlva hsva hsZ7 hlZ7
   go_upto_region 8 with fail
   refine RL.start (fun W => Sp.Upd Z7 W [ob]) (by kernel_rfl) (Sp.Upd.trans (Sp.Upd.refl _ _) (Sp.Upd.of_below (Below.drew (Below.refl _ _))) (by simp)) ?_
   refine' RL.tv 0 ?hk52 ?_
   case hk52 => (intro W hSW; go_simp; try with_reducible rfl)
   try go_frame
   refine' RL.tv 1 ?hk53 ?_
   case hk53 => (intro W hSW; go_simp; try with_reducible rfl)
   try go_frame
   refine RL.sk 2 (fun va hlva hsva K hK => ?_)
   have hO := (Hob.out.below (Below.drew (Below.refl _ _)) Hob.out.lt).below hlva (by have := Hob.out.lt; simpa using this)
   have hS := upd_blk hsva Hxb.out (by simp; exact NN.out.2.2)
   refine copy_op _ _ 28 28 5 rfl (off := 32) rfl rfl Tryd.underlying28 (by kernel_rfl) hO (src := ss) (Cv.Bytes.of_blk hS) (by rw [HSS.out]; rfl) (by rw [HSS.out]; simp [HAL.out]) ?_
   intro Y9 v9 hY hgY
   refine hK.out _ _ (Sp.Upd.trans hsva (Sp.Upd.of_grown1 hgY) (fun q hq => .inl hq)) ?_
   clear hK
   try go_frame
   refine RL.done (by kernel_rfl) (fun Z8 hlZ8 hsZ8 => ?_)
   have Hob := ϕ (show Rg.Blk Z8 ob 26 (Cv.bytesV (rp ++ ss)) from EQ2.out ▸ hY.below hlZ8 hY.lt)
   have Hrb := ϕ (upd_blk hsZ8 Hrb.out (by simp; exact NN.out.1))
   have HB := ϕ (below_upd HB.out hsZ8 (fun k hk => by simp at hk; rw [hk]; exact GO.out) HB.out.size)
   clear hO hS hY hgY hlva hsva hsZ8 hlZ8
   go_wp2_with (first
    | ((with_reducible refine gate_ ?_); refine Cv.load_cells rfl 26 _ rfl ob 0 rfl (Cv.bytesV (rp ++ ss)) _ (fun j v hv => by rw [Nat.zero_add]; exact Hob.out.cell j hv) Tryd.underlying26 rfl (by rw [Cv.bytesV_size, HGL.out]; kernel_rfl) ?_)
    | ((with_reducible refine gate_ ?_); refine Cv.store_blk rfl 26 _ _ rfl rb (Cv.bytesV (rp ++ ss)) (#[.int .u8 0, .int .u8 0, .int .u8 0, .int .u8 0, .int .u8 0, .int .u8 0, .int .u8 0, .int .u8 0, .int .u8 0, .int .u8 0, .int .u8 0, .int .u8 0, .int .u8 0, .int .u8 0, .int .u8 0, .int .u8 0, .int .u8 0, .int .u8 0, .int .u8 0, .int .u8 0, .int .u8 0, .int .u8 0, .int .u8 0, .int .u8 0, .int .u8 0, .int .u8 0, .int .u8 0, .int .u8 0, .int .u8 0, .int .u8 0, .int .u8 0, .int .u8 0, .int .u8 0, .int .u8 0, .int .u8 0, .int .u8 0, .int .u8 0, .int .u8 0, .int .u8 0, .int .u8 0, .int .u8 0, .int .u8 0, .int .u8 0, .int .u8 0, .int .u8 0, .int .u8 0, .int .u8 0, .int .u8 0, .int .u8 0, .int .u8 0, .int .u8 0, .int .u8 0, .int .u8 0, .int .u8 0, .int .u8 0, .int .u8 0, .int .u8 0, .int .u8 0, .int .u8 0, .int .u8 0, .int .u8 0, .int .u8 0, .int .u8 0, .int .u8 0] : Array Value) 26 rfl rfl Hrb.out (by rw [Cv.bytesV_size, HGL.out]; kernel_rfl) (by rw [Cv.bytesV_size, HGL.out]; rfl) (Cv.bytesV_one _) ?_; intro V hV hgV; have HZ2 := ϕ hV; have HB2 := ϕ (HB.out.grown hgV HB.out.size (fun j e => by cases e; exact GR.out)); clear hV hgV))
   rw [HRES.out]
   refine bodyPost_ret (v := .agg (Cv.bytesV (rp ++ ss)))
    (results_cell_row Tryd.results7 _ _ rb 26 _ (0, 0) _ rfl HZ2.out Tryd.underlying26 rfl (by rw [Cv.bytesV_size, HGL.out]; kernel_rfl)) rfl ?_
   exact ⟨rfl, HB2.out⟩
end Go.Proofs.YtfpcelmekfdafaaDoor.Kx
