/- Lines, plainly: words, names, numbers, texts, commands by their letters; what is read is written back, and what is written is read back. -/
import Derived.Lib.ItoaNum
import Derived.Lib.Strings
import Derived.Lib.Join
import Derived.Lib.IndexMore
set_option linter.unusedVariables false
set_option linter.unusedSimpArgs false
namespace Go.Proofs.YtonjgfbefhefjaaDoor.Ln
open Go
theorem revInd {P : List UInt8 → Prop} (h0 : P []) (h1 : ∀ w b, P w → P (w ++ [b])) (w : List UInt8) : P w := by
  have : ∀ l : List UInt8, P l.reverse := by
    intro l
    induction l with
    | nil => exact h0
    | cons a t ih => rw [List.reverse_cons]; exact h1 _ _ ih
  simpa using this w.reverse
/-- words, cut at each blank -/
def sp : List UInt8 → List (List UInt8)
  | [] => [[]]
  | c :: r => if c = 32 then [] :: sp r else match sp r with
    | [] => [[c]]
    | x :: t => (c :: x) :: t
theorem sp_form (s : List UInt8) : ∃ x t, sp s = x :: t := by
  induction s with
  | nil => exact ⟨_, _, rfl⟩
  | cons c r ih =>
    unfold sp
    split
    · exact ⟨_, _, rfl⟩
    · obtain ⟨x, t, e⟩ := ih
      rw [e]; exact ⟨_, _, rfl⟩
theorem sp_ne (s : List UInt8) : sp s ≠ [] := by obtain ⟨x, t, e⟩ := sp_form s; rw [e]; simp
theorem sp_blank (r : List UInt8) : sp (32 :: r) = [] :: sp r := by rw [sp, if_pos rfl]
theorem sp_cons {c : UInt8} (h : c ≠ 32) {r x : List UInt8} {t : List (List UInt8)} (e : sp r = x :: t) : sp (c :: r) = (c :: x) :: t := by rw [sp, if_neg h, e]
theorem sp_cut : ∀ {a : List UInt8} (_ : (32 : UInt8) ∉ a) (r : List UInt8), sp (a ++ 32 :: r) = a :: sp r
  | [], _, r => sp_blank r
  | c :: a, h, r => by
    rw [List.cons_append]
    exact sp_cons (fun e => h (by simp [e])) (sp_cut (fun e => h (by simp [e])) r)
theorem sp_one : ∀ {a : List UInt8} (_ : (32 : UInt8) ∉ a), sp a = [a]
  | [], _ => rfl
  | c :: a, h => sp_cons (fun e => h (by simp [e])) (sp_one (fun e => h (by simp [e])))
theorem sp_snoc : ∀ (s : List UInt8) (c : UInt8), sp (s ++ [c]) = if c = 32 then sp s ++ [[]] else (sp s).dropLast ++ [(sp s).getLast (sp_ne s) ++ [c]]
  | [], c => by
    by_cases h : c = 32
    · subst h; simp [sp]
    · simp [sp, h]
  | d :: s, c => by
    have ih := sp_snoc s c
    obtain ⟨x, t, e⟩ := sp_form s
    rw [List.cons_append]
    by_cases hd : d = 32
    · subst hd
      rw [sp_blank, ih]
      simp only [sp_blank]
      by_cases h : c = 32
      · simp [h]
      · simp only [if_neg h]
        rw [List.dropLast_cons_of_ne_nil (sp_ne s), List.getLast_cons (sp_ne s)]; simp
    · have hc := sp_cons hd e
      simp only [hc]
      by_cases h : c = 32
      · rw [if_pos h] at ih ⊢
        rw [e] at ih
        rw [sp_cons hd ih]; simp
      · rw [if_neg h] at ih ⊢
        simp only [e] at ih
        cases t with
        | nil => simp at ih ⊢; rw [sp_cons hd ih]
        | cons y u =>
          rw [List.dropLast_cons_of_ne_nil (by simp), List.getLast_cons (by simp)] at ih ⊢
          rw [List.cons_append] at ih ⊢
          rw [sp_cons hd ih]
theorem sp_len : ∀ s : List UInt8, (sp s).length ≤ s.length + 1
  | [] => by simp [sp]
  | c :: s => by
    have := sp_len s
    obtain ⟨x, t, e⟩ := sp_form s
    by_cases h : c = 32
    · subst h; rw [sp_blank]; simp; omega
    · rw [sp_cons h e]; rw [e] at this; simp at this ⊢; omega
theorem sp_no : ∀ (s : List UInt8), ∀ x ∈ sp s, (32 : UInt8) ∉ x
  | [] => by simp [sp]
  | c :: s => by
    have ih := sp_no s
    obtain ⟨x, t, e⟩ := sp_form s
    by_cases h : c = 32
    · subst h; rw [sp_blank]
      intro y hy
      rcases List.mem_cons.1 hy with rfl | hy
      · simp
      · exact ih y hy
    · rw [sp_cons h e]
      rw [e] at ih
      intro y hy
      rcases List.mem_cons.1 hy with rfl | hy
      · intro hm
        rcases List.mem_cons.1 hm with e' | hm
        · exact h e'.symm
        · exact ih x (by simp) hm
      · exact ih y (by simp [hy])
theorem sp_size : ∀ (s : List UInt8), ∀ x ∈ sp s, x.length ≤ s.length
  | [] => by simp [sp]
  | c :: s => by
    have ih := sp_size s
    obtain ⟨x, t, e⟩ := sp_form s
    by_cases h : c = 32
    · subst h; rw [sp_blank]
      intro y hy
      rcases List.mem_cons.1 hy with rfl | hy
      · simp
      · have := ih y hy; simp; omega
    · rw [sp_cons h e]
      rw [e] at ih
      intro y hy
      rcases List.mem_cons.1 hy with rfl | hy
      · have := ih x (by simp); simp; omega
      · have := ih y (by simp [hy]); simp; omega
/-- the words with a blank between -/
def jn : List (List UInt8) → List UInt8
  | [] => []
  | [x] => x
  | x :: y :: t => x ++ 32 :: jn (y :: t)
theorem jn_cons (x : List UInt8) {t : List (List UInt8)} (h : t ≠ []) : jn (x :: t) = x ++ 32 :: jn t := by
  cases t with
  | nil => exact absurd rfl h
  | cons y u => rfl
theorem jn_tail (x : List UInt8) (t : List (List UInt8)) : jn (x :: t) = x ++ (t.map (32 :: ·)).flatten := by
  induction t generalizing x with
  | nil => simp [jn]
  | cons y u ih => rw [jn_cons x (by simp), ih]; simp
theorem jn_lib (x : List UInt8) (t : List (List UInt8)) : Lib.join (x :: t) [32] = jn (x :: t) := by
  rw [Lib.join_cons, jn_tail]; unfold Lib.joinTail; rfl
theorem jn_sp : ∀ s : List UInt8, jn (sp s) = s
  | [] => rfl
  | c :: s => by
    have ih := jn_sp s
    obtain ⟨x, t, e⟩ := sp_form s
    by_cases h : c = 32
    · subst h; rw [sp_blank, jn_cons _ (sp_ne s), ih]; rfl
    · rw [sp_cons h e]
      rw [e] at ih
      cases t with
      | nil => simp [jn] at ih ⊢; exact ih
      | cons y u => rw [jn_cons _ (by simp)] at ih ⊢; rw [← ih]; simp
theorem sp_jn : ∀ (x : List UInt8) (t : List (List UInt8)), (∀ y ∈ x :: t, (32 : UInt8) ∉ y) → sp (jn (x :: t)) = x :: t
  | x, [], h => sp_one (h x (by simp))
  | x, y :: t, h => by
    rw [jn_cons x (by simp), sp_cut (h x (by simp)), sp_jn y t (fun z hz => h z (by simp at hz ⊢; exact .inr hz))]
/-! names -/
def vis (w : List UInt8) : Bool := w.all fun b => decide (33 ≤ b.toNat) && decide (b.toNat ≤ 126)
theorem vis_iff {w : List UInt8} : vis w = true ↔ ∀ b ∈ w, 33 ≤ b.toNat ∧ b.toNat ≤ 126 := by unfold vis; simp
def nmL (w : List UInt8) : Option (List UInt8) := if w = [45] then some [] else if w ≠ [] ∧ w.length ≤ 64 ∧ vis w = true then some w else none
def wn (x : List UInt8) : List UInt8 := if x = [] then [45] else x
def okN (x : List UInt8) : Prop := vis x = true ∧ x.length ≤ 64 ∧ x ≠ [45]
instance (x : List UInt8) : Decidable (okN x) := by unfold okN; infer_instance
theorem nm_wn {x : List UInt8} (h : okN x) : nmL (wn x) = some x := by
  obtain ⟨h1, h2, h3⟩ := h
  unfold nmL wn
  by_cases e : x = []
  · subst e; simp
  · rw [if_neg e, if_neg h3, if_pos ⟨e, h2, h1⟩]
theorem nm_some {w x : List UInt8} (h : nmL w = some x) : okN x ∧ wn x = w := by
  unfold nmL at h
  split at h
  · rename_i e; cases h; exact ⟨⟨by decide, by decide, by decide⟩, by rw [e]; rfl⟩
  · rename_i e
    split at h
    · rename_i e'; cases h; exact ⟨⟨e'.2.2, e'.2.1, e⟩, by unfold wn; rw [if_neg e'.1]⟩
    · cases h
theorem wn_no {x : List UInt8} (h : okN x) : (32 : UInt8) ∉ wn x := by
  unfold wn
  split
  · decide
  · intro hm
    have := (vis_iff.1 h.1 32 hm).1
    exact absurd this (by decide)
/-! numbers -/
def dg (b : UInt8) : Bool := decide (48 ≤ b.toNat) && decide (b.toNat ≤ 57)
def val (w : List UInt8) : Nat := w.foldl (fun n b => 10 * n + (b.toNat - 48)) 0
theorem val_snoc (w : List UInt8) (b : UInt8) : val (w ++ [b]) = 10 * val w + (b.toNat - 48) := by unfold val; simp
def numL (w : List UInt8) : Option Nat := if w ≠ [] ∧ w.length ≤ 9 ∧ ¬ (w.head? = some 48 ∧ w ≠ [48]) ∧ w.all dg = true then some (val w) else none
theorem val_lt (w : List UInt8) (h : w.all dg = true) : val w < 10 ^ w.length := by
  induction w using revInd with
  | h0 => simp [val]
  | h1 w b ih =>
    rw [List.all_append, Bool.and_eq_true] at h
    have := ih h.1
    rw [val_snoc, List.length_append, List.length_singleton, Nat.pow_succ]
    have hb := h.2
    simp [dg] at hb
    omega
theorem dec_val : ∀ (w : List UInt8), w ≠ [] → w.all dg = true → ¬ (w.head? = some 48 ∧ w ≠ [48]) → Lib.decDigits (val w) = w ∧ (w ≠ [48] → 1 ≤ val w) := by
  intro w
  induction w using revInd with
  | h0 => intro h; exact absurd rfl h
  | h1 w b ih =>
    intro _ ha hz
    rw [List.all_append, Bool.and_eq_true] at ha
    have hb := ha.2
    simp [dg] at hb
    rw [val_snoc]
    have hbb : UInt8.ofNat (48 + (b.toNat - 48)) = b := by
      rw [show 48 + (b.toNat - 48) = b.toNat by omega]; simp
    by_cases hw : w = []
    · subst hw
      simp only [val, List.foldl_nil, Nat.mul_zero, Nat.zero_add, List.nil_append]
      refine ⟨?_, fun h => ?_⟩
      · rw [Lib.decDigits, dif_pos (by omega), hbb]
      · have : b ≠ 48 := fun e => h (by rw [e])
        have : b.toNat ≠ 48 := fun e => this (UInt8.toNat_inj.1 e)
        omega
    · have hh : ¬ w.head? = some 48 := fun e => hz ⟨by rw [List.head?_append, e]; rfl, fun e' => by
        have := congrArg List.length e'
        simp at this; exact hw this⟩
      obtain ⟨i1, i2⟩ := ih hw ha.1 (fun e => hh e.1)
      have i3 := i2 (fun e => hh (by rw [e]; rfl))
      refine ⟨?_, fun _ => by omega⟩
      rw [Lib.decDigits, dif_neg (by omega), show (10 * val w + (b.toNat - 48)) / 10 = val w by omega, show (10 * val w + (b.toNat - 48)) % 10 = b.toNat - 48 by omega, i1, hbb]
theorem num_some {w : List UInt8} {n : Nat} (h : numL w = some n) : Lib.decDigits n = w ∧ n ≤ 999999999 := by
  unfold numL at h
  split at h
  · rename_i e
    obtain ⟨h1, h2, h3, h4⟩ := e
    cases h
    refine ⟨(dec_val w h1 h4 h3).1, ?_⟩
    have := val_lt w h4
    have : 10 ^ w.length ≤ 10 ^ 9 := Nat.pow_le_pow_right (by decide) h2
    omega
  · cases h
theorem dec_facts (n : Nat) : Lib.decDigits n ≠ [] ∧ (Lib.decDigits n).all dg = true ∧ val (Lib.decDigits n) = n ∧ ((Lib.decDigits n).head? = some 48 → n = 0) := by
  induction n using Nat.strongRecOn with
  | _ n ih =>
    by_cases h : n < 10
    · rw [Lib.decDigits, dif_pos h]
      have : ∀ k : Fin 10, [UInt8.ofNat (48 + k.val)] ≠ [] ∧ [UInt8.ofNat (48 + k.val)].all dg = true ∧ val [UInt8.ofNat (48 + k.val)] = k.val ∧ ([UInt8.ofNat (48 + k.val)].head? = some 48 → k.val = 0) := by decide
      exact this ⟨n, h⟩
    · obtain ⟨i1, i2, i3, i4⟩ := ih (n / 10) (by omega)
      rw [Lib.decDigits, dif_neg h]
      have hd : ∀ k : Fin 10, dg (UInt8.ofNat (48 + k.val)) = true ∧ (UInt8.ofNat (48 + k.val)).toNat - 48 = k.val := by decide
      obtain ⟨d1, d2⟩ := hd ⟨n % 10, by omega⟩
      refine ⟨by simp, by rw [List.all_append, i2]; simpa using d1, ?_, fun e => ?_⟩
      · have d2' : (UInt8.ofNat (48 + n % 10)).toNat - 48 = n % 10 := d2
        rw [val_snoc, i3, d2']; omega
      · rw [List.head?_append] at e
        obtain ⟨x, t, ex⟩ := List.exists_cons_of_ne_nil i1
        rw [ex] at e i4
        have := i4 (by simpa using e)
        omega
theorem dec_len {n : Nat} (h : n ≤ 999999999) : (Lib.decDigits n).length ≤ 9 := by
  rw [Lib.decDigits_length]
  rcases Nat.lt_or_ge 9 (Lib.nDigits n) with h1 | h1
  · exfalso
    have aux : ∀ (k n : Nat), k + 1 ≤ Lib.nDigits n → 1 ≤ k → 10 ^ k ≤ n := by
      intro k
      induction k with
      | zero => intro n _ h; omega
      | succ k ih =>
        intro n hn _
        by_cases h : n < 10
        · rw [Lib.nDigits_small h] at hn; omega
        · rw [Lib.nDigits_big h] at hn
          rcases Nat.eq_zero_or_pos k with rfl | hk
          · simp; omega
          · have := ih (n / 10) (by omega) hk
            rw [Nat.pow_succ]; omega
    have := aux 9 n (by omega) (by omega)
    omega
  · exact h1
theorem num_dec {n : Nat} (h : n ≤ 999999999) : numL (Lib.decDigits n) = some n := by
  obtain ⟨h1, h2, h3, h4⟩ := dec_facts n
  unfold numL
  rw [if_pos ⟨h1, dec_len h, fun e => e.2 (by rw [h4 e.1, Lib.decDigits, dif_pos (by decide)]; rfl), h2⟩, h3]
theorem dec_no (n : Nat) : (32 : UInt8) ∉ Lib.decDigits n := fun h => by
  have := List.all_eq_true.1 (dec_facts n).2.1 32 h
  exact absurd this (by decide)
/-! texts -/
def hx (b : UInt8) : Option Nat := if 48 ≤ b.toNat ∧ b.toNat ≤ 57 then some (b.toNat - 48) else if 97 ≤ b.toNat ∧ b.toNat ≤ 102 then some (b.toNat - 87) else none
def hxd (n : Nat) : UInt8 := if n < 10 then UInt8.ofNat (48 + n) else UInt8.ofNat (87 + n)
theorem hx_hxd {n : Nat} (h : n < 16) : hx (hxd n) = some n := by
  have : ∀ k : Fin 16, hx (hxd k.val) = some k.val := by decide
  exact this ⟨n, h⟩
theorem hx_some {b : UInt8} {n : Nat} (h : hx b = some n) : hxd n = b ∧ n < 16 := by
  unfold hx at h
  split at h
  · rename_i e; cases h
    refine ⟨?_, by omega⟩
    unfold hxd; rw [if_pos (by omega), show 48 + (b.toNat - 48) = b.toNat by omega]; simp
  · split at h
    · rename_i e; cases h
      refine ⟨?_, by omega⟩
      unfold hxd; rw [if_neg (by omega), show 87 + (b.toNat - 87) = b.toNat by omega]; simp
    · cases h
def pairs : List UInt8 → Option (List UInt8)
  | [] => some []
  | [_] => none
  | a :: b :: r => (hx a).bind fun x => (hx b).bind fun y => (pairs r).map fun t => UInt8.ofNat (16 * x + y) :: t
def hex2 : List UInt8 → List UInt8
  | [] => []
  | b :: t => hxd (b.toNat / 16) :: hxd (b.toNat % 16) :: hex2 t
def hexL (s : List UInt8) : List UInt8 := if s = [] then [45] else hex2 s
def textL (w : List UInt8) : Option (List UInt8) := if w = [45] then some [] else if w = [] ∨ 1800 < w.length then none else pairs w
theorem pairs_hex : ∀ s : List UInt8, pairs (hex2 s) = some s
  | [] => rfl
  | b :: t => by
    have hb := b.toNat_lt
    rw [hex2, pairs, hx_hxd (by omega), hx_hxd (Nat.mod_lt _ (by decide)), pairs_hex t]
    simp only [Option.bind_some, Option.map_some]
    rw [show 16 * (b.toNat / 16) + b.toNat % 16 = b.toNat by omega]; simp
theorem hex_pairs : ∀ (w t : List UInt8), pairs w = some t → hex2 t = w
  | [], t, h => by simp [pairs] at h; subst h; rfl
  | [_], t, h => by simp [pairs] at h
  | a :: b :: r, t, h => by
    unfold pairs at h
    cases ha : hx a with
    | none => rw [ha] at h; cases h
    | some x =>
    cases hb : hx b with
    | none => rw [ha, hb] at h; cases h
    | some y =>
    cases hr : pairs r with
    | none => rw [ha, hb, hr] at h; cases h
    | some u =>
    rw [ha, hb, hr] at h
    simp only [Option.bind_some, Option.map_some, Option.some.injEq] at h
    subst h
    obtain ⟨a1, a2⟩ := hx_some ha
    obtain ⟨b1, b2⟩ := hx_some hb
    have e : (UInt8.ofNat (16 * x + y)).toNat = 16 * x + y := by rw [UInt8.toNat_ofNat']; omega
    rw [hex2, e, show (16 * x + y) / 16 = x by omega, show (16 * x + y) % 16 = y by omega, a1, b1, hex_pairs r u hr]
theorem hex2_len : ∀ s : List UInt8, (hex2 s).length = 2 * s.length
  | [] => rfl
  | b :: t => by rw [hex2, List.length_cons, List.length_cons, hex2_len t, List.length_cons]; omega
theorem hex2_dash {s : List UInt8} : hex2 s ≠ [45] := fun h => by have := congrArg List.length h; rw [hex2_len] at this; simp at this; omega
theorem text_hex {s : List UInt8} (h : s.length ≤ 900) : textL (hexL s) = some s := by
  unfold textL hexL
  by_cases e : s = []
  · subst e; rfl
  · have hl := hex2_len s
    have hp : 0 < s.length := List.length_pos_iff.2 e
    rw [if_neg e, if_neg hex2_dash, if_neg (by
      rintro (h1 | h1)
      · rw [h1] at hl; simp at hl; omega
      · omega), pairs_hex]
theorem text_some {w t : List UInt8} (h : textL w = some t) : hexL t = w ∧ t.length ≤ 900 := by
  unfold textL at h
  split at h
  · rename_i e; cases h; exact ⟨e.symm, by simp⟩
  · split at h
    · cases h
    · rename_i e' e
      have h1 := hex_pairs w t h
      have hl := hex2_len t
      rw [h1] at hl
      refine ⟨?_, by omega⟩
      unfold hexL
      rw [if_neg (by rintro rfl; simp [hex2] at h1; exact e (.inl h1)), h1]
theorem hxd_no {n : Nat} (h : n < 16) : hxd n ≠ 32 := by
  have : ∀ k : Fin 16, hxd k.val ≠ 32 := by decide
  exact this ⟨n, h⟩
theorem hex2_no : ∀ s : List UInt8, (32 : UInt8) ∉ hex2 s
  | [] => by simp [hex2]
  | b :: t => by
    have hb := b.toNat_lt
    intro h
    rcases List.mem_cons.1 h with h | h
    · exact hxd_no (by omega) h.symm
    · rcases List.mem_cons.1 h with h | h
      · exact hxd_no (Nat.mod_lt _ (by decide)) h.symm
      · exact hex2_no t h
theorem hex_no (s : List UInt8) : (32 : UInt8) ∉ hexL s := by
  unfold hexL
  split
  · decide
  · exact hex2_no s
/-! commands -/
structure Cm where
  word : List UInt8
  names : List (List UInt8)
  nums : List Int
  text : List UInt8
def tab : List (List UInt8 × List UInt8) := [([119, 111, 114, 108, 100], [110, 35, 35, 35, 35, 35, 35]), ([103, 114, 97, 110, 116], [110, 110]), ([114, 101, 118, 111, 107, 101], [110]), ([106, 111, 105, 110], [110, 110]), ([99, 117, 116], [110]), ([102, 111, 114, 119, 97, 114, 100], [110, 110]), ([99, 97, 110, 99, 101, 108], [110, 110]), ([98, 101, 97, 116], [110]), ([100, 105, 97, 108], [110, 110, 110]), ([115, 97, 121], [110, 35, 116]), ([104, 101, 97, 114], [110, 35, 35]), ([101, 110, 100], [110, 35]), ([99, 97, 114, 114, 121], [110, 35, 35]), ([114, 117, 110], [35]), ([116, 105, 99, 107], [35]), ([107, 101, 101, 112], [110, 110, 35, 35, 35, 42]), ([108, 101, 97, 118, 101], [110]), ([116, 111, 108, 100], [110]), ([110, 97, 109, 101, 115], []), ([108, 101, 97, 115, 101, 115], []), ([115, 116, 114, 101, 97, 109, 115], []), ([107, 101, 112, 116], []), ([115, 97, 118, 101], [110, 35]), ([108, 111, 97, 100], [110, 35, 116])]
def shp (w : List UInt8) : Option (List UInt8) := (tab.find? fun r => r.1 == w).map (·.2)
def stem (sh : List UInt8) : List UInt8 := Lib.trimSuffix sh [42]
def opn (sh : List UInt8) : Bool := Lib.hasSuffix sh [42]
def letters (sh : List UInt8) : List UInt8 := stem sh ++ if opn sh then List.replicate 16 110 else []
def put (c : UInt8) (w : List UInt8) (s : Cm) : Option Cm :=
  if c = 35 then (numL w).map fun n => { s with nums := s.nums ++ [(n : Int)] }
  else if c = 116 then (textL w).map fun t => { s with text := t }
  else (nmL w).map fun n => { s with names := s.names ++ [n] }
def go : List UInt8 → List (List UInt8) → Cm → Option Cm
  | _, [], s => some s
  | [], _ :: _, _ => none
  | c :: cs, w :: ws, s => (put c w s).bind (go cs ws)
def ok (sh : List UInt8) (c : Cm) : Prop := sh.count 110 ≤ c.names.length ∧ c.names.length ≤ sh.count 110 + 16 * sh.count 42 ∧ c.nums.length = sh.count 35 ∧ c.text.length ≤ 900 * sh.count 116 ∧ (∀ x ∈ c.names, okN x) ∧ ∀ k ∈ c.nums, 0 ≤ k ∧ k ≤ 999999999
instance (sh : List UInt8) (c : Cm) : Decidable (ok sh c) := by unfold ok; infer_instance
def wr : List UInt8 → List (List UInt8) → List Int → List UInt8 → List (List UInt8)
  | [], ns, _, _ => ns.map wn
  | c :: cs, ns, ks, t => if c = 35 then Lib.itoa (ks.headD 0) :: wr cs ns ks.tail t else if c = 116 then hexL t :: wr cs ns ks t else if c = 110 then wn (ns.headD []) :: wr cs ns.tail ks t else wr cs ns ks t
def chk (c : Cm) : Nat := match shp c.word with
  | none => 20
  | some sh => if ok sh c then 0 else 3
def line (c : Cm) : List UInt8 := match shp c.word with
  | none => []
  | some sh => if ok sh c then jn (c.word :: wr sh c.names c.nums c.text) else []
def parse (s : List UInt8) : Except Nat Cm :=
  if 2000 < s.length then .error 4 else
  match sp s with
  | [] => .error 20
  | w :: ws => match shp w with
    | none => .error 20
    | some sh => if ws.length < (stem sh).length then .error 3 else match go (letters sh) ws ⟨w, [], [], []⟩ with
      | none => .error 3
      | some c => .ok c
/-- words read by letters -/
inductive Rel : List UInt8 → List (List UInt8) → List (List UInt8) → List Int → List (List UInt8) → Prop
  | nil : Rel [] [] [] [] []
  | num {cs ws ns ks ts w n} : numL w = some n → Rel cs ws ns ks ts → Rel (35 :: cs) (w :: ws) ns ((n : Int) :: ks) ts
  | text {cs ws ns ks ts w t} : textL w = some t → Rel cs ws ns ks ts → Rel (116 :: cs) (w :: ws) ns ks (t :: ts)
  | name {cs ws ns ks ts w x} : nmL w = some x → Rel cs ws ns ks ts → Rel (110 :: cs) (w :: ws) (x :: ns) ks ts
def lets (cs : List UInt8) : Prop := ∀ x ∈ cs, x = 35 ∨ x = 116 ∨ x = 110
theorem go_rel : ∀ (cs : List UInt8) (ws : List (List UInt8)) (c c' : Cm), lets cs → go cs ws c = some c' →
    ∃ ns ks ts, c' = ⟨c.word, c.names ++ ns, c.nums ++ ks, ts.getLastD c.text⟩ ∧ Rel (cs.take ws.length) ws ns ks ts ∧ ws.length ≤ cs.length
  | cs, [], c, c', _, h => by
    have : c = c' := by cases cs <;> simpa [go] using h
    subst this
    exact ⟨[], [], [], by simp, by simp; exact .nil, by simp⟩
  | [], _ :: _, c, c', _, h => by simp [go] at h
  | x :: cs, w :: ws, c, c', hl, h => by
    have hl' : lets cs := fun y hy => hl y (by simp [hy])
    unfold go at h
    rcases hl x (by simp) with rfl | rfl | rfl
    · unfold put at h
      rw [if_pos rfl] at h
      cases hn : numL w with
      | none => rw [hn] at h; cases h
      | some n =>
        rw [hn] at h
        obtain ⟨ns, ks, ts, e, hr, hlen⟩ := go_rel cs ws _ c' hl' h
        exact ⟨ns, n :: ks, ts, by rw [e]; simp, .num hn hr, by simpa using hlen⟩
    · unfold put at h
      rw [if_neg (by decide), if_pos rfl] at h
      cases hn : textL w with
      | none => rw [hn] at h; cases h
      | some n =>
        rw [hn] at h
        obtain ⟨ns, ks, ts, e, hr, hlen⟩ := go_rel cs ws _ c' hl' h
        refine ⟨ns, ks, n :: ts, ?_, .text hn hr, by simpa using hlen⟩
        rw [e]; cases ts <;> simp [List.getLastD]
    · unfold put at h
      rw [if_neg (by decide), if_neg (by decide)] at h
      cases hn : nmL w with
      | none => rw [hn] at h; cases h
      | some n =>
        rw [hn] at h
        obtain ⟨ns, ks, ts, e, hr, hlen⟩ := go_rel cs ws _ c' hl' h
        exact ⟨n :: ns, ks, ts, by rw [e]; simp, .name hn hr, by simpa using hlen⟩
theorem rel_go {cs : List UInt8} {ws : List (List UInt8)} {ns : List (List UInt8)} {ks : List Int} {ts : List (List UInt8)} (h : Rel cs ws ns ks ts) : ∀ (more : List UInt8) (c : Cm),
    go (cs ++ more) ws c = some ⟨c.word, c.names ++ ns, c.nums ++ ks, ts.getLastD c.text⟩ := by
  induction h with
  | nil => intro more c; cases more <;> simp [go, List.getLastD]
  | num hn _ ih => intro more c; rw [List.cons_append, go, put, if_pos rfl, hn]; simp [ih]
  | @text cs ws ns ks ts w t hn _ ih =>
    intro more c
    rw [List.cons_append, go, put, if_neg (by decide), if_pos rfl, hn]
    simp only [Option.map_some, Option.bind_some, ih]
    cases ts <;> simp [List.getLastD]
  | name hn _ ih => intro more c; rw [List.cons_append, go, put, if_neg (by decide), if_neg (by decide), hn]; simp [ih]
theorem Rel.facts {cs : List UInt8} {ws : List (List UInt8)} {ns : List (List UInt8)} {ks : List Int} {ts : List (List UInt8)} (h : Rel cs ws ns ks ts) :
    ns.length = cs.count 110 ∧ ks.length = cs.count 35 ∧ ts.length = cs.count 116 ∧ (∀ x ∈ ns, okN x) ∧ (∀ k ∈ ks, 0 ≤ k ∧ k ≤ 999999999) ∧ (∀ t ∈ ts, t.length ≤ 900) := by
  induction h with
  | nil => simp
  | num hn _ ih =>
    obtain ⟨h1, h2, h3, h4, h5, h6⟩ := ih
    have := (num_some hn).2
    refine ⟨by simp [h1], by simp [h2], by simp [h3], h4, ?_, h6⟩
    intro k hk
    rcases List.mem_cons.1 hk with rfl | hk
    · omega
    · exact h5 k hk
  | text hn _ ih =>
    obtain ⟨h1, h2, h3, h4, h5, h6⟩ := ih
    refine ⟨by simp [h1], by simp [h2], by simp [h3], h4, h5, ?_⟩
    intro k hk
    rcases List.mem_cons.1 hk with rfl | hk
    · exact (text_some hn).2
    · exact h6 k hk
  | name hn _ ih =>
    obtain ⟨h1, h2, h3, h4, h5, h6⟩ := ih
    refine ⟨by simp [h1], by simp [h2], by simp [h3], ?_, h5, h6⟩
    intro k hk
    rcases List.mem_cons.1 hk with rfl | hk
    · exact (nm_some hn).1
    · exact h4 k hk
theorem itoa_nat (n : Nat) : Lib.itoa (n : Int) = Lib.decDigits n := by
  unfold Lib.itoa
  rw [if_neg (by omega)]; rfl
theorem Rel.eq {cs : List UInt8} {ws : List (List UInt8)} {ns : List (List UInt8)} {ks : List Int} {ts : List (List UInt8)} {t : List UInt8} (h : Rel cs ws ns ks ts) (ht : ∀ x ∈ ts, x = t) : wr cs ns ks t = ws := by
  induction h with
  | nil => rfl
  | num hn _ ih => rw [wr, if_pos rfl, List.headD_cons, List.tail_cons, ih ht, itoa_nat, (num_some hn).1]
  | text hn _ ih =>
    have e := ht _ List.mem_cons_self
    rw [wr, if_neg (by decide), if_pos rfl, ih (fun x hx => ht x (by simp [hx])), ← e, (text_some hn).1]
  | name hn _ ih => rw [wr, if_neg (by decide), if_neg (by decide), if_pos rfl, List.headD_cons, List.tail_cons, ih ht, (nm_some hn).2]
theorem Rel.mk {t : List UInt8} (ht : t.length ≤ 900) : ∀ (cs : List UInt8) (ns : List (List UInt8)) (ks : List Int), lets cs → ns.length = cs.count 110 → ks.length = cs.count 35 → (∀ x ∈ ns, okN x) → (∀ k ∈ ks, 0 ≤ k ∧ k ≤ 999999999) →
    Rel cs (wr cs ns ks t) ns ks (List.replicate (cs.count 116) t)
  | [], ns, ks, _, h1, h2, _, _ => by
    have e1 : ns = [] := List.eq_nil_of_length_eq_zero (by simpa using h1)
    have e2 : ks = [] := List.eq_nil_of_length_eq_zero (by simpa using h2)
    subst e1 e2; exact .nil
  | c :: cs, ns, ks, hl, h1, h2, h3, h4 => by
    have hl' : lets cs := fun y hy => hl y (by simp [hy])
    rcases hl c (by simp) with rfl | rfl | rfl
    · cases ks with
      | nil => simp at h2
      | cons k ks =>
        obtain ⟨k0, k1⟩ := h4 k (by simp)
        obtain ⟨n, rfl⟩ := Int.eq_ofNat_of_zero_le k0
        rw [wr, if_pos rfl, List.headD_cons, List.tail_cons, itoa_nat]
        exact .num (num_dec (by omega)) (Rel.mk ht cs ns ks hl' (by simpa using h1) (by simpa using h2) h3 (fun x hx => h4 x (by simp [hx])))
    · rw [wr, if_neg (by decide), if_pos rfl, List.count_cons_self, List.replicate_succ]
      exact .text (text_hex ht) (Rel.mk ht cs ns ks hl' (by simpa using h1) (by simpa using h2) h3 h4)
    · cases ns with
      | nil => simp at h1
      | cons x ns =>
        rw [wr, if_neg (by decide), if_neg (by decide), if_pos rfl, List.headD_cons, List.tail_cons]
        exact .name (nm_wn (h3 x (by simp))) (Rel.mk ht cs ns ks hl' (by simpa using h1) (by simpa using h2) (fun x hx => h3 x (by simp [hx])) h4)
theorem wr_star : ∀ (cs : List UInt8) (ns : List (List UInt8)) (ks : List Int) (t : List UInt8), wr (cs ++ [42]) ns ks t = wr cs ns ks t
  | [], ns, ks, t => by simp [wr]
  | c :: cs, ns, ks, t => by simp only [List.cons_append, wr, wr_star cs]
theorem wr_rep (ks : List Int) (t : List UInt8) : ∀ (j : Nat) (ns : List (List UInt8)), ns.length = j → wr (List.replicate j 110) ns ks t = ns.map wn
  | 0, ns, h => by rw [List.eq_nil_of_length_eq_zero h]; rfl
  | j + 1, [], h => by simp at h
  | j + 1, x :: ns, h => by
    rw [List.replicate_succ, wr, if_neg (by decide), if_neg (by decide), if_pos rfl, List.headD_cons, List.tail_cons, wr_rep ks t j ns (by simpa using h)]; rfl
theorem wr_more : ∀ (cs : List UInt8) (ns : List (List UInt8)) (ks : List Int) (t : List UInt8) (j : Nat), ns.length = cs.count 110 + j → wr (cs ++ List.replicate j 110) ns ks t = wr cs ns ks t
  | [], ns, ks, t, j, h => by rw [List.nil_append, wr_rep ks t j ns (by simpa using h)]; rfl
  | c :: cs, ns, ks, t, j, h => by
    by_cases h1 : c = 35
    · subst h1; simp only [List.cons_append, wr, if_pos]; rw [wr_more cs ns _ t j (by simpa using h)]
    · by_cases h2 : c = 116
      · subst h2; simp only [List.cons_append, wr, if_neg (show ¬ (116 : UInt8) = 35 by decide), if_pos]; rw [wr_more cs ns _ t j (by simpa using h)]
      · by_cases h3 : c = 110
        · subst h3
          cases ns with
          | nil => simp at h; omega
          | cons x ns => simp only [List.cons_append, wr, if_neg (show ¬ (110 : UInt8) = 35 by decide), if_neg (show ¬ (110 : UInt8) = 116 by decide), if_pos, List.tail_cons]; rw [wr_more cs ns _ t j (by simp at h; omega)]
        · simp only [List.cons_append, wr, if_neg h1, if_neg h2, if_neg h3]
          rw [wr_more cs ns _ t j (by rw [List.count_cons_of_ne (fun e => h3 e)] at h; exact h)]
/-! the table -/
theorem shp_mem {w sh : List UInt8} (h : shp w = some sh) : (w, sh) ∈ tab := by
  unfold shp at h
  cases hf : tab.find? (fun r => r.1 == w) with
  | none => rw [hf] at h; cases h
  | some r =>
    rw [hf] at h
    have h1 := List.mem_of_find?_eq_some hf
    have h2 := List.find?_some hf
    simp at h h2
    obtain ⟨a, b⟩ := r
    simp at h h2
    subst h h2
    exact h1
theorem tab_facts : ∀ r ∈ tab, r.2 = stem r.2 ++ (if opn r.2 then [42] else []) ∧ (∀ x ∈ stem r.2, x = 35 ∨ x = 116 ∨ x = 110) ∧ r.2.count 110 = (stem r.2).count 110 ∧ r.2.count 35 = (stem r.2).count 35 ∧ r.2.count 116 = (stem r.2).count 116 ∧ r.2.count 116 ≤ 1 ∧ r.2.count 42 = (if opn r.2 then 1 else 0) ∧ (32 : UInt8) ∉ r.1 ∧ r.1 ≠ [] ∧ r.1.length + 65 * (r.2.count 110 + 16 * r.2.count 42) + 10 * r.2.count 35 + 1801 * r.2.count 116 ≤ 2000 := by decide +kernel
theorem lets_app {a b : List UInt8} (ha : lets a) (hb : lets b) : lets (a ++ b) := fun x hx => by
  rcases List.mem_append.1 hx with h | h
  · exact ha x h
  · exact hb x h
theorem lets_rep (j : Nat) : lets (List.replicate j 110) := fun _ hx => .inr (.inr (List.eq_of_mem_replicate hx))
theorem lets_letters {w sh : List UInt8} (h : shp w = some sh) : lets (letters sh) := by
  have := (tab_facts _ (shp_mem h)).2.1
  unfold letters
  refine lets_app this ?_
  split
  · exact lets_rep 16
  · intro x hx; cases hx
theorem count_rep (a b : UInt8) (j : Nat) (h : b ≠ a) : (List.replicate j b).count a = 0 := by rw [List.count_replicate, if_neg (by simpa using h)]
/-- what is read is written back -/
theorem fwd {s : List UInt8} {c : Cm} (h : parse s = .ok c) : chk c = 0 ∧ line c = s ∧ c.word ≠ [] := by
  unfold parse at h
  split at h
  · cases h
  · cases hs : sp s with
    | nil => exact absurd hs (sp_ne s)
    | cons w ws =>
      rw [hs] at h
      simp only at h
      cases hsh : shp w with
      | none => rw [hsh] at h; cases h
      | some sh =>
        rw [hsh] at h
        simp only at h
        split at h
        · cases h
        · rename_i hlen
          cases hg : go (letters sh) ws ⟨w, [], [], []⟩ with
          | none => rw [hg] at h; cases h
          | some c' =>
            rw [hg] at h
            injection h with h
            subst h
            obtain ⟨ns, ks, ts, e, hr, hl⟩ := go_rel _ _ _ _ (lets_letters hsh) hg
            obtain ⟨t1, t2, t3, t4, t5, t6, t7, t8, t9, t10⟩ := tab_facts _ (shp_mem hsh)
            simp only at t1 t2 t3 t4 t5 t6 t7 t8 t9 t10
            simp only [List.nil_append] at e
            have htk : (letters sh).take ws.length = stem sh ++ List.replicate (ws.length - (stem sh).length) 110 ∧ ws.length - (stem sh).length ≤ 16 * sh.count 42 := by
              unfold letters at hl ⊢
              rw [List.take_append, List.take_of_length_le (by omega)]
              by_cases ho : opn sh = true
              · rw [if_pos ho] at hl t7 ⊢
                rw [List.take_replicate, t7]
                rw [List.length_append, List.length_replicate] at hl
                exact ⟨by rw [Nat.min_eq_left (by omega)], by omega⟩
              · rw [if_neg ho] at hl ⊢
                rw [List.append_nil] at hl
                rw [show ws.length - (stem sh).length = 0 by omega]
                exact ⟨by simp, by omega⟩
            obtain ⟨htk, hj⟩ := htk
            rw [htk] at hr
            obtain ⟨f1, f2, f3, f4, f5, f6⟩ := hr.facts
            rw [List.count_append, List.count_replicate_self] at f1
            rw [List.count_append, count_rep _ _ _ (by decide)] at f2 f3
            have htx : ∀ x ∈ ts, x = ts.getLastD [] := by
              match ts, f3 with
              | [], _ => intro x hx; cases hx
              | [a], _ => intro x hx; simp at hx; subst hx; rfl
              | a :: b :: r, f3 => simp at f3; omega
            have hw := hr.eq htx
            rw [wr_more _ _ _ _ _ f1] at hw
            have hok : ok sh c' := by
              rw [e]
              refine ⟨by simp only; omega, by simp only; omega, by simp only; omega, ?_, f4, f5⟩
              simp only
              match ts, f3, f6 with
              | [], _, _ => simp [List.getLastD]
              | [a], f3, f6 => have := f6 a (by simp); simp [List.getLastD] at f3 ⊢; omega
              | a :: b :: r, f3, _ => simp at f3; omega
            have hww : wr sh c'.names c'.nums c'.text = ws := by
              rw [e]
              rw [t1]
              by_cases ho : opn sh = true
              · rw [if_pos ho, wr_star]; exact hw
              · rw [if_neg ho, List.append_nil]; exact hw
            have hcw : c'.word = w := by rw [e]
            refine ⟨?_, ?_, by rw [hcw]; exact t9⟩
            · unfold chk; rw [hcw, hsh]; simp only [if_pos hok]
            · unfold line; rw [hcw, hsh]; simp only [if_pos hok]; rw [hww, ← hs, jn_sp]
theorem flat_len (n : Nat) (l : List (List UInt8)) (h : ∀ x ∈ l, x.length ≤ n) : ((l.map (32 :: ·)).flatten).length ≤ (n + 1) * l.length := by
  induction l with
  | nil => simp
  | cons a t ih =>
    have := ih (fun x hx => h x (by simp [hx]))
    have h1 := h a (by simp)
    simp only [List.map_cons, List.flatten_cons, List.length_append, List.length_cons, Nat.mul_succ]
    omega
theorem wn_len {x : List UInt8} (h : okN x) : (wn x).length ≤ 64 := by
  unfold wn; split
  · simp
  · exact h.2.1
/-- how long the words are -/
theorem wr_len {t : List UInt8} (ht : t.length ≤ 900) : ∀ (cs : List UInt8) (ns : List (List UInt8)) (ks : List Int), lets cs → ns.length = cs.count 110 → ks.length = cs.count 35 → (∀ x ∈ ns, okN x) → (∀ k ∈ ks, 0 ≤ k ∧ k ≤ 999999999) →
    (((wr cs ns ks t).map (32 :: ·)).flatten).length ≤ 65 * cs.count 110 + 10 * cs.count 35 + 1801 * cs.count 116 ∧ ∀ y ∈ wr cs ns ks t, (32 : UInt8) ∉ y
  | [], ns, ks, _, h1, h2, _, _ => by
    have e1 : ns = [] := List.eq_nil_of_length_eq_zero (by simpa using h1)
    subst e1; simp [wr]
  | c :: cs, ns, ks, hl, h1, h2, h3, h4 => by
    have hl' : lets cs := fun y hy => hl y (by simp [hy])
    rcases hl c (by simp) with rfl | rfl | rfl
    · cases ks with
      | nil => simp at h2
      | cons k ks =>
        obtain ⟨k0, k1⟩ := h4 k (by simp)
        obtain ⟨n, rfl⟩ := Int.eq_ofNat_of_zero_le k0
        rw [wr, if_pos rfl, List.headD_cons, List.tail_cons, itoa_nat]
        obtain ⟨i1, i2⟩ := wr_len ht cs ns ks hl' (by simpa using h1) (by simpa using h2) h3 (fun x hx => h4 x (by simp [hx]))
        have := dec_len (n := n) (by omega)
        refine ⟨by simp at i1 ⊢; omega, fun y hy => ?_⟩
        rcases List.mem_cons.1 hy with rfl | hy
        · exact dec_no n
        · exact i2 y hy
    · rw [wr, if_neg (by decide), if_pos rfl]
      obtain ⟨i1, i2⟩ := wr_len ht cs ns ks hl' (by simpa using h1) (by simpa using h2) h3 h4
      have : (hexL t).length ≤ 1800 := by
        unfold hexL; split
        · simp
        · rw [hex2_len]; omega
      refine ⟨by simp at i1 ⊢; omega, fun y hy => ?_⟩
      rcases List.mem_cons.1 hy with rfl | hy
      · exact hex_no t
      · exact i2 y hy
    · cases ns with
      | nil => simp at h1
      | cons x ns =>
        rw [wr, if_neg (by decide), if_neg (by decide), if_pos rfl, List.headD_cons, List.tail_cons]
        obtain ⟨i1, i2⟩ := wr_len ht cs ns ks hl' (by simpa using h1) (by simpa using h2) (fun x hx => h3 x (by simp [hx])) h4
        have := wn_len (h3 x (by simp))
        refine ⟨by simp at i1 ⊢; omega, fun y hy => ?_⟩
        rcases List.mem_cons.1 hy with rfl | hy
        · exact wn_no (h3 x (by simp))
        · exact i2 y hy
/-- what is written is read back -/
theorem back {c : Cm} (h : chk c = 0) : parse (line c) = .ok c ∧ (line c).length ≤ 2000 := by
  unfold chk at h
  cases hsh : shp c.word with
  | none => rw [hsh] at h; cases h
  | some sh =>
    rw [hsh] at h
    simp only at h
    split at h
    · rename_i hok
      obtain ⟨o1, o2, o3, o4, o5, o6⟩ := hok
      obtain ⟨t1, t2, t3, t4, t5, t6, t7, t8, t9, t10⟩ := tab_facts _ (shp_mem hsh)
      simp only at t1 t2 t3 t4 t5 t6 t7 t8 t9 t10
      have ht : c.text.length ≤ 900 := by omega
      obtain ⟨j, hj⟩ : ∃ j, j = c.names.length - sh.count 110 := ⟨_, rfl⟩
      have hcs : lets (stem sh ++ List.replicate j 110) := lets_app t2 (lets_rep j)
      have h1 : c.names.length = (stem sh ++ List.replicate j 110).count 110 := by rw [List.count_append, List.count_replicate_self]; omega
      have h2 : c.nums.length = (stem sh ++ List.replicate j 110).count 35 := by rw [List.count_append, count_rep _ _ _ (by decide)]; omega
      have hr := Rel.mk ht _ _ _ hcs h1 h2 o5 o6
      have hln := wr_len ht _ _ _ hcs h1 h2 o5 o6
      have hw : wr (stem sh ++ List.replicate j 110) c.names c.nums c.text = wr sh c.names c.nums c.text := by
        rw [wr_more _ _ _ _ _ (by omega)]
        conv => rhs; rw [t1]
        split
        · rw [wr_star]
        · rw [List.append_nil]
      have h3 : (stem sh ++ List.replicate j 110).count 116 = sh.count 116 := by rw [List.count_append, count_rep _ _ _ (by decide)]; omega
      rw [hw] at hr hln
      obtain ⟨l1, l2⟩ := hln
      rw [h3, ← h1, ← h2] at l1
      have hline : line c = jn (c.word :: wr sh c.names c.nums c.text) := by unfold line; rw [hsh]; simp only; rw [if_pos ⟨o1, o2, o3, o4, o5, o6⟩]
      have hlen : (line c).length ≤ 2000 := by rw [hline, jn_tail, List.length_append]; omega
      refine ⟨?_, hlen⟩
      unfold parse
      rw [if_neg (by omega), hline, sp_jn _ _ (by
        intro y hy
        rcases List.mem_cons.1 hy with rfl | hy
        · exact t8
        · exact l2 y hy)]
      simp only [hsh]
      have hwl : (wr sh c.names c.nums c.text).length = (stem sh ++ List.replicate j 110).length := by
        have : ∀ {cs : List UInt8} {ws ns : List (List UInt8)} {ks : List Int} {ts : List (List UInt8)}, Rel cs ws ns ks ts → ws.length = cs.length := by
          intro cs ws ns ks ts h
          induction h with
          | nil => rfl
          | num _ _ ih => simp [ih]
          | text _ _ ih => simp [ih]
          | name _ _ ih => simp [ih]
        exact this hr
      rw [if_neg (by rw [hwl, List.length_append]; omega)]
      have hlet : ∃ more, letters sh = stem sh ++ List.replicate j 110 ++ more := by
        unfold letters
        by_cases ho : opn sh = true
        · rw [if_pos ho] at t7 ⊢
          refine ⟨List.replicate (16 - j) 110, ?_⟩
          rw [List.append_assoc, List.replicate_append_replicate, show j + (16 - j) = 16 by omega]
        · rw [if_neg ho] at t7 ⊢
          refine ⟨[], ?_⟩
          rw [show j = 0 by omega]; simp
      obtain ⟨more, hmore⟩ := hlet
      rw [hmore, rel_go hr]
      simp only [List.nil_append]
      have hts : (List.replicate ((stem sh ++ List.replicate j 110).count 116) c.text).getLastD [] = c.text := by
        rw [h3]
        rcases Nat.eq_zero_or_pos (sh.count 116) with h0 | h0
        · rw [h0] at o4 ⊢
          simp at o4
          rw [o4]; rfl
        · rw [show sh.count 116 = 1 by omega]; rfl
      rw [hts]
    · cases h
end Go.Proofs.YtonjgfbefhefjaaDoor.Ln
