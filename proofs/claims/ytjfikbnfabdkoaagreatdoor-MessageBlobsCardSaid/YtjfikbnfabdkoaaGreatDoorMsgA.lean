/- Messages: the plain law. Messages: the reference's order of looking. How long a message's bytes are. -/
import Derived.Test.YtjfikbnfabdkoaaGreatDoorWirC
set_option linter.unusedVariables false
set_option linter.unusedSimpArgs false
namespace Go.Proofs.YtjfikbnfabdkoaaGreatDoor.Mg
open Go.Proofs.YtjfikbnfabdkoaaGreatDoor.Wi Go.Proofs.YtjfikbnfabdkoaaGreatDoor.Be
/-- kinds, their names, their letters -/
def rowsL : List (Nat × List UInt8 × List UInt8) := [
  (1, [100, 105, 115, 99, 111, 110, 110, 101, 99, 116], [117, 115, 115]),
  (2, [105, 103, 110, 111, 114, 101], [115]),
  (3, [117, 110, 105, 109, 112, 108, 101, 109, 101, 110, 116, 101, 100], [117]),
  (4, [100, 101, 98, 117, 103], [98, 115, 115]),
  (5, [115, 101, 114, 118, 105, 99, 101, 45, 114, 101, 113, 117, 101, 115, 116], [115]),
  (6, [115, 101, 114, 118, 105, 99, 101, 45, 97, 99, 99, 101, 112, 116], [115]),
  (20, [107, 101, 120, 105, 110, 105, 116], [99, 110, 110, 110, 110, 110, 110, 110, 110, 110, 110, 98, 117]),
  (21, [110, 101, 119, 107, 101, 121, 115], []),
  (30, [101, 99, 100, 104, 45, 105, 110, 105, 116], [115]),
  (31, [101, 99, 100, 104, 45, 114, 101, 112, 108, 121], [115, 115, 115]),
  (50, [97, 117, 116, 104, 45, 114, 101, 113, 117, 101, 115, 116], [115, 115, 115, 114]),
  (51, [97, 117, 116, 104, 45, 102, 97, 105, 108, 117, 114, 101], [110, 98]),
  (52, [97, 117, 116, 104, 45, 115, 117, 99, 99, 101, 115, 115], []),
  (53, [98, 97, 110, 110, 101, 114], [115, 115]),
  (60, [112, 107, 45, 111, 107], [115, 115]),
  (80, [103, 108, 111, 98, 97, 108, 45, 114, 101, 113, 117, 101, 115, 116], [115, 98, 114]),
  (81, [114, 101, 113, 117, 101, 115, 116, 45, 115, 117, 99, 99, 101, 115, 115], [114]),
  (82, [114, 101, 113, 117, 101, 115, 116, 45, 102, 97, 105, 108, 117, 114, 101], []),
  (90, [111, 112, 101, 110], [115, 117, 117, 117, 114]),
  (91, [99, 111, 110, 102, 105, 114, 109], [117, 117, 117, 117, 114]),
  (92, [111, 112, 101, 110, 45, 102, 97, 105, 108, 117, 114, 101], [117, 117, 115, 115]),
  (93, [97, 100, 106, 117, 115, 116], [117, 117]),
  (94, [100, 97, 116, 97], [117, 115]),
  (95, [101, 120, 116, 101, 110, 100, 101, 100], [117, 117, 115]),
  (96, [101, 111, 102], [117]),
  (97, [99, 108, 111, 115, 101], [117]),
  (98, [99, 104, 97, 110, 110, 101, 108, 45, 114, 101, 113, 117, 101, 115, 116], [117, 115, 98, 114]),
  (99, [99, 104, 97, 110, 110, 101, 108, 45, 115, 117, 99, 99, 101, 115, 115], [117]),
  (100, [99, 104, 97, 110, 110, 101, 108, 45, 102, 97, 105, 108, 117, 114, 101], [117])]
def rowOf (k : Int) : Option (Nat × List UInt8 × List UInt8) := rowsL.find? fun r => decide ((r.1 : Int) = k)
def isK (k : Int) : Bool := (rowOf k).isSome
def ltr (k : Int) : List UInt8 := ((rowOf k).map (·.2.2)).getD []
def nam (k : Int) : List UInt8 := ((rowOf k).map (·.2.1)).getD []
/-- a message -/
structure Msg where
  kind : Int
  u : List Nat
  s : List ByteArray
  n : List (List ByteArray)
  b : List Bool
def cntS (l : List UInt8) : Nat := l.count 115 + l.count 99 + l.count 114
def counted (l : List UInt8) (m : Msg) : Bool := decide (m.u.length = l.count 117) && decide (m.s.length = cntS l) && decide (m.n.length = l.count 110) && decide (m.b.length = l.count 98)
def hd (s : List ByteArray) : ByteArray := s.headD ⟨#[]⟩
/-- are the fields wrong; is one too big? -/
def chk : List UInt8 → List ByteArray → List (List ByteArray) → Bool → Bool → Bool × Bool
  | [], _, _, w, b => (w, b)
  | c :: l, s, n, w, b =>
    if c = 99 then chk l s.tail n (decide ((hd s).size ≠ 16) || w) b
    else if c = 115 ∨ c = 114 then chk l s.tail n w (decide (32768 < (hd s).size) || b)
    else if c = 110 then chk l s n.tail (w || !(n.headD []).all okN) (b || ((n.headD []).all okN && decide (4096 < (joinC (n.headD [])).length)))
    else chk l s n w b
/-- the error's number -/
def checkC (m : Msg) : Nat :=
  if isK m.kind = false then 20 else if counted (ltr m.kind) m = false then 1
  else if (chk (ltr m.kind) m.s m.n false false).1 then 1 else if (chk (ltr m.kind) m.s m.n false false).2 then 4 else 0
/-- the fields' bytes -/
def enc : List UInt8 → List Nat → List ByteArray → List (List ByteArray) → List Bool → List UInt8
  | [], _, _, _, _ => []
  | c :: l, u, s, n, b =>
    if c = 117 then be 4 (u.headD 0) ++ enc l u.tail s n b
    else if c = 98 then [if b.headD false then 1 else 0] ++ enc l u s n b.tail
    else if c = 115 then textL (hd s).data.toList ++ enc l u s.tail n b
    else if c = 110 then textL (joinC (n.headD [])) ++ enc l u s n.tail b
    else (hd s).data.toList ++ enc l u s.tail n b
def bytesL (m : Msg) : List UInt8 := if checkC m ≠ 0 then [] else UInt8.ofNat m.kind.toNat :: enc (ltr m.kind) m.u m.s m.n m.b
/-- what the fields read as -/
def dec : List UInt8 → ByteArray → Nat → Msg → ByteArray × Nat × Msg
  | [], t, e, m => (t, e, m)
  | c :: l, t, e, m =>
    if c = 117 then dec l (rawS t e 4) (rawC t e 4) { m with u := m.u ++ [numV (rawR t e 4).data.toList] }
    else if c = 98 then dec l (rawS t e 1) (rawC t e 1) { m with b := m.b ++ [numV (rawR t e 1).data.toList != 0] }
    else if c = 115 then dec l (txtS t e 32768) (txtC t e 32768) { m with s := m.s ++ [txtR t e 32768] }
    else if c = 110 then dec l (namS t e) (namC t e) { m with n := m.n ++ [namR t e] }
    else if c = 99 then dec l (rawS t e 16) (rawC t e 16) { m with s := m.s ++ [rawR t e 16] }
    else dec l (rawS t e t.size) (rawC t e t.size) { m with s := m.s ++ [rawR t e t.size] }
def zero : Msg := ⟨0, [], [], [], []⟩
def kindOf (t : ByteArray) : Int := (numV (rawR t 0 1).data.toList : Nat)
def decOf (t : ByteArray) : ByteArray × Nat × Msg := dec (ltr (kindOf t)) (rawS t 0 1) 0 ⟨kindOf t, [], [], [], []⟩
def parseC (t : ByteArray) : Nat :=
  if rawC t 0 1 ≠ 0 then rawC t 0 1 else if isK (kindOf t) = false then 20
  else if endC (decOf t).1 (decOf t).2.1 ≠ 0 then endC (decOf t).1 (decOf t).2.1 else checkC (decOf t).2.2
def parseM (t : ByteArray) : Msg := if parseC t = 0 then (decOf t).2.2 else zero
/-- all but the last letter take no rest -/
def goodL : List UInt8 → Bool
  | [] => true
  | c :: l => (decide (c ≠ 114) || decide (l = [])) && (decide (c = 117) || decide (c = 98) || decide (c = 115) || decide (c = 110) || decide (c = 99) || decide (c = 114)) && goodL l
theorem rows_good : rowsL.all (fun r => goodL r.2.2 && decide (r.1 < 256) && decide (r.2.1 ≠ [])) = true := by decide +kernel
theorem rowOf_mem {k : Int} {r : Nat × List UInt8 × List UInt8} (h : rowOf k = some r) : r ∈ rowsL ∧ (r.1 : Int) = k := by
  unfold rowOf at h
  exact ⟨List.mem_of_find?_eq_some h, by simpa using List.find?_some h⟩
theorem ltr_good (k : Int) : goodL (ltr k) = true := by
  unfold ltr
  cases h : rowOf k with
  | none => rfl
  | some r =>
    have := List.all_eq_true.1 rows_good r (rowOf_mem h).1
    simp only [Bool.and_eq_true] at this
    exact this.1.1
theorem isK_range {k : Int} (h : isK k = true) : 0 ≤ k ∧ k < 256 := by
  unfold isK at h
  cases hr : rowOf k with
  | none => rw [hr] at h; cases h
  | some r =>
    obtain ⟨hm, hk⟩ := rowOf_mem hr
    have := List.all_eq_true.1 rows_good r hm
    simp only [Bool.and_eq_true, decide_eq_true_eq] at this
    omega
theorem chk_mono : ∀ (l : List UInt8) (s : List ByteArray) (n : List (List ByteArray)) (w b : Bool), chk l s n w b = (false, false) → w = false ∧ b = false
  | [], _, _, w, b, h => by simpa [chk] using h
  | c :: l, s, n, w, b, h => by
    unfold chk at h
    split at h
    · have := chk_mono l _ _ _ _ h
      simp only [Bool.or_eq_false_iff] at this
      exact ⟨this.1.2, this.2⟩
    · split at h
      · have := chk_mono l _ _ _ _ h
        simp only [Bool.or_eq_false_iff] at this
        exact ⟨this.1, this.2.2⟩
      · split at h
        · have := chk_mono l _ _ _ _ h
          simp only [Bool.or_eq_false_iff] at this
          exact ⟨this.1.1, this.2.1⟩
        · exact chk_mono l _ _ _ _ h
/-- reading back what was written -/
theorem dec_enc : ∀ (l : List UInt8) (u : List Nat) (s : List ByteArray) (n : List (List ByteArray)) (b : List Bool) (m : Msg) (t : ByteArray),
    goodL l = true → (∀ x ∈ u, x < 4294967296) → u.length = l.count 117 → s.length = cntS l → n.length = l.count 110 → b.length = l.count 98 →
    (chk l s n false false = (false, false)) → t.data.toList = enc l u s n b → dec l t 0 m = (⟨#[]⟩, 0, { m with u := m.u ++ u, s := m.s ++ s, n := m.n ++ n, b := m.b ++ b })
  | [], u, s, n, b, m, t, _, _, hu, hs, hn, hb, _, ht => by
    have e1 : u = [] := List.eq_nil_of_length_eq_zero (by simpa using hu)
    have e2 : s = [] := List.eq_nil_of_length_eq_zero (by simpa [cntS] using hs)
    have e3 : n = [] := List.eq_nil_of_length_eq_zero (by simpa using hn)
    have e4 : b = [] := List.eq_nil_of_length_eq_zero (by simpa using hb)
    subst e1 e2 e3 e4
    have : t = ⟨#[]⟩ := ext_list _ _ ht
    subst this
    simp [dec]
  | c :: l, u, s, n, b, m, t, hg, hu32, hu, hs, hn, hb, hc, ht => by
    have hmono : ∀ (l : List UInt8) (s : List ByteArray) (n : List (List ByteArray)) (w b : Bool), chk l s n w b = (false, false) → w = false ∧ b = false := chk_mono
    simp only [goodL, Bool.and_eq_true, Bool.or_eq_true, decide_eq_true_eq] at hg
    obtain ⟨⟨hrest, hcase⟩, hgl⟩ := hg
    by_cases h117 : c = 117
    · subst h117
      cases u with
      | nil => simp at hu
      | cons x u =>
        have hx := hu32 x (List.mem_cons_self ..)
        simp only [enc, if_true, List.headD_cons, List.tail_cons] at ht
        obtain ⟨g1, g2, g3⟩ := raw_back t (be 4 x) _ 4 ht (be_length _ _)
        have hv : numV (rawR t 0 4).data.toList = x := by rw [g1, numV_be]; exact Nat.mod_eq_of_lt hx
        simp only [dec, if_true, g3, hv]
        have hc' : chk l s n false false = (false, false) := by simpa [chk] using hc
        rw [dec_enc l u s n b _ (rawS t 0 4) hgl (fun y hy => hu32 y (List.mem_cons_of_mem _ hy)) (by simpa using hu) (by simpa [cntS] using hs) (by simpa using hn) (by simpa using hb) hc' g2]
        simp
    by_cases h98 : c = 98
    · subst h98
      cases b with
      | nil => simp at hb
      | cons x b =>
        simp only [enc, if_neg h117, if_true, List.headD_cons, List.tail_cons] at ht
        obtain ⟨g1, g2, g3⟩ := raw_back t [if x then 1 else 0] _ 1 ht rfl
        have hv : (numV (rawR t 0 1).data.toList != 0) = x := by rw [g1]; cases x <;> rfl
        simp only [dec, if_neg h117, if_true, g3, hv]
        have hc' : chk l s n false false = (false, false) := by simpa [chk] using hc
        rw [dec_enc l u s n b _ (rawS t 0 1) hgl hu32 (by simpa using hu) (by simpa [cntS] using hs) (by simpa using hn) (by simpa using hb) hc' g2]
        simp
    by_cases h115 : c = 115
    · subst h115
      cases s with
      | nil => exact absurd hs (by simp [cntS] <;> omega)
      | cons x s =>
        simp only [enc, if_neg h117, if_neg h98, if_true, hd, List.headD_cons, List.tail_cons] at ht
        have hc1 : chk l s n false (decide (32768 < x.size) || false) = (false, false) := by simpa [chk, hd] using hc
        have hsz : ¬ 32768 < x.size := by have := (hmono _ _ _ _ _ hc1).2; simpa using this
        have hc' : chk l s n false false = (false, false) := by rw [show decide (32768 < x.size) = false by simpa using hsz] at hc1; exact hc1
        obtain ⟨g1, g2, g3⟩ := txt_back t x.data.toList _ 32768 ht (by rw [len_list]; omega) (by rw [len_list]; omega)
        simp only [dec, if_neg h117, if_neg h98, if_true, g3, ext_list _ _ g1]
        rw [dec_enc l u s n b _ (txtS t 0 32768) hgl hu32 (by simpa using hu) (by simp [cntS] at hs ⊢; omega) (by simpa using hn) (by simpa using hb) hc' g2]
        simp
    by_cases h110 : c = 110
    · subst h110
      cases n with
      | nil => simp at hn
      | cons x n =>
        simp only [enc, if_neg h117, if_neg h98, if_neg h115, if_true, List.headD_cons, List.tail_cons] at ht
        have hc1 : chk l s n (false || !x.all okN) (false || (x.all okN && decide (4096 < (joinC x).length))) = (false, false) := by simpa [chk] using hc
        have hok : x.all okN = true := by have := (hmono _ _ _ _ _ hc1).1; simpa using this
        have hsz : ¬ 4096 < (joinC x).length := by have := (hmono _ _ _ _ _ hc1).2; rw [hok] at this; simpa using this
        have hc' : chk l s n false false = (false, false) := by rw [hok, show decide (4096 < (joinC x).length) = false by simpa using hsz] at hc1; exact hc1
        obtain ⟨g1, g2, g3⟩ := names_back t x _ ht (by omega) hok
        simp only [dec, if_neg h117, if_neg h98, if_neg h115, if_true, g3, g1]
        rw [dec_enc l u s n b _ (namS t 0) hgl hu32 (by simpa using hu) (by simpa [cntS] using hs) (by simpa using hn) (by simpa using hb) hc' g2]
        simp
    by_cases h99 : c = 99
    · subst h99
      cases s with
      | nil => exact absurd hs (by simp [cntS] <;> omega)
      | cons x s =>
        simp only [enc, if_neg h117, if_neg h98, if_neg h115, if_neg h110, hd, List.headD_cons, List.tail_cons] at ht
        have hc1 : chk l s n (decide (x.size ≠ 16) || false) false = (false, false) := by simpa [chk, hd] using hc
        have hsz : x.size = 16 := by have := (hmono _ _ _ _ _ hc1).1; simpa using this
        have hc' : chk l s n false false = (false, false) := by rw [show decide (x.size ≠ 16) = false by simpa using hsz] at hc1; exact hc1
        obtain ⟨g1, g2, g3⟩ := raw_back t x.data.toList _ 16 ht (by rw [len_list]; exact hsz)
        simp only [dec, if_neg h117, if_neg h98, if_neg h115, if_neg h110, if_true, g3, ext_list _ _ g1]
        rw [dec_enc l u s n b _ (rawS t 0 16) hgl hu32 (by simpa using hu) (by simp [cntS] at hs ⊢; omega) (by simpa using hn) (by simpa using hb) hc' g2]
        simp
    · have h114 : c = 114 := by
        rcases hcase with ((((h | h) | h) | h) | h) | h
        · exact absurd h h117
        · exact absurd h h98
        · exact absurd h h115
        · exact absurd h h110
        · exact absurd h h99
        · exact h
      subst h114
      have hl : l = [] := by rcases hrest with h | h; exact absurd rfl h; exact h
      subst hl
      cases s with
      | nil => exact absurd hs (by simp [cntS] <;> omega)
      | cons x s =>
        simp only [enc, if_neg h117, if_neg h98, if_neg h115, if_neg h110, hd, List.headD_cons, List.tail_cons] at ht
        obtain ⟨g1, g2, g3⟩ := raw_back t x.data.toList [] t.size ht (by rw [← len_list t, ht]; simp)
        simp only [dec, if_neg h117, if_neg h98, if_neg h115, if_neg h110, if_neg h99, g3, ext_list _ _ g1]
        have e1 : u = [] := List.eq_nil_of_length_eq_zero (by simpa using hu)
        have e2 : s = [] := List.eq_nil_of_length_eq_zero (by simpa [cntS] using hs)
        have e3 : n = [] := List.eq_nil_of_length_eq_zero (by simpa using hn)
        have e4 : b = [] := List.eq_nil_of_length_eq_zero (by simpa using hb)
        subst e1 e2 e3 e4
        have : rawS t 0 t.size = ⟨#[]⟩ := ext_list _ _ g2
        rw [this]
        simp
end Go.Proofs.YtjfikbnfabdkoaaGreatDoor.Mg
namespace Go.Proofs.YtjfikbnfabdkoaaGreatDoor.Mg
open Go.Proofs.YtjfikbnfabdkoaaGreatDoor.Wi Go.Proofs.YtjfikbnfabdkoaaGreatDoor.Be
/-- is a cookie wrong? -/
def wS : List UInt8 → List ByteArray → Bool
  | [], _ => false
  | c :: l, s => if c = 99 then decide ((hd s).size ≠ 16) || wS l s.tail else if c = 115 ∨ c = 114 then wS l s.tail else wS l s
/-- is a text too long? -/
def bS : List UInt8 → List ByteArray → Bool
  | [], _ => false
  | c :: l, s => if c = 99 then bS l s.tail else if c = 115 ∨ c = 114 then decide (32768 < (hd s).size) || bS l s.tail else bS l s
def wN (n : List (List ByteArray)) : Bool := n.any fun x => !x.all okN
def bN (n : List (List ByteArray)) : Bool := n.any fun x => decide (4096 < (joinC x).length)
theorem chk_eq : ∀ (l : List UInt8) (s : List ByteArray) (n : List (List ByteArray)) (w b : Bool), n.length = l.count 110 →
    (chk l s n w b).1 = (w || wS l s || wN n) ∧ ((chk l s n w b).1 = false → (chk l s n w b).2 = (b || bS l s || bN n))
  | [], s, n, w, b, hn => by
    have : n = [] := List.eq_nil_of_length_eq_zero (by simpa using hn)
    subst this
    simp [chk, wS, bS, wN, bN]
  | c :: l, s, n, w, b, hn => by
    by_cases h99 : c = 99
    · subst h99
      have ih := chk_eq l s.tail n (decide ((hd s).size ≠ 16) || w) b (by simpa using hn)
      simp only [chk, wS, bS, if_true]
      refine ⟨?_, fun h => ?_⟩
      · rw [ih.1]; cases decide ((hd s).size ≠ 16) <;> cases w <;> simp
      · rw [ih.2 h]
    by_cases h1 : c = 115 ∨ c = 114
    · have hn2 : n.length = l.count 110 := by
        rcases h1 with rfl | rfl <;> simpa using hn
      have ih := chk_eq l s.tail n w (decide (32768 < (hd s).size) || b) hn2
      simp only [chk, wS, bS, if_neg h99, if_pos h1]
      refine ⟨ih.1, fun h => ?_⟩
      rw [ih.2 h]; cases decide (32768 < (hd s).size) <;> cases b <;> simp
    by_cases h110 : c = 110
    · subst h110
      cases n with
      | nil => simp at hn
      | cons x n =>
        have ih := chk_eq l s n (w || !x.all okN) (b || (x.all okN && decide (4096 < (joinC x).length))) (by simpa using hn)
        have e1 : chk (110 :: l) s (x :: n) w b = chk l s n (w || !x.all okN) (b || (x.all okN && decide (4096 < (joinC x).length))) := rfl
        have e2 : wS (110 :: l) s = wS l s := rfl
        have e3 : bS (110 :: l) s = bS l s := rfl
        rw [e1, e2, e3]
        refine ⟨?_, fun h => ?_⟩
        · rw [ih.1]
          simp only [wN, List.any_cons]
          cases w <;> cases x.all okN <;> cases wS l s <;> simp
        · rw [ih.2 h]
          have h2 := ih.1.symm.trans h
          have hx : x.all okN = true := by
            cases hh : x.all okN
            · rw [hh] at h2; simp at h2
            · rfl
          simp only [bN, List.any_cons, hx, Bool.true_and]
          cases b <;> cases decide (4096 < (joinC x).length) <;> cases bS l s <;> simp
    · have hn2 : n.length = l.count 110 := by rw [hn, List.count_cons_of_ne h110]
      have ih := chk_eq l s n w b hn2
      simp only [chk, wS, bS, if_neg h99, if_neg h1, if_neg h110]
      exact ih
/-- the reference's number -/
def refC (m : Msg) : Nat :=
  if isK m.kind = false then 20 else if counted (ltr m.kind) m = false then 1
  else if wS (ltr m.kind) m.s then 1 else if wN m.n then 1 else if bS (ltr m.kind) m.s || bN m.n then 4 else 0
theorem refC_eq (m : Msg) : refC m = checkC m := by
  unfold refC checkC
  by_cases hk : isK m.kind = false
  · rw [if_pos hk, if_pos hk]
  rw [if_neg hk, if_neg hk]
  by_cases hc : counted (ltr m.kind) m = false
  · rw [if_pos hc, if_pos hc]
  rw [if_neg hc, if_neg hc]
  have hn : m.n.length = (ltr m.kind).count 110 := by
    have : counted (ltr m.kind) m = true := by simpa using hc
    unfold counted at this
    simp only [Bool.and_eq_true, decide_eq_true_eq] at this
    exact this.1.2
  have h := chk_eq (ltr m.kind) m.s m.n false false hn
  cases hw : wS (ltr m.kind) m.s
  · cases hN : wN m.n
    · have h1 : (chk (ltr m.kind) m.s m.n false false).1 = false := by rw [h.1, hw, hN]; rfl
      rw [h1, h.2 h1]
      simp
    · have h1 : (chk (ltr m.kind) m.s m.n false false).1 = true := by rw [h.1, hw, hN]; rfl
      rw [h1]; simp
  · have h1 : (chk (ltr m.kind) m.s m.n false false).1 = true := by rw [h.1, hw]; rfl
    rw [h1]; simp
/-- what may be comes back -/
theorem parse_bytes (m : Msg) (t : ByteArray) (hu : ∀ x ∈ m.u, x < 4294967296) (h0 : checkC m = 0) (ht : t.data.toList = bytesL m) : parseC t = 0 ∧ parseM t = m := by
  have hk : isK m.kind = true := by
    cases h : isK m.kind
    · unfold checkC at h0; rw [if_pos h] at h0; cases h0
    · rfl
  have hr := isK_range hk
  have hc : counted (ltr m.kind) m = true := by
    cases h : counted (ltr m.kind) m
    · unfold checkC at h0; rw [hk, if_neg (by decide), if_pos h] at h0; cases h0
    · rfl
  have hchk : chk (ltr m.kind) m.s m.n false false = (false, false) := by
    unfold checkC at h0
    rw [hk, if_neg (by decide), hc, if_neg (by decide)] at h0
    cases h1 : (chk (ltr m.kind) m.s m.n false false).1
    · cases h2 : (chk (ltr m.kind) m.s m.n false false).2
      · exact Prod.ext h1 h2
      · rw [h1, h2] at h0; cases h0
    · rw [h1] at h0; cases h0
  unfold counted at hc
  simp only [Bool.and_eq_true, decide_eq_true_eq] at hc
  unfold bytesL at ht
  rw [if_neg (by rw [h0]; decide)] at ht
  obtain ⟨g1, g2, g3⟩ := raw_back t [UInt8.ofNat m.kind.toNat] (enc (ltr m.kind) m.u m.s m.n m.b) 1 ht rfl
  have hkind : kindOf t = m.kind := by
    unfold kindOf
    rw [g1]
    have : numV [UInt8.ofNat m.kind.toNat] = m.kind.toNat := by
      show 0 * 256 + (UInt8.ofNat m.kind.toNat).toNat = _
      rw [UInt8.toNat_ofNat']; omega
    rw [this]; omega
  have hd : decOf t = (⟨#[]⟩, 0, m) := by
    unfold decOf
    rw [hkind, dec_enc (ltr m.kind) m.u m.s m.n m.b ⟨m.kind, [], [], [], []⟩ (rawS t 0 1) (ltr_good _) hu hc.1.1.1 hc.1.1.2 hc.1.2 hc.2 hchk g2]
    simp
  have hp : parseC t = 0 := by
    unfold parseC
    rw [g3, if_neg (by decide), hkind, hk, if_neg (by decide), hd]
    have he : endC ⟨#[]⟩ 0 = 0 := if_neg (fun e => e.2 rfl)
    rw [he, if_neg (by decide)]
    exact h0
  refine ⟨hp, ?_⟩
  unfold parseM
  rw [if_pos hp, hd]
end Go.Proofs.YtjfikbnfabdkoaaGreatDoor.Mg
namespace Go.Proofs.YtjfikbnfabdkoaaGreatDoor.Mg
open Go.Proofs.YtjfikbnfabdkoaaGreatDoor.Wi Go.Proofs.YtjfikbnfabdkoaaGreatDoor.Be
theorem be_len (n x : Nat) : (be n x).length = n := be_length n x
theorem textL_len (l : List UInt8) : (textL l).length = l.length + 4 := by unfold textL; rw [List.length_append, be_len]; omega
theorem enc_len (B : Nat) : ∀ (l : List UInt8) (u : List Nat) (s : List ByteArray) (n : List (List ByteArray)) (b : List Bool), (∀ x ∈ s, x.size ≤ B) → (∀ x ∈ n, (joinC x).length ≤ B) → (joinC []).length ≤ B → (enc l u s n b).length ≤ l.length * (B + 4)
  | [], _, _, _, _, _, _, _ => by simp [enc]
  | c :: l, u, s, n, b, hs, hn, h0 => by
    have hhd : (hd s).data.toList.length ≤ B := by
      rw [len_list]
      cases s with
      | nil => exact Nat.zero_le _
      | cons x s => exact hs x (List.mem_cons_self ..)
    have hst : ∀ x ∈ s.tail, x.size ≤ B := fun x hx => hs x (List.mem_of_mem_tail hx)
    have hnt : ∀ x ∈ n.tail, (joinC x).length ≤ B := fun x hx => hn x (List.mem_of_mem_tail hx)
    have hnh : (joinC (n.headD [])).length ≤ B := by
      cases n with
      | nil => exact h0
      | cons x n => exact hn x (List.mem_cons_self ..)
    have e : (c :: l).length * (B + 4) = l.length * (B + 4) + (B + 4) := by rw [List.length_cons, Nat.add_mul, Nat.one_mul]
    rw [e]
    unfold enc
    split
    · rw [List.length_append, be_len]; have := enc_len B l u.tail s n b hs hn h0; omega
    · split
      · rw [List.length_append]; have := enc_len B l u s n b.tail hs hn h0; simp only [List.length_cons, List.length_nil]; omega
      · split
        · rw [List.length_append, textL_len]; have := enc_len B l u s.tail n b hst hn h0; omega
        · split
          · rw [List.length_append, textL_len]; have := enc_len B l u s n.tail b hs hnt h0; omega
          · rw [List.length_append]; have := enc_len B l u s.tail n b hst hn h0; omega
theorem ltr_le (k : Int) : (ltr k).length ≤ 13 := by
  have h : rowsL.all (fun r => decide (r.2.2.length ≤ 13)) = true := by decide +kernel
  unfold ltr
  cases hr : rowOf k with
  | none => exact Nat.zero_le _
  | some r => simpa using List.all_eq_true.1 h r (rowOf_mem hr).1
theorem bytes_len (m : Msg) (B : Nat) (hs : ∀ x ∈ m.s, x.size ≤ B) (hn : ∀ x ∈ m.n, (joinC x).length ≤ B) (h0 : (joinC []).length ≤ B) : (bytesL m).length ≤ 1 + 13 * (B + 4) := by
  unfold bytesL
  split
  · exact Nat.zero_le _
  · rw [List.length_cons]
    have h1 := enc_len B (ltr m.kind) m.u m.s m.n m.b hs hn h0
    have h2 := Nat.mul_le_mul_right (B + 4) (ltr_le m.kind)
    omega
theorem bytes_ok {m : Msg} (h : checkC m = 0) : bytesL m = UInt8.ofNat m.kind.toNat :: enc (ltr m.kind) m.u m.s m.n m.b := by unfold bytesL; rw [if_neg (fun e => e h)]
theorem bytes_no {m : Msg} (h : checkC m ≠ 0) : bytesL m = [] := by unfold bytesL; rw [if_pos h]
theorem check_le (m : Msg) : checkC m ≤ 20 := by
  unfold checkC
  repeat' split
  all_goals decide
end Go.Proofs.YtjfikbnfabdkoaaGreatDoor.Mg
