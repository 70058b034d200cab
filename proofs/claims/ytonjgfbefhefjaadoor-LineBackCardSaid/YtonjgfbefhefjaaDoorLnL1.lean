/- The reference's Line, plainly: between two letters. -/
import Derived.Test.YtonjgfbefhefjaaDoorLnL0
import Derived.Test.YtonjgfbefhefjaaDoorLnK2
set_option linter.unusedVariables false
set_option linter.unusedSimpArgs false
namespace Go.Proofs.YtonjgfbefhefjaaDoor.Ln
open Go
def tl (l : List (List UInt8)) : List UInt8 := (l.map (32 :: ·)).flatten
theorem tl_app (a b : List (List UInt8)) : tl (a ++ b) = tl a ++ tl b := by unfold tl; simp
theorem tl_one (x : List UInt8) : tl [x] = 32 :: x := by unfold tl; simp
structure LJ (c : Cm) (sh : List UInt8) (i a b tx : Nat) (ac : List UInt8) : Prop where
  il : i ≤ sh.length
  al : a ≤ c.names.length
  bl : b ≤ c.nums.length
  tl : tx ≤ i
  len : ac.length ≤ 100000 + 2000 * (i + a)
  ex : ∃ pre, ac = c.word ++ Ln.tl pre ∧ rl sh c.names c.nums c.text 0 = (rl (sh.drop i) (c.names.drop a) (c.nums.drop b) c.text tx).map (pre ++ ·)
theorem drop_at {α} {l : List α} {i : Nat} {x : α} (h : l[i]? = some x) : i < l.length ∧ l.drop i = x :: l.drop (i + 1) := by
  obtain ⟨h1, h2⟩ := List.getElem?_eq_some_iff.1 h
  exact ⟨h1, by rw [List.drop_eq_getElem_cons h1, h2]⟩
theorem step_ex {c : Cm} {pre : List (List UInt8)} {ac r : List UInt8} {sh : List UInt8} {o : Option (List (List UInt8))} {x : List UInt8} (h : ac = c.word ++ tl pre) (hr : rl sh c.names c.nums c.text 0 = (o.map (x :: ·)).map (pre ++ ·)) (he : r = ac ++ 32 :: x) :
    ∃ pre', r = c.word ++ tl pre' ∧ rl sh c.names c.nums c.text 0 = o.map (pre' ++ ·) := by
  refine ⟨pre ++ [x], by rw [he, h, tl_app, tl_one]; simp, ?_⟩
  rw [hr]
  cases o <;> simp
theorem itoa_len {k : Int} (h : 0 ≤ k ∧ k ≤ 999999999) : (Lib.itoa k).length ≤ 9 := by
  obtain ⟨n, rfl⟩ : ∃ n : Nat, k = n := ⟨k.toNat, by omega⟩
  have := dec_len (n := n) (by omega)
  rw [itoa_nat]; exact this
theorem hexL_len {t : List UInt8} (h : t.length ≤ 900) : (hexL t).length ≤ 1800 := by
  unfold hexL
  split
  · simp
  · rw [hex2_len]; omega
section
variable {c : Cm} {sh : List UInt8} {i a b tx : Nat} {ac : List UInt8}
theorem LJ.num (h : LJ c sh i a b tx ac) (hx : sh[i]? = some 35) {k : Int} (hk : c.nums[b]? = some k) (hr : 0 ≤ k ∧ k ≤ 999999999) : LJ c sh (i + 1) a (b + 1) tx (ac ++ 32 :: Lib.itoa k) := by
  obtain ⟨pre, he, hl⟩ := h.ex
  obtain ⟨h1, h2⟩ := drop_at hx
  obtain ⟨h3, h4⟩ := drop_at hk
  have hll := itoa_len hr
  have := h.len; have := h.tl
  refine ⟨h1, h.al, h3, by omega, by simp; omega, step_ex he ?_ rfl⟩
  rw [hl, h2, h4, rl_num, if_pos ⟨by simp, hr⟩]; rfl
theorem LJ.num_bad (h : LJ c sh i a b tx ac) (hx : sh[i]? = some 35) (hk : ¬ ∃ k, c.nums[b]? = some k ∧ 0 ≤ k ∧ k ≤ 999999999) : rl sh c.names c.nums c.text 0 = none := by
  obtain ⟨pre, he, hl⟩ := h.ex
  obtain ⟨h1, h2⟩ := drop_at hx
  rw [hl, h2, rl_num, if_neg]
  · rfl
  · rintro ⟨e1, e2⟩
    obtain ⟨k, hk'⟩ : ∃ k, c.nums[b]? = some k := ⟨_, List.getElem?_eq_getElem (by rw [List.length_drop] at e1; omega)⟩
    rw [(drop_at hk').2] at e2
    exact hk ⟨k, hk', e2⟩
theorem LJ.text (h : LJ c sh i a b tx ac) (hx : sh[i]? = some 116) (hr : c.text.length ≤ 900) : LJ c sh (i + 1) a b (tx + 1) (ac ++ 32 :: hexL c.text) := by
  obtain ⟨pre, he, hl⟩ := h.ex
  obtain ⟨h1, h2⟩ := drop_at hx
  have hll := hexL_len hr
  have := h.len; have := h.tl
  refine ⟨h1, h.al, h.bl, by omega, by simp; omega, step_ex he ?_ rfl⟩
  rw [hl, h2, rl_text, if_pos hr]
theorem LJ.text_bad (h : LJ c sh i a b tx ac) (hx : sh[i]? = some 116) (hk : ¬ c.text.length ≤ 900) : rl sh c.names c.nums c.text 0 = none := by
  obtain ⟨pre, he, hl⟩ := h.ex
  obtain ⟨h1, h2⟩ := drop_at hx
  rw [hl, h2, rl_text, if_neg hk]; rfl
theorem LJ.name (h : LJ c sh i a b tx ac) {x : UInt8} (hx : sh[i]? = some x) (x1 : x ≠ 35) (x2 : x ≠ 116) (x3 : x ≠ 42) {n : List UInt8} (hk : c.names[a]? = some n) (hr : okN n) : LJ c sh (i + 1) (a + 1) b tx (ac ++ 32 :: wn n) := by
  obtain ⟨pre, he, hl⟩ := h.ex
  obtain ⟨h1, h2⟩ := drop_at hx
  obtain ⟨h3, h4⟩ := drop_at hk
  have hll := wn_len hr
  have := h.len; have := h.tl
  refine ⟨h1, h3, h.bl, by omega, by simp; omega, step_ex he ?_ rfl⟩
  rw [hl, h2, h4, rl_name x1 x2 x3, if_pos ⟨by simp, hr⟩]; rfl
theorem LJ.name_bad (h : LJ c sh i a b tx ac) {x : UInt8} (hx : sh[i]? = some x) (x1 : x ≠ 35) (x2 : x ≠ 116) (x3 : x ≠ 42) (hk : ¬ ∃ n, c.names[a]? = some n ∧ okN n) : rl sh c.names c.nums c.text 0 = none := by
  obtain ⟨pre, he, hl⟩ := h.ex
  obtain ⟨h1, h2⟩ := drop_at hx
  rw [hl, h2, rl_name x1 x2 x3, if_neg]
  · rfl
  · rintro ⟨e1, e2⟩
    obtain ⟨k, hk'⟩ : ∃ k, c.names[a]? = some k := ⟨_, List.getElem?_eq_getElem (by rw [List.length_drop] at e1; omega)⟩
    rw [(drop_at hk').2] at e2
    exact hk ⟨k, hk', e2⟩
/-- within the star -/
structure LT (c : Cm) (sh : List UInt8) (i a b tx q : Nat) (ac : List UInt8) : Prop where
  aq : a ≤ q
  ql : q ≤ c.names.length
  len : ac.length ≤ 100000 + 2000 * (i + q)
  ok : ∀ j x, a ≤ j → j < q → c.names[j]? = some x → okN x
  ex : ∃ pre, ac = c.word ++ Ln.tl (pre ++ ((c.names.drop a).take (q - a)).map wn) ∧ rl sh c.names c.nums c.text 0 = (rl (sh.drop i) (c.names.drop a) (c.nums.drop b) c.text tx).map (pre ++ ·)
theorem LJ.star (h : LJ c sh i a b tx ac) : LT c sh i a b tx a ac := by
  obtain ⟨pre, he, hl⟩ := h.ex
  exact ⟨Nat.le_refl _, h.al, h.len, fun j x h1 h2 => by omega, pre, by rw [he, Nat.sub_self]; simp, hl⟩
theorem LT.next {q : Nat} (h : LT c sh i a b tx q ac) {n : List UInt8} (hn : c.names[q]? = some n) (ho : okN n) : LT c sh i a b tx (q + 1) (ac ++ 32 :: wn n) := by
  obtain ⟨pre, he, hl⟩ := h.ex
  have h1 := (List.getElem?_eq_some_iff.1 hn).1
  have hll := wn_len ho
  have := h.len; have := h.aq
  refine ⟨by omega, h1, by simp; omega, ?_, pre, ?_, hl⟩
  · intro j x h2 h3 h4
    by_cases e : j = q
    · subst e; rw [hn] at h4; cases h4; exact ho
    · exact h.ok j x h2 (by omega) h4
  · have : (c.names.drop a).take (q + 1 - a) = (c.names.drop a).take (q - a) ++ [n] := by
      rw [show q + 1 - a = (q - a) + 1 by omega, List.take_add_one, List.getElem?_drop, show a + (q - a) = q by omega, hn]; rfl
    rw [he, this, List.map_append, ← List.append_assoc, tl_app (pre ++ _), List.map_singleton, tl_one, List.append_assoc]
theorem LT.done {q : Nat} (h : LT c sh i a b tx q ac) (hx : sh[i]? = some 42) (h16 : c.names.length ≤ a + 16) (hq : q = c.names.length) (hI : b ≤ c.nums.length ∧ tx ≤ i) : LJ c sh (i + 1) q b tx ac := by
  obtain ⟨pre, he, hl⟩ := h.ex
  obtain ⟨h1, h2⟩ := drop_at hx
  have := h.len
  refine ⟨h1, h.ql, hI.1, by omega, by omega, pre ++ (c.names.drop a).map wn, ?_, ?_⟩
  · rw [he, List.take_of_length_le (by simp; omega)]
  · rw [hl, h2, rl_star, if_pos]
    · rw [show c.names.drop q = [] from List.drop_eq_nil_of_le (by omega)]
      cases rl (sh.drop (i + 1)) [] (c.nums.drop b) c.text tx <;> simp
    · refine ⟨by simp; omega, fun x hx => ?_⟩
      obtain ⟨j, hj⟩ := List.getElem?_of_mem hx
      rw [List.getElem?_drop] at hj
      exact h.ok (a + j) x (by omega) (by have := (List.getElem?_eq_some_iff.1 hj).1; omega) hj
theorem LJ.star_bad (h : LJ c sh i a b tx ac) (hx : sh[i]? = some 42) (hk : ¬ c.names.length ≤ a + 16) : rl sh c.names c.nums c.text 0 = none := by
  obtain ⟨pre, he, hl⟩ := h.ex
  obtain ⟨h1, h2⟩ := drop_at hx
  rw [hl, h2, rl_star, if_neg]
  · rfl
  · rintro ⟨e, _⟩
    rw [List.length_drop] at e
    omega
theorem LT.bad {q : Nat} (h : LT c sh i a b tx q ac) (hx : sh[i]? = some 42) {n : List UInt8} (hn : c.names[q]? = some n) (ho : ¬ okN n) : rl sh c.names c.nums c.text 0 = none := by
  obtain ⟨pre, he, hl⟩ := h.ex
  obtain ⟨h1, h2⟩ := drop_at hx
  rw [hl, h2, rl_star, if_neg]
  · rfl
  · rintro ⟨_, e⟩
    refine ho (e n ?_)
    refine List.mem_of_getElem? (i := q - a) ?_
    rw [List.getElem?_drop, show a + (q - a) = q by have := h.aq; omega]; exact hn
theorem res_bad (hsh : shp c.word = some sh) (h : rl sh c.names c.nums c.text 0 = none) : chk c = 3 ∧ line c = [] := by
  have hm := shp_mem hsh
  by_cases ho : ok sh c
  · rw [rl_ok hm ho] at h; cases h
  · exact ⟨chk_bad hsh ho, by unfold line; rw [hsh]; simp only; rw [if_neg ho]⟩
theorem res_ok (hsh : shp c.word = some sh) {l : List (List UInt8)} (h : rl sh c.names c.nums c.text 0 = some l) : chk c = 0 ∧ line c = c.word ++ tl l := by
  have hm := shp_mem hsh
  by_cases ho : ok sh c
  · rw [rl_ok hm ho] at h; cases h
    exact ⟨chk_ok hsh ho, by unfold line; rw [hsh]; simp only; rw [if_pos ho, jn_tail]; rfl⟩
  · rw [rl_bad hm ho] at h; cases h
theorem LJ.fin (h : LJ c sh i a b tx ac) (hsh : shp c.word = some sh) (hi : i = sh.length) (h1 : a = c.names.length) (h2 : b = c.nums.length) (h3 : ¬ (tx = 0 ∧ c.text ≠ [])) : chk c = 0 ∧ line c = ac := by
  obtain ⟨pre, he, hl⟩ := h.ex
  rw [show sh.drop i = [] from List.drop_eq_nil_of_le (by omega), rl, if_pos ⟨List.drop_eq_nil_of_le (by omega), List.drop_eq_nil_of_le (by omega), h3⟩] at hl
  have := res_ok hsh (l := pre) (by rw [hl]; simp)
  rw [he]; exact this
theorem LJ.fin_bad (h : LJ c sh i a b tx ac) (hsh : shp c.word = some sh) (hi : i = sh.length) (hb : ¬ (a = c.names.length ∧ b = c.nums.length ∧ ¬ (tx = 0 ∧ c.text ≠ []))) : chk c = 3 ∧ line c = [] := by
  obtain ⟨pre, he, hl⟩ := h.ex
  rw [show sh.drop i = [] from List.drop_eq_nil_of_le (by omega), rl, if_neg] at hl
  · exact res_bad hsh hl
  · rintro ⟨e1, e2, e3⟩
    have f1 := List.drop_eq_nil_iff.1 e1
    have f2 := List.drop_eq_nil_iff.1 e2
    have := h.al; have := h.bl
    exact hb ⟨by omega, by omega, e3⟩
end
end Go.Proofs.YtonjgfbefhefjaaDoor.Ln
