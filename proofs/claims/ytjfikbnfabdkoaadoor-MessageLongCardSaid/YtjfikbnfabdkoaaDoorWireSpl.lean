/- A text cut at its commas: plain laws; numbers and lists of names that were written read back. -/
import Derived.Test.YtjfikbnfabdkoaaDoorWireDec
set_option linter.unusedVariables false
set_option linter.unusedSimpArgs false
namespace Go.Proofs.YtjfikbnfabdkoaaDoor.Wi
open Go.RowKit Go.Proofs.YtjfikbnfabdkoaaDoor.Ow Go.Proofs.YtjfikbnfabdkoaaDoor.Be
/-- cut at the commas -/
def spl : List UInt8 → List (List UInt8)
  | [] => [[]]
  | b :: l => if b = 44 then [] :: spl l else match spl l with
    | [] => [[b]]
    | h :: t => (b :: h) :: t
theorem spl_comma (l : List UInt8) : spl (44 :: l) = [] :: spl l := by rw [spl]; simp
theorem spl_other {b : UInt8} (hb : b ≠ 44) {l h : List UInt8} {t : List (List UInt8)} (hl : spl l = h :: t) : spl (b :: l) = (b :: h) :: t := by
  rw [spl]; simp [hb, hl]
theorem spl_ne (l : List UInt8) : ∃ h t, spl l = h :: t := by
  cases l with
  | nil => exact ⟨_, _, rfl⟩
  | cons b l =>
    by_cases hb : b = 44
    · subst hb; exact ⟨_, _, spl_comma l⟩
    · cases hs : spl l with
      | nil => exact ⟨[b], [], by rw [spl]; simp [hb, hs]⟩
      | cons h t => exact ⟨_, _, spl_other hb hs⟩
theorem splitK_none (k : Nat) (l : List UInt8) (h : Lib.index l [44] = -1) : Lib.splitK [44] 0 k l = [l] := by
  cases k with
  | zero => rfl
  | succ k => rw [Lib.splitK, if_pos (beq_iff_eq.2 h)]
theorem index_comma (l : List UInt8) : Lib.index (44 :: l) [44] = 0 := by rw [Lib.index]; simp [List.isPrefixOf]
theorem index_other {b : UInt8} (hb : b ≠ 44) (l : List UInt8) : Lib.index (b :: l) [44] = if Lib.index l [44] = -1 then -1 else Lib.index l [44] + 1 := by
  rw [Lib.index]
  simp [List.isPrefixOf, Ne.symm hb]
theorem splitK_comma (k : Nat) (l : List UInt8) : Lib.splitK [44] 0 (k + 1) (44 :: l) = [] :: Lib.splitK [44] 0 k l := by
  rw [Lib.splitK, index_comma]
  simp
theorem splitK_other {b : UInt8} (hb : b ≠ 44) (l : List UInt8) : ∀ k h t, Lib.splitK [44] 0 k l = h :: t → Lib.splitK [44] 0 k (b :: l) = (b :: h) :: t
  | 0, h, t, e => by
    simp only [Lib.splitK, List.cons.injEq] at e
    obtain ⟨rfl, rfl⟩ := e
    rfl
  | k + 1, h, t, e => by
    by_cases hi : Lib.index l [44] = -1
    · rw [splitK_none _ _ hi] at e
      rw [splitK_none _ _ (by rw [index_other hb, if_pos hi])]
      simp only [List.cons.injEq] at e
      obtain ⟨rfl, rfl⟩ := e
      rfl
    · have hge := Lib.index_ge l [44]
      rw [Lib.splitK, if_neg (by simpa using hi)] at e
      rw [Lib.splitK, index_other hb, if_neg hi, if_neg (by simp; omega)]
      have e1 : (Lib.index l [44] + 1).toNat = (Lib.index l [44]).toNat + 1 := by omega
      rw [e1]
      simp only [List.cons.injEq] at e ⊢
      refine ⟨?_, ?_⟩
      · rw [← e.1]; rfl
      · rw [← e.2, Nat.add_right_comm]; rfl
theorem split_spl : ∀ l : List UInt8, Lib.splitK [44] 0 (Lib.count l [44]) l = spl l
  | [] => splitK_none _ _ rfl
  | b :: l => by
    have ih := split_spl l
    by_cases hb : b = 44
    · subst hb
      rw [Lib.count_cons_eq, Nat.add_comm, splitK_comma, ih, spl_comma]
    · rw [Lib.count_cons_ne b 44 l hb]
      obtain ⟨h, t, hs⟩ := spl_ne l
      rw [spl_other hb hs]
      exact splitK_other hb l _ h t (ih.trans hs)
theorem namL_spl (r : ByteArray) : (namL r).map (·.data.toList) = spl r.data.toList := by
  unfold namL
  rw [Lib.splitB_data]
  show Lib.splitK [44] 0 (Lib.countB r ⟨#[44]⟩) r.data.toList = _
  rw [← split_spl]
theorem spl_prefix : ∀ (x l h : List UInt8) (t : List (List UInt8)), (∀ b ∈ x, b ≠ 44) → spl l = h :: t → spl (x ++ l) = (x ++ h) :: t
  | [], l, h, t, _, e => e
  | b :: x, l, h, t, hx, e => by
    have := spl_prefix x l h t (fun b hb => hx b (List.mem_cons_of_mem _ hb)) e
    exact spl_other (hx b (List.mem_cons_self ..)) this
theorem spl_plain (x : List UInt8) (hx : ∀ b ∈ x, b ≠ 44) : spl x = [x] := by
  have := spl_prefix x [] [] [] hx rfl
  simpa using this
theorem spl_join : ∀ (x : List UInt8) (r : List (List UInt8)), (∀ y ∈ x :: r, ∀ b ∈ y, b ≠ 44) → spl (Lib.join (x :: r) [44]) = x :: r
  | x, [], h => by rw [Lib.join_one]; exact spl_plain x (h x (List.mem_cons_self ..))
  | x, y :: r, h => by
    have ih := spl_join y r (fun z hz => h z (List.mem_cons_of_mem _ hz))
    have e : Lib.join (x :: y :: r) [44] = x ++ (44 :: Lib.join (y :: r) [44]) := by
      rw [Lib.join_cons, Lib.join_cons]; simp [Lib.joinTail]
    rw [e]
    have := spl_prefix x _ _ _ (h x (List.mem_cons_self ..)) (spl_comma (Lib.join (y :: r) [44]))
    rw [this, ih, List.append_nil]
theorem map_inj_data {a b : List ByteArray} (h : a.map (·.data.toList) = b.map (·.data.toList)) : a = b := by
  induction a generalizing b with
  | nil => cases b with
    | nil => rfl
    | cons y b => simp at h
  | cons x a ih => cases b with
    | nil => simp at h
    | cons y b =>
      simp only [List.map_cons, List.cons.injEq] at h
      rw [ext_list x y h.1, ih h.2]
theorem okN_comma {x : ByteArray} (h : okN x = true) : (∀ b ∈ x.data.toList, b ≠ 44) ∧ x.data.toList ≠ [] := by
  unfold okN nameB at h
  simp only [Bool.and_eq_true, decide_eq_true_eq] at h
  refine ⟨fun b hb e => ?_, fun e => ?_⟩
  · have := List.all_eq_true.1 h.1.1 b hb
    subst e
    exact absurd this (by decide)
  · rw [e] at h; exact absurd h.1.2 (Nat.lt_irrefl 0)
theorem namL_join (ys : List ByteArray) (r : ByteArray) (h0 : ys ≠ []) (hok : ys.all okN = true) (hr : r.data.toList = joinC ys) : namL r = ys := by
  apply map_inj_data
  rw [namL_spl, hr]
  unfold joinC
  cases ys with
  | nil => exact absurd rfl h0
  | cons y ys =>
    rw [List.map_cons]
    refine spl_join _ _ fun z hz b hb => ?_
    obtain ⟨x, hx, rfl⟩ := List.mem_map.1 (show z ∈ (y :: ys).map (·.data.toList) from hz)
    exact (okN_comma (List.all_eq_true.1 hok x hx)).1 b hb
theorem joinC_pos (ys : List ByteArray) (h0 : ys ≠ []) (hok : ys.all okN = true) : 0 < (joinC ys).length := by
  unfold joinC
  cases ys with
  | nil => exact absurd rfl h0
  | cons y ys =>
    rw [List.map_cons, Lib.join_cons, List.length_append]
    have := (okN_comma (List.all_eq_true.1 hok y (List.mem_cons_self ..))).2
    have := List.length_pos_iff.2 this
    omega
theorem names_back (s : ByteArray) (ys : List ByteArray) (b : List UInt8) (hs : s.data.toList = textL (joinC ys) ++ b) (hm : (joinC ys).length ≤ 4096) (hok : ys.all okN = true) :
    namR s 0 = ys ∧ (namS s 0).data.toList = b ∧ namC s 0 = 0 := by
  obtain ⟨h1, h2, h3⟩ := txt_back s (joinC ys) b 4096 hs (by omega) (by omega)
  by_cases h0 : ys = []
  · subst h0
    have hk : namK s 0 = 0 := by unfold namK; rw [if_pos (by rw [← len_list, h1]; rfl)]
    unfold namR namS namC
    rw [hk]
    exact ⟨rfl, h2, h3⟩
  · have hp := joinC_pos ys h0 hok
    have hk : namK s 0 = 1 := by
      unfold namK
      rw [if_neg (by rw [← len_list, h1]; omega), namL_join ys _ h0 hok h1, if_pos hok]
    unfold namR namS namC
    rw [hk]
    exact ⟨namL_join ys _ h0 hok h1, h2, h3⟩
theorem strip_head (l : List UInt8) : ∀ x t, strip l = x :: t → x ≠ 0 := by
  intro x t h e
  subst e
  have := List.head?_dropWhile_not (· == (0 : UInt8)) l
  unfold strip at h
  rw [h] at this
  simp at this
theorem big_back (s : ByteArray) (a b : List UInt8) (hs : s.data.toList = textL (bigL a) ++ b) (ha : a.length ≤ 40) :
    (bigR s 0 40).data.toList = strip a ∧ (bigS s 0 40).data.toList = b ∧ bigC s 0 40 = 0 := by
  have hl := bigL_length a
  have hsl := strip_length a
  have hq : bq 40 = 41 := rfl
  have hm : bmost 40 = 40 := rfl
  obtain ⟨h1, h2, h3⟩ := txt_back s (bigL a) b 41 hs (by omega) (by omega)
  have main : bigK s 0 40 = 0 ∧ strip a = [] ∨ bigK s 0 40 = 1 ∧ (tp (txtR s 0 41)).data.toList = strip a := by
    cases hst : strip a with
    | nil =>
      left
      refine ⟨?_, rfl⟩
      unfold bigK
      rw [hq, if_pos (by rw [← len_list, h1]; unfold bigL; rw [hst]; rfl)]
    | cons x t =>
      right
      have hx := strip_head a x t hst
      have htl : (x :: t).length ≤ 40 := by rw [← hst]; omega
      by_cases hx8 : 128 ≤ x.toNat
      · have hb : bigL a = 0 :: x :: t := by unfold bigL; rw [hst]; exact if_pos hx8
        rw [hb] at h1
        have htp : (tp (txtR s 0 41)).data.toList = x :: t := by
          unfold tp
          show Lib.trimPrefix (txtR s 0 41).data.toList [0] = _
          rw [h1]; rfl
        refine ⟨?_, htp⟩
        unfold bigK
        rw [hq, hm, if_neg (by rw [← len_list, h1]; simp), h1, htp, if_neg, if_neg]
        · rw [← len_list, htp]; omega
        · unfold badB; simp; omega
      · have hb : bigL a = x :: t := by unfold bigL; rw [hst]; exact if_neg hx8
        rw [hb] at h1
        have htp : (tp (txtR s 0 41)).data.toList = x :: t := by
          unfold tp
          show Lib.trimPrefix (txtR s 0 41).data.toList [0] = _
          rw [h1]
          unfold Lib.trimPrefix Lib.hasPrefix
          simp [Ne.symm hx]
        refine ⟨?_, htp⟩
        unfold bigK
        rw [hq, hm, if_neg (by rw [← len_list, h1]; simp), h1, htp, if_neg, if_neg]
        · rw [← len_list, htp]; omega
        · unfold badB; simp; omega
  unfold bigR bigS bigC
  rcases main with ⟨hk, h0⟩ | ⟨hk, ht⟩
  · rw [hk, hq, h0]
    exact ⟨rfl, h2, h3⟩
  · rw [hk, hq]
    exact ⟨ht, h2, h3⟩
end Go.Proofs.YtjfikbnfabdkoaaDoor.Wi
