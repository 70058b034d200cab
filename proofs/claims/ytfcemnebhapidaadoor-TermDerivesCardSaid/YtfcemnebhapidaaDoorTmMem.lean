/- Terms in memory. -/
import Derived.Test.YtfcemnebhapidaaDoorTmDer
import Derived.Test.YtfcemnebhapidaaDoorChecked
import Derived.Test.YtfcemnebhapidaaDoorGenA
import Derived.Maps.AppendAt
import Derived.WalkKit
import Derived.Lib.SliceRun
import Derived.Deep.Cut
set_option linter.unusedVariables false
set_option linter.unusedSimpArgs false
namespace Go.Proofs.YtfcemnebhapidaaDoor.Te
open Go.RowKit Go.Proofs.YtfcemnebhapidaaDoor.Ow
def strB (t : List UInt8) : ByteArray := ⟨t.toArray⟩
theorem strB_toList (t : List UInt8) : (strB t).toList = t := by rw [ByteArray.toList_eq]; rfl
theorem strB_data (s : ByteArray) : strB s.data.toList = s := rfl
theorem strB_beq (s t : List UInt8) : ((strB s).toList == (strB t).toList) = (s == t) := by rw [strB_toList, strB_toList]
theorem strB_size (t : List UInt8) : (strB t).size = t.length := by show t.toArray.size = _; rw [List.size_toArray]
theorem strB_inj {s t : List UInt8} (h : strB s = strB t) : s = t := by
  have := congrArg (fun x : ByteArray => x.data.toList) h
  exact this
theorem ext_take (S : ByteArray) (k : Nat) : S.extract 0 k = strB (S.data.toList.take k) := by
  apply ByteArray.ext
  apply Array.toList_inj.1
  simp [strB]
theorem ext_drop (S : ByteArray) (k : Nat) : S.extract k S.size = strB (S.data.toList.drop k) := by
  apply ByteArray.ext
  apply Array.toList_inj.1
  simp only [strB, ByteArray.data_extract, Array.toList_extract, List.extract_eq_take_drop]
  rw [List.take_of_length_le]
  rw [List.length_drop, Array.length_toList]; exact Nat.le_refl _
theorem strB_append (a b : List UInt8) : strB a ++ strB b = strB (a ++ b) := by
  apply ByteArray.ext
  simp [strB, ByteArray.data_append]
/-- a term's cells, its parts' value beside it -/
def tcl (x : Tm × Value) : List Value := [.string (strB x.1.knd), .string (strB x.1.txt), x.2]
@[irreducible] def tcs (l : List (Tm × Value)) : List Value := l.flatMap tcl
theorem tcs_nil : tcs [] = [] := by unfold tcs; rfl
theorem tcs_append (a b : List (Tm × Value)) : tcs (a ++ b) = tcs a ++ tcs b := by unfold tcs; exact List.flatMap_append
theorem tcs_one (x : Tm × Value) : tcs [x] = tcl x := by unfold tcs; simp
theorem tcs_two (x y : Tm × Value) : tcs [x, y] = tcl x ++ tcl y := by unfold tcs; simp
theorem tcs_length (l : List (Tm × Value)) : (tcs l).length = l.length * 3 := by
  induction l with
  | nil => rw [tcs_nil]; rfl
  | cons x l ih =>
    rw [show x :: l = [x] ++ l from rfl, tcs_append, tcs_one, List.length_append, ih]
    simp [tcl]; omega
/-- where a term's parts lie -/
def TP (w : World) : Tm → Value → Prop
  | .atom _, v => v = .slice none 0 0
  | .one _ a, v => ∃ A c pa, v = .slice A 1 c ∧ 1 ≤ c ∧ c ≤ maxLen ∧ Rd w A (tcs [(a, pa)]) ∧ TP w a pa
  | .two _ a b, v => ∃ A c pa pb, v = .slice A 2 c ∧ 2 ≤ c ∧ c ≤ maxLen ∧ Rd w A (tcs [(a, pa), (b, pb)]) ∧ TP w a pa ∧ TP w b pb
/-- v is a slice of terms that reads as l -/
def TS (Q : Tm → Value → Prop) (w : World) (v : Value) (l : List Tm) : Prop := ∃ A c ps, v = .slice A l.length c ∧ l.length ≤ c ∧ c ≤ maxLen ∧ ps.length = l.length ∧ Rd w A (tcs (l.zip ps)) ∧ ∀ (j : Nat) t p, l[j]? = some t → ps[j]? = some p → Q t p
theorem TP.slice {w : World} {t : Tm} {v : Value} (h : TP w t v) : ∃ A c, v = .slice A t.prt.length c := by
  cases t with
  | atom s => exact ⟨none, 0, h⟩
  | one k a => obtain ⟨A, c, pa, e, _⟩ := h; exact ⟨A, c, e⟩
  | two k a b => obtain ⟨A, c, pa, pb, e, _⟩ := h; exact ⟨A, c, e⟩
theorem TP.ts {w : World} {t : Tm} {v : Value} (h : TP w t v) : TS (TP w) w v t.prt := by
  cases t with
  | atom s => exact ⟨none, 0, [], h, Nat.le_refl _, Nat.zero_le _, rfl, by show Rd w none (tcs ([] : List (Tm × Value))); rw [tcs_nil]; exact Rd.nil _ _, fun j t p h => by simp [Tm.prt] at h⟩
  | one k a =>
    obtain ⟨A, c, pa, e, h1, h2, h3, h4⟩ := h
    refine ⟨A, c, [pa], e, h1, h2, rfl, h3, fun j t p hj hp => ?_⟩
    match j, hj, hp with
    | 0, hj, hp => cases hj; cases hp; exact h4
    | j + 1, hj, _ => simp [Tm.prt] at hj
  | two k a b =>
    obtain ⟨A, c, pa, pb, e, h1, h2, h3, h4, h5⟩ := h
    refine ⟨A, c, [pa, pb], e, h1, h2, rfl, h3, fun j t p hj hp => ?_⟩
    match j, hj, hp with
    | 0, hj, hp => cases hj; cases hp; exact h4
    | 1, hj, hp => cases hj; cases hp; exact h5
    | j + 2, hj, _ => simp [Tm.prt] at hj
theorem tp_one {w : World} {k : Nat} {a : Tm} {v : Value} (h : TS (TP w) w v [a]) : TP w (.one k a) v := by
  obtain ⟨A, c, ps, e, h1, h2, h3, h4, h5⟩ := h
  match ps, h3 with
  | [pa], _ => exact ⟨A, c, pa, e, h1, h2, h4, h5 0 a pa rfl rfl⟩
theorem tp_two {w : World} {k : Nat} {a b : Tm} {v : Value} (h : TS (TP w) w v [a, b]) : TP w (.two k a b) v := by
  obtain ⟨A, c, ps, e, h1, h2, h3, h4, h5⟩ := h
  match ps, h3 with
  | [pa, pb], _ => exact ⟨A, c, pa, pb, e, h1, h2, h4, h5 0 a pa rfl rfl, h5 1 b pb rfl rfl⟩
/-- whatever keeps the rows keeps the terms -/
theorem TP.keep {w w' : World} (hk : ∀ A xs, (∃ l, xs = tcs l) → Rd w A xs → Rd w' A xs) : ∀ {t : Tm} {v : Value}, TP w t v → TP w' t v
  | .atom _, _, h => h
  | .one _ a, _, h => by
    obtain ⟨A, c, pa, e, h1, h2, h3, h4⟩ := h
    exact ⟨A, c, pa, e, h1, h2, hk A _ ⟨_, rfl⟩ h3, TP.keep hk h4⟩
  | .two _ a b, _, h => by
    obtain ⟨A, c, pa, pb, e, h1, h2, h3, h4, h5⟩ := h
    exact ⟨A, c, pa, pb, e, h1, h2, hk A _ ⟨_, rfl⟩ h3, TP.keep hk h4, TP.keep hk h5⟩
theorem TS.keep {Q : Tm → Value → Prop} {w w' : World} (hk : ∀ A xs, (∃ l, xs = tcs l) → Rd w A xs → Rd w' A xs) {v : Value} {l : List Tm} (h : TS Q w v l) : TS Q w' v l := by
  obtain ⟨A, c, ps, e, h1, h2, h3, h4, h5⟩ := h
  exact ⟨A, c, ps, e, h1, h2, h3, hk A _ ⟨_, rfl⟩ h4, h5⟩
theorem TP.one {w : World} {t : Tm} {p : Value} (h : TP w t p) : p.oneCell' = true := by
  obtain ⟨A, c, rfl⟩ := h.slice
  rfl
/-- the parts stand in blocks of B and above, whatever turns below -/
def FT (B : Nat) (w : World) (t : Tm) (p : Value) : Prop := ∀ V : World, w.heap.size ≤ V.heap.size → (∀ k, B ≤ k → k < w.heap.size → V.heap[k]? = w.heap[k]?) → TP V t p
theorem FT.tp {B : Nat} {w : World} {t : Tm} {p : Value} (h : FT B w t p) : TP w t p := h w (Nat.le_refl _) (fun _ _ _ => rfl)
theorem FT.mono {B B' : Nat} {w : World} {t : Tm} {p : Value} (h : FT B w t p) (hB : B' ≤ B) : FT B' w t p := fun V hs hk => h V hs (fun k h1 h2 => hk k (Nat.le_trans hB h1) h2)
theorem FT.one {B : Nat} {w : World} {t : Tm} {p : Value} (h : FT B w t p) : p.oneCell' = true := h.tp.one
/-- carried on: whatever turned stood below B or is new -/
theorem FT.on {B : Nat} {w w' : World} {t : Tm} {p : Value} (h : FT B w t p) (hs : w.heap.size ≤ w'.heap.size) (hk : ∀ k, B ≤ k → k < w.heap.size → w'.heap[k]? = w.heap[k]?) : FT B w' t p := fun V hs' hk' =>
  h V (Nat.le_trans hs hs') (fun k h1 h2 => (hk' k h1 (Nat.lt_of_lt_of_le h2 hs)).trans (hk k h1 h2))
theorem FT.below {B : Nat} {w w' : World} {t : Tm} {p : Value} (h : FT B w t p) (hb : Below w.heap.size w w') : FT B w' t p := h.on hb.size (fun k _ h2 => hb.block k h2)
theorem FT.grown {B g : Nat} {w w' : World} {t : Tm} {p : Value} (h : FT B w t p) (hg : w.grownBy w' (some g)) (hn : g < B) : FT B w' t p := h.on hg.size (fun k h1 h2 => hg.block k h2 (fun e => by have e := Option.some.inj e; omega))
theorem TP.below {w w' : World} {t : Tm} {v : Value} (h : TP w t v) (hb : Below w.heap.size w w') : TP w' t v := h.keep fun _ _ _ h => h.below hb
theorem TS.below {Q : Tm → Value → Prop} {w w' : World} {v : Value} {l : List Tm} (h : TS Q w v l) (hb : Below w.heap.size w w') : TS Q w' v l := h.keep fun _ _ _ h => h.below hb
/-- rows too long to lie in a small block -/
theorem rd_ne {w w' : World} {A : Option Addr} {xs : List Value} {g : Nat} (h : Rd w A xs) (hl : xs = [] ∨ ∀ o, A = some ⟨g, o, none⟩ → False) (hg : w.grownBy w' (some g)) : Rd w' A xs := by
  rcases hl with rfl | hl
  · exact Rd.nil _ _
  · intro j x hx
    obtain ⟨b, o, e, h1, h2⟩ := h j x hx
    have hne : b ≠ g := fun e2 => hl o (by rw [e, e2])
    refine ⟨b, o, e, Nat.lt_of_lt_of_le h1 hg.size, ?_⟩
    have := hg.block b h1 (fun e => hne (Option.some.inj e))
    unfold World.cell? at h2 ⊢
    simp only [this]
    exact h2
theorem blk_cell {w : World} {g T : Nat} {cs : Array Value} (hB : Rg.Blk w g T cs) (j : Nat) : w.cell? ⟨g, j, none⟩ = cs[j]? := by
  unfold Rg.Blk at hB
  unfold World.cell?
  simp [hB]
theorem tcs_small {w w' : World} {A : Option Addr} {l : List (Tm × Value)} {g T : Nat} {cs : Array Value} (h : Rd w A (tcs l)) (hB : Rg.Blk w g T cs) (hs : cs.size < 3) (hg : w.grownBy w' (some g)) : Rd w' A (tcs l) := by
  refine rd_ne h ?_ hg
  cases l with
  | nil => exact .inl tcs_nil
  | cons x l =>
    refine .inr fun o e => ?_
    subst e
    have hlen : (tcs (x :: l)).length = (x :: l).length * 3 := tcs_length _
    have h3 : 2 < (tcs (x :: l)).length := by rw [hlen, List.length_cons]; omega
    obtain ⟨b, o', e, _, hc⟩ := h 2 _ (List.getElem?_eq_getElem h3)
    injection e with e
    injection e with e1 e2
    subst e1 e2
    rw [blk_cell hB] at hc
    have := (Array.getElem?_eq_some_iff.1 hc).1
    omega
theorem knd_ne (t : Tm) : t.knd ≠ [] := by
  have hw : ∀ k, word k ≠ [] := fun k => by
    match k with
    | 0 => decide
    | 1 => decide
    | 2 => decide
    | 3 => decide
    | 4 => decide
    | 5 => decide
    | n + 6 => show ([115, 101, 97, 108] : List UInt8) ≠ []; decide
  cases t with
  | atom s => show atomW ≠ []; decide
  | one k a => exact hw k
  | two k a b => exact hw k
/-- a zero term's block is none of the rows -/
theorem tcs_zero {w w' : World} {A : Option Addr} {l : List (Tm × Value)} {g T : Nat} (h : Rd w A (tcs l)) (hB : Rg.Blk w g T #[.string ⟨#[]⟩, .string ⟨#[]⟩, .slice none 0 0]) (hg : w.grownBy w' (some g)) : Rd w' A (tcs l) := by
  refine rd_ne h ?_ hg
  cases l with
  | nil => exact .inl tcs_nil
  | cons x l =>
    refine .inr fun o e => ?_
    subst e
    have hlen : (tcs (x :: l)).length = (x :: l).length * 3 := tcs_length _
    have h3 : 2 < (tcs (x :: l)).length := by rw [hlen, List.length_cons]; omega
    obtain ⟨b, o', e, _, hc⟩ := h 2 _ (List.getElem?_eq_getElem h3)
    injection e with e
    injection e with e1 e2
    subst e1 e2
    rw [blk_cell hB] at hc
    have hlt := (Array.getElem?_eq_some_iff.1 hc).1
    simp at hlt
    have ho : o = 0 := by omega
    subst ho
    have h0 : (tcs (x :: l))[0]? = some (.string (strB x.1.knd)) := by
      rw [show x :: l = [x] ++ l from rfl, tcs_append, tcs_one]; rfl
    obtain ⟨b', o', e, _, hc0⟩ := h 0 _ h0
    injection e with e
    injection e with e1 e2
    subst e1 e2
    rw [blk_cell hB] at hc0
    simp at hc0
    exact knd_ne x.1 (strB_inj (t := []) hc0.symm)
theorem TP.small {w w' : World} {t : Tm} {v : Value} {g T : Nat} {cs : Array Value} (h : TP w t v) (hB : Rg.Blk w g T cs) (hs : cs.size < 3) (hg : w.grownBy w' (some g)) : TP w' t v :=
  h.keep fun A xs ⟨l, e⟩ h => by subst e; exact tcs_small h hB hs hg
theorem TP.zero {w w' : World} {t : Tm} {v : Value} {g T : Nat} (h : TP w t v) (hB : Rg.Blk w g T #[.string ⟨#[]⟩, .string ⟨#[]⟩, .slice none 0 0]) (hg : w.grownBy w' (some g)) : TP w' t v :=
  h.keep fun A xs ⟨l, e⟩ h => by subst e; exact tcs_zero h hB hg
/-- only maps have turned -/
theorem rd_maps {w w' : World} {A : Option Addr} {xs : List Value} {b : Nat} (h : Rd w A xs) (hg : w.grownBy w' (some b)) (hm : ∃ es clock, w.heap[b]? = some (.map es clock)) : Rd w' A xs := fun j x hx => by
  obtain ⟨g, o, e1, e2, e3⟩ := h j x hx
  have hne : g ≠ b := by
    rintro rfl
    obtain ⟨es, clock, hm⟩ := hm
    unfold World.cell? at e3
    simp [hm] at e3
  refine ⟨g, o, e1, Nat.lt_of_lt_of_le e2 hg.size, ?_⟩
  have := hg.block g e2 (fun e => hne (Option.some.inj e))
  unfold World.cell? at e3 ⊢
  simp only [this]
  exact e3
theorem TP.map {w w' : World} {t : Tm} {v : Value} {b : Nat} (h : TP w t v) (hg : w.grownBy w' (some b)) (hm : ∃ es clock, w.heap[b]? = some (.map es clock)) : TP w' t v :=
  h.keep fun _ _ _ h => rd_maps h hg hm
/-- a term as a value -/
abbrev tv (t : Tm) (p : Value) : Array Value := #[.string (strB t.knd), .string (strB t.txt), p]
theorem wp_name {P : Program} {c : Code} {Q : Exit → Act → World → Prop} {a : Act} {W : World} (h : ∀ X, X = W → c.wp P Q a X) : c.wp P Q a W := h W rfl
theorem bdN {B : Nat} {w w' : World} (h : Below B w w') (n : Nat) : Below B w (w'.drewN n) := ⟨h.os, h.tape, h.output, h.size, h.block⟩
theorem ownsBelow {w w' : World} {B sz n : Nat} {E : TypeId} {v : Value} {xs : List Value} (h : w.ownsRow B E sz v n xs) (hb : Below w.heap.size w w') : w'.ownsRow B E sz v n xs :=
  World.ownsRow.kept h (row := none) ⟨hb.os, hb.tape, hb.output, hb.size, fun k hk _ => hb.block k hk⟩ (by cases hv : v.ownBlock <;> simp)
end Go.Proofs.YtfcemnebhapidaaDoor.Te
