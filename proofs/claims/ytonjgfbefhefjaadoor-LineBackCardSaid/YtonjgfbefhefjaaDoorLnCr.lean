/- Line: the reference's command in a box. -/
import Derived.Test.YtonjgfbefhefjaaDoorLnH
import Derived.Test.YtonjgfbefhefjaaDoorLnP2
set_option linter.unusedVariables false
set_option linter.unusedSimpArgs false
namespace Go.Proofs.YtonjgfbefhefjaaDoor.Ln
open Go Go.RowKit Go.Proofs.YtonjgfbefhefjaaDoor.Ow
/-- a command in a box, its rows from B on -/
structure CmdRt (W : World) (B b : Nat) (c : Cm) (vN vK : Value) : Prop where
  blk : Rg.Blk W b 32 #[.string (strB c.word), vN, vK, .string (strB c.text)]
  names : Owns W B 9 vN (c.names.map encS)
  nums : Owns W B 3 vK (c.nums.map (Value.int .i64))
  lt : b < B
  le : B ≤ W.heap.size
theorem CmdRt.below {W W' : World} {B b : Nat} {c : Cm} {vN vK : Value} (h : CmdRt W B b c vN vK) (hb : Below W.heap.size W W') : CmdRt W' B b c vN vK :=
  ⟨h.blk.below hb h.blk.lt, h.names.below hb, h.nums.below hb, h.lt, Nat.le_trans h.le hb.size⟩
theorem CmdRt.row {W W6 : World} {B b : Nat} {c : Cm} {vN vK u : Value} {E : TypeId} {ys : List Value} (h : CmdRt W B b c vN vK) (hu : Owns W B E u ys) (hg : W.grownBy W6 u.ownBlock) : Rg.Blk W6 b 32 #[.string (strB c.word), vN, vK, .string (strB c.text)] := by
  have := h.blk
  unfold Rg.Blk at *
  rw [hg.block b (Array.getElem?_eq_some_iff.1 this).1 (fun e => by have := (hu.lt b e.symm).1; have := h.lt; omega)]; exact this
theorem CmdRt.num {W W6 : World} {B b : Nat} {c : Cm} {vN vK v6 : Value} {n : Int} (h : CmdRt W B b c vN vK) (ho : Owns W6 B 3 v6 (c.nums.map (Value.int .i64) ++ [.int .i64 n])) (hg : W.grownBy W6 vK.ownBlock) :
    CmdRt (W6.setCell ⟨b, 2, none⟩ v6) B b { c with nums := c.nums ++ [n] } vN v6 ∧ Frm B b W (W6.setCell ⟨b, 2, none⟩ v6) := by
  have hB := h.le
  have hb6 : Rg.Blk W6 b 32 #[.string (strB c.word), vN, vK, .string (strB c.text)] := by
    have := h.blk
    unfold Rg.Blk at *
    rw [hg.block b (Array.getElem?_eq_some_iff.1 this).1 (fun e => by have := (h.nums.lt b e.symm).1; have := h.lt; omega)]; exact this
  refine ⟨⟨blk_set hb6, owns_set (owns_kept h.names h.nums (by decide) hg) h.lt, ?_, h.lt, ?_⟩, (Frm.grown hB h.nums hg).trans (Frm.set B b 2 W6 v6)⟩
  · have := owns_set (b := b) (j := 2) (u := v6) ho h.lt
    rw [List.map_append]; exact this
  · have := hg.size; show B ≤ (W6.heap.modify _ _).size; rw [Array.size_modify]; omega
theorem CmdRt.name {W W6 : World} {B b : Nat} {c : Cm} {vN vK v6 : Value} {n : List UInt8} (h : CmdRt W B b c vN vK) (ho : Owns W6 B 9 v6 (c.names.map encS ++ [.string (strB n)])) (hg : W.grownBy W6 vN.ownBlock) :
    CmdRt (W6.setCell ⟨b, 1, none⟩ v6) B b { c with names := c.names ++ [n] } v6 vK ∧ Frm B b W (W6.setCell ⟨b, 1, none⟩ v6) := by
  have hB := h.le
  have hb6 : Rg.Blk W6 b 32 #[.string (strB c.word), vN, vK, .string (strB c.text)] := by
    have := h.blk
    unfold Rg.Blk at *
    rw [hg.block b (Array.getElem?_eq_some_iff.1 this).1 (fun e => by have := (h.names.lt b e.symm).1; have := h.lt; omega)]; exact this
  refine ⟨⟨blk_set hb6, ?_, owns_set (owns_kept h.nums h.names (by decide) hg) h.lt, h.lt, ?_⟩, (Frm.grown hB h.names hg).trans (Frm.set B b 1 W6 v6)⟩
  · have := owns_set (b := b) (j := 1) (u := v6) ho h.lt
    rw [snocS] at this; exact this
  · have := hg.size; show B ≤ (W6.heap.modify _ _).size; rw [Array.size_modify]; omega
theorem CmdRt.text {W : World} {B b : Nat} {c : Cm} {vN vK : Value} {t : List UInt8} (h : CmdRt W B b c vN vK) : CmdRt (W.setCell ⟨b, 3, none⟩ (.string (strB t))) B b { c with text := t } vN vK ∧ Frm B b W (W.setCell ⟨b, 3, none⟩ (.string (strB t))) :=
  ⟨⟨blk_set h.blk, owns_set h.names h.lt, owns_set h.nums h.lt, h.lt, by have := h.le; show B ≤ (W.heap.modify _ _).size; rw [Array.size_modify]; omega⟩, Frm.set B b 3 W _⟩
theorem numI_put (w : List UInt8) (c : Cm) : put 35 w c = if numI w < 0 then none else some { c with nums := c.nums ++ [numI w] } := by
  unfold put numI
  rw [if_pos rfl]
  cases h : numL w with
  | none => simp
  | some n => simp
theorem may_put (x : UInt8) (w : List UInt8) (c : Cm) (h1 : x ≠ 35) (h2 : x ≠ 116) : put x w c = if mayB w then some { c with names := c.names ++ [if w = [45] then [] else w] } else none := by
  unfold put
  rw [if_neg h1, if_neg h2]
  unfold nmL
  by_cases h : w = [45]
  · subst h
    rw [if_pos rfl, if_pos (by decide)]; simp
  · rw [if_neg h]
    by_cases h3 : w ≠ [] ∧ w.length ≤ 64 ∧ vis w = true
    · rw [if_pos h3]
      have hp := List.length_pos_iff.2 h3.1
      rw [if_pos (by unfold mayB; simp [h3.2.1, h3.2.2]; omega), if_neg h]; rfl
    · rw [if_neg h3, if_neg]
      · rfl
      · intro e
        unfold mayB at e
        simp at e
        exact h3 ⟨fun e' => by rw [e'] at e; simp at e, e.2, e.1.1⟩
theorem go_ext : ∀ {cs : List UInt8} (more : List UInt8) {ws : List (List UInt8)} {s : Cm}, ws.length ≤ cs.length → go (cs ++ more) ws s = go cs ws s
  | cs, more, [], s, _ => by cases cs <;> cases more <;> rfl
  | [], more, w :: ws, s, h => by simp at h
  | c :: cs, more, w :: ws, s, h => by
    rw [List.cons_append, go, go]
    congr 1
    funext d
    exact go_ext more (by simpa using h)
theorem go_long : ∀ {cs : List UInt8} {ws : List (List UInt8)} {s : Cm}, cs.length < ws.length → go cs ws s = none
  | cs, [], s, h => by simp at h
  | [], w :: ws, s, _ => rfl
  | c :: cs, w :: ws, s, h => by
    rw [go]
    cases put c w s with
    | none => rfl
    | some d => exact go_long (by simpa using h)
/-- the letters that the reference takes -/
def refLets (sh : List UInt8) (n : Nat) : List UInt8 := if sh = [110, 110, 35, 35, 35, 42] then [110, 110, 35, 35, 35] ++ List.replicate (min n 22 - 6) 110 else sh
theorem parse_ref {s w : List UInt8} {ws : List (List UInt8)} {sh : List UInt8} (h : s.length ≤ 2000) (hs : sp s = w :: ws) (hsh : shp w = some sh) :
    parse s = if ws.length ≠ (refLets sh (ws.length + 1)).length then .error 3 else match go (refLets sh (ws.length + 1)) ws ⟨w, [], [], []⟩ with
      | none => .error 3
      | some c => .ok c := by
  rw [parse_at h hs, hsh]
  simp only
  unfold refLets
  by_cases hst : sh = [110, 110, 35, 35, 35, 42]
  · subst hst
    rw [if_pos rfl]
    have e1 : stem [110, 110, 35, 35, 35, 42] = [110, 110, 35, 35, 35] := by decide
    have e2 : letters [110, 110, 35, 35, 35, 42] = [110, 110, 35, 35, 35] ++ List.replicate 16 110 := by decide
    rw [e1, e2]
    simp only [List.length_append, List.length_replicate, List.length_cons, List.length_nil]
    by_cases h1 : ws.length < 5
    · rw [if_pos (by omega), if_pos (by omega)]
    · rw [if_neg (by omega)]
      by_cases h2 : 21 < ws.length
      · rw [if_pos (by omega), go_long (by simp; omega)]
      · rw [if_neg (by omega)]
        have e3 : [110, 110, 35, 35, 35] ++ List.replicate 16 110 = ([110, 110, 35, 35, 35] ++ List.replicate (min (ws.length + 1) 22 - 6) 110) ++ List.replicate (16 - (min (ws.length + 1) 22 - 6)) (110 : UInt8) := by
          rw [List.append_assoc, List.replicate_append_replicate, show min (ws.length + 1) 22 - 6 + (16 - (min (ws.length + 1) 22 - 6)) = 16 by omega]
        rw [e3, go_ext _ (by simp; omega)]
        rfl
  · rw [if_neg hst]
    have hno : ∀ r ∈ tab, r.2 = [110, 110, 35, 35, 35, 42] ∨ (stem r.2 = r.2 ∧ letters r.2 = r.2) := by decide +kernel
    obtain ⟨e1, e2⟩ := (hno _ (shp_mem hsh)).resolve_left hst
    simp only at e1 e2
    rw [e1, e2]
    by_cases h1 : ws.length < sh.length
    · rw [if_pos h1, if_pos (by omega)]
    · rw [if_neg h1]
      by_cases h2 : sh.length < ws.length
      · rw [if_pos (by omega), go_long h2]
      · rw [if_neg (by omega)]
        rfl
end Go.Proofs.YtonjgfbefhefjaaDoor.Ln
