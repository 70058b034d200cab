/- Line: a word put into a command. -/
import Derived.Test.YtonjgfbefhefjaaDoorLnE
import Derived.Test.YtonjgfbefhefjaaDoorLnG
import Derived.RangeFuncOwn
set_option linter.unusedVariables false
set_option linter.unusedSimpArgs false
namespace Go.Proofs.YtonjgfbefhefjaaDoor.Ln
open Go Go.RowKit Go.Proofs.YtonjgfbefhefjaaDoor.Ow
/-- below B nothing but block b has turned, and nothing that is no cells -/
structure Frm (B b : Nat) (w w' : World) : Prop where
  os : w'.os = w.os
  tape : w'.tape = w.tape
  output : w'.output = w.output
  size : w.heap.size ≤ w'.heap.size
  block : ∀ k, k < B → k ≠ b → w'.heap[k]? = w.heap[k]?
  others : ∀ (k : Nat) (o : Obj), w.heap[k]? = some o → o.isCells = false → w'.heap[k]? = some o
theorem Frm.refl (B b : Nat) (w : World) : Frm B b w w := ⟨rfl, rfl, rfl, Nat.le_refl _, fun _ _ _ => rfl, fun _ _ h _ => h⟩
theorem Frm.trans {B b : Nat} {x y z : World} (h : Frm B b x y) (k : Frm B b y z) : Frm B b x z :=
  ⟨k.os.trans h.os, k.tape.trans h.tape, k.output.trans h.output, Nat.le_trans h.size k.size, fun i hi hb => (k.block i hi hb).trans (h.block i hi hb), fun i o hi ho => k.others i o (h.others i o hi ho) ho⟩
theorem Frm.below {B b : Nat} {w w' : World} (h : Below w.heap.size w w') (hB : B ≤ w.heap.size) : Frm B b w w' :=
  ⟨h.os, h.tape, h.output, h.size, fun k hk _ => h.block k (by omega), fun k o hk _ => by rw [h.block k (Array.getElem?_eq_some_iff.1 hk).1]; exact hk⟩
theorem Frm.set (B b j : Nat) (w : World) (v : Value) : Frm B b w (w.setCell ⟨b, j, none⟩ v) :=
  ⟨rfl, rfl, rfl, by simp [World.setCell], fun k _ hk => heap_setCell_other w ⟨b, j, none⟩ k v hk, fun k o hk ho => (KeepsOthers.setCell w ⟨b, j, none⟩ v).same k o hk ho⟩
theorem owns_cells {w : World} {B : Nat} {E : TypeId} {v : Value} {xs : List Value} (h : Owns w B E v xs) : ∀ g, v.ownBlock = some g → ∃ o : Obj, w.heap[g]? = some o ∧ o.isCells = true := by
  intro g hg
  obtain ⟨_, h⟩ := h
  rcases h with ⟨hv, _⟩ | ⟨g', cap, cur, hv, _, hh, _⟩
  · rw [hv] at hg; cases hg
  · rw [hv] at hg
    have : g' = g := by simpa [Value.ownBlock] using hg
    subst this
    exact ⟨_, hh, rfl⟩
theorem Frm.grown {B b : Nat} {w w' : World} {E : TypeId} {v : Value} {xs : List Value} (hB : B ≤ w.heap.size) (hO : Owns w B E v xs) (hg : w.grownBy w' v.ownBlock) : Frm B b w w' :=
  ⟨hg.os, hg.tape, hg.output, hg.size, fun k hk _ => hg.block k (by omega) (fun e => by have := (hO.lt k e.symm).1; omega), fun k o hk ho => by
    refine (hg.block k (Array.getElem?_eq_some_iff.1 hk).1 (fun e => ?_)).trans hk
    obtain ⟨o', ho', hc⟩ := owns_cells hO k e.symm
    rw [hk] at ho'; cases ho'; rw [ho] at hc; cases hc⟩
/-- a command in a box, its rows from B on -/
structure CmdAt (W : World) (B b : Nat) (c : Cm) (vN vK : Value) : Prop where
  blk : Rg.Blk W b 27 #[.string (strB c.word), vN, vK, .string (strB c.text)]
  names : Owns W B 9 vN (c.names.map encS)
  nums : Owns W B 3 vK (c.nums.map (Value.int .i64))
  lt : b < B
  le : B ≤ W.heap.size
theorem CmdAt.below {W W' : World} {B b : Nat} {c : Cm} {vN vK : Value} (h : CmdAt W B b c vN vK) (hb : Below W.heap.size W W') : CmdAt W' B b c vN vK :=
  ⟨h.blk.below hb h.blk.lt, h.names.below hb, h.nums.below hb, h.lt, Nat.le_trans h.le hb.size⟩
theorem blk_set {W : World} {b T j : Nat} {cs : Array Value} {v : Value} (h : Rg.Blk W b T cs) : Rg.Blk (W.setCell ⟨b, j, none⟩ v) b T (cs.setIfInBounds j v) := by
  have h2 := h
  unfold Rg.Blk at *
  rw [heap_setCell_same W b j _ _ _ h2]
theorem owns_set {W : World} {B b j : Nat} {E : TypeId} {v u : Value} {xs : List Value} (h : Owns W B E v xs) (hb : b < B) : Owns (W.setCell ⟨b, j, none⟩ u) B E v xs :=
  h.kept (Cl.grown_setCell W b j u) (by
    cases hv : v.ownBlock with
    | none => exact .inl rfl
    | some g => right; intro e; cases e; have := (h.lt b hv).1; omega)
theorem owns_kept {W W' : World} {B : Nat} {E E' : TypeId} {v u : Value} {xs ys : List Value} (h : Owns W B E v xs) (hu : Owns W B E' u ys) (hE : E ≠ E') (hg : W.grownBy W' u.ownBlock) : Owns W' B E v xs := by
  refine h.kept hg ?_
  cases hv : v.ownBlock with
  | none => exact .inl rfl
  | some g =>
    right
    intro e
    obtain ⟨_, h⟩ := h
    obtain ⟨_, hu⟩ := hu
    rcases h with ⟨h1, _⟩ | ⟨g1, cap1, cur1, h1, _, hh1, _⟩
    · rw [h1] at hv; cases hv
    · rcases hu with ⟨h2, _⟩ | ⟨g2, cap2, cur2, h2, _, hh2, _⟩
      · rw [h2] at e; cases e
      · rw [h1] at hv; rw [h2] at e
        have e1 : g1 = g := by simpa [Value.ownBlock] using hv
        have e2 : g = g2 := by simpa [Value.ownBlock] using e
        subst e1; subst e2
        rw [hh1] at hh2
        cases hh2
        exact hE rfl
theorem CmdAt.row {W W6 : World} {B b : Nat} {c : Cm} {vN vK u : Value} {E : TypeId} {ys : List Value} (h : CmdAt W B b c vN vK) (hu : Owns W B E u ys) (hg : W.grownBy W6 u.ownBlock) : Rg.Blk W6 b 27 #[.string (strB c.word), vN, vK, .string (strB c.text)] := by
  have := h.blk
  unfold Rg.Blk at *
  rw [hg.block b (Array.getElem?_eq_some_iff.1 this).1 (fun e => by have := (hu.lt b e.symm).1; have := h.lt; omega)]; exact this
theorem CmdAt.num {W W6 : World} {B b : Nat} {c : Cm} {vN vK v6 : Value} {n : Int} (h : CmdAt W B b c vN vK) (ho : Owns W6 B 3 v6 (c.nums.map (Value.int .i64) ++ [.int .i64 n])) (hg : W.grownBy W6 vK.ownBlock) :
    CmdAt (W6.setCell ⟨b, 2, none⟩ v6) B b { c with nums := c.nums ++ [n] } vN v6 ∧ Frm B b W (W6.setCell ⟨b, 2, none⟩ v6) := by
  have hB := h.le
  have hb6 : Rg.Blk W6 b 27 #[.string (strB c.word), vN, vK, .string (strB c.text)] := by
    have := h.blk
    unfold Rg.Blk at *
    rw [hg.block b (Array.getElem?_eq_some_iff.1 this).1 (fun e => by have := (h.nums.lt b e.symm).1; have := h.lt; omega)]; exact this
  refine ⟨⟨blk_set hb6, owns_set (owns_kept h.names h.nums (by decide) hg) h.lt, ?_, h.lt, ?_⟩, (Frm.grown hB h.nums hg).trans (Frm.set B b 2 W6 v6)⟩
  · have := owns_set (b := b) (j := 2) (u := v6) ho h.lt
    rw [List.map_append]; exact this
  · have := hg.size; show B ≤ (W6.heap.modify _ _).size; rw [Array.size_modify]; omega
theorem CmdAt.name {W W6 : World} {B b : Nat} {c : Cm} {vN vK v6 : Value} {n : List UInt8} (h : CmdAt W B b c vN vK) (ho : Owns W6 B 9 v6 (c.names.map encS ++ [.string (strB n)])) (hg : W.grownBy W6 vN.ownBlock) :
    CmdAt (W6.setCell ⟨b, 1, none⟩ v6) B b { c with names := c.names ++ [n] } v6 vK ∧ Frm B b W (W6.setCell ⟨b, 1, none⟩ v6) := by
  have hB := h.le
  have hb6 : Rg.Blk W6 b 27 #[.string (strB c.word), vN, vK, .string (strB c.text)] := by
    have := h.blk
    unfold Rg.Blk at *
    rw [hg.block b (Array.getElem?_eq_some_iff.1 this).1 (fun e => by have := (h.names.lt b e.symm).1; have := h.lt; omega)]; exact this
  refine ⟨⟨blk_set hb6, ?_, owns_set (owns_kept h.nums h.names (by decide) hg) h.lt, h.lt, ?_⟩, (Frm.grown hB h.names hg).trans (Frm.set B b 1 W6 v6)⟩
  · have := owns_set (b := b) (j := 1) (u := v6) ho h.lt
    rw [snocS] at this; exact this
  · have := hg.size; show B ≤ (W6.heap.modify _ _).size; rw [Array.size_modify]; omega
theorem CmdAt.text {W : World} {B b : Nat} {c : Cm} {vN vK : Value} {t : List UInt8} (h : CmdAt W B b c vN vK) : CmdAt (W.setCell ⟨b, 3, none⟩ (.string (strB t))) B b { c with text := t } vN vK ∧ Frm B b W (W.setCell ⟨b, 3, none⟩ (.string (strB t))) :=
  ⟨⟨blk_set h.blk, owns_set h.names h.lt, owns_set h.nums h.lt, h.lt, by have := h.le; show B ≤ (W.heap.modify _ _).size; rw [Array.size_modify]; omega⟩, Frm.set B b 3 W _⟩
theorem numV_put (w : List UInt8) (c : Cm) : put 35 w c = if (numV w).2 then some { c with nums := c.nums ++ [(numV w).1] } else none := by
  unfold put numV
  rw [if_pos rfl]
  cases numL w <;> rfl
theorem textV_put (w : List UInt8) (c : Cm) : put 116 w c = if (textV w).2 then some { c with text := (textV w).1 } else none := by
  unfold put textV
  rw [if_neg (by decide), if_pos rfl]
  cases textL w <;> rfl
theorem nameV_put (x : UInt8) (w : List UInt8) (c : Cm) (h1 : x ≠ 35) (h2 : x ≠ 116) : put x w c = if (nameV w).2 then some { c with names := c.names ++ [(nameV w).1] } else none := by
  unfold put
  rw [if_neg h1, if_neg h2, nameV_nm]
  cases (nameV w).2 <;> rfl
/-- what put does -/
def PutPost (B b : Nat) (x : UInt8) (w : List UInt8) (c : Cm) (W : World) (e : Ending) (W' : World) : Prop :=
  e = .returned (.bool (put x w c).isSome) ∧ Frm B b W W' ∧ ∃ c' vN vK, CmdAt W' B b c' vN vK ∧ (∀ d, put x w c = some d → c' = d)
theorem PutPost.mk {B b : Nat} {x : UInt8} {w : List UInt8} {c c' : Cm} {W W' : World} {vN vK : Value} {k : Bool} (hp : put x w c = if k then some c' else none) (hc : CmdAt W' B b c' vN vK) (hf : Frm B b W W') : PutPost B b x w c W (.returned (.bool k)) W' :=
  ⟨by rw [hp]; cases k <;> rfl, hf, c', vN, vK, hc, fun d hd => by
    rw [hp] at hd
    cases k
    · cases hd
    · cases hd; rfl⟩
set_option maxRecDepth 20000 in
set_option maxHeartbeats 4000000 in
theorem put_any (x : UInt8) (S : ByteArray) (w : World) (B b : Nat) (c : Cm) (vN vK : Value) (hs : S.size ≤ 1000000) (hc : CmdAt w B b c vN vK) (hn : c.names.length ≤ 100000) (hk : c.nums.length ≤ 100000) (hT : TabP w) :
    Calls Tryd.prog 20 #[.pointer (some ⟨b, 0, none⟩), .int .u8 x.toNat, .string S] w (PutPost B b x S.data.toList c w) := by
  have HC := Lib.hid hc
  have HT := Lib.hid hT
  have HN := Lib.hid hn
  have HK := Lib.hid hk
  clear hc hT hn hk
  by_cases h1 : x = 35
  · subst h1
    have HP := Lib.hid (numV_put S.data.toList c)
    go_enter Tryd.func20, Tryd.ntmps20
    go_wp2_with (first
      | (go_at_call 37; refine (number_any S _ hs HT.out).mono ?_; rintro e w1 ⟨rfl, hb1⟩; skip; have HC1 := Lib.hid (HC.out.below hb1); have HF1 := Lib.hid (Frm.below (b := b) hb1 HC.out.le); have HL1 := Lib.hid HC1.out.le; have p2 := HC1.out.blk.cell 2 (v := vK) rfl; have q2 := HC1.out.blk.frozen 2; clear hb1)
      | (refine app1 rfl _ _ 25 rfl (E := 3) (z := .int .i64 0) (by' := 8) rfl rfl rfl (by decide) HC1.out.nums rfl rfl rfl (by rw [List.length_map]; have h1 := HK.out; omega) HL1.out ?_; rintro v6 w6 h2 h3 h4; skip; obtain ⟨A6, c6, hv6, _, _⟩ := h2.form; rw [List.length_append, List.length_map, List.length_singleton] at hv6; subst hv6; have HR := Lib.hid (HC1.out.num h2 h3); have HB6 := HC1.out.row HC1.out.nums h3; have p6 := HB6.cell 2 (v := vK) rfl; have q6 := HB6.frozen 2; clear h2 h3 h4 HB6))
    go_ret
    exact PutPost.mk HP.out HR.out.1 (HF1.out.trans HR.out.2)
  · have e1 : ((x.toNat : Int) == 35) = false := by rw [beq_eq_false_iff_ne]; intro e; exact h1 (UInt8.toNat_inj.1 (by show x.toNat = 35; omega))
    by_cases h2 : x = 116
    · subst h2
      have HP := Lib.hid (textV_put S.data.toList c)
      clear h1 e1
      go_enter Tryd.func20, Tryd.ntmps20
      go_wp2_with (go_at_call 38; refine (text_any S _ hs).mono ?_; rintro e w1 ⟨rfl, hb1⟩; skip; have HC1 := Lib.hid (HC.out.below hb1); have HF1 := Lib.hid (Frm.below (b := b) hb1 HC.out.le); have p3 := HC1.out.blk.cell 3 (v := .string (strB c.text)) rfl; have q3 := HC1.out.blk.frozen 3; clear hb1)
      go_ret
      exact PutPost.mk HP.out HC1.out.text.1 (HF1.out.trans HC1.out.text.2)
    · have e2 : ((x.toNat : Int) == 116) = false := by rw [beq_eq_false_iff_ne]; intro e; exact h2 (UInt8.toNat_inj.1 (by show x.toNat = 116; omega))
      have HP := Lib.hid (nameV_put x S.data.toList c h1 h2)
      clear h1 h2
      have HL := Lib.hid HC.out.le
      go_enter Tryd.func20, Tryd.ntmps20
      go_wp2_with (first
        | (go_at_call 39; refine (name_any S _ hs).mono ?_; rintro e w1 ⟨rfl, rfl⟩; skip; have p1 := HC.out.blk.cell 1 (v := vN) rfl; have q1 := HC.out.blk.frozen 1)
        | (refine app1 rfl _ _ 24 rfl (E := 9) (z := .string ⟨#[]⟩) (by' := 16) rfl rfl rfl (by decide) HC.out.names rfl rfl rfl (by rw [List.length_map]; have h1 := HN.out; omega) HL.out ?_; rintro v6 w6 h2 h3 h4; skip; obtain ⟨A6, c6, hv6, _, _⟩ := h2.form; rw [List.length_append, List.length_map, List.length_singleton] at hv6; subst hv6; have HR := Lib.hid (HC.out.name h2 h3); have HB6 := HC.out.row HC.out.names h3; have p6 := HB6.cell 1 (v := vN) rfl; have q6 := HB6.frozen 1; clear h2 h3 h4 HB6))
      go_ret
      exact PutPost.mk HP.out HR.out.1 HR.out.2
end Go.Proofs.YtonjgfbefhefjaaDoor.Ln
