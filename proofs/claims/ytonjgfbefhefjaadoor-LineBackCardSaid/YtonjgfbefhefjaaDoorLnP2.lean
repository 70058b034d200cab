/- Line's Parse: a command with words behind it. -/
import Derived.Test.YtonjgfbefhefjaaDoorLnP1
import Derived.Test.YtonjgfbefhefjaaDoorLnQ
import Derived.RangeFuncCalls
import Derived.Shelf.RegionOpen
set_option linter.unusedVariables false
set_option linter.unusedSimpArgs false
namespace Go.Proofs.YtonjgfbefhefjaaDoor.Ln
open Go Go.RowKit Go.Proofs.YtonjgfbefhefjaaDoor.Ow
attribute [local go_sem] Oper.semAt_some
theorem go_snoc : ∀ (cs : List UInt8) (pre : List (List UInt8)) (x : List UInt8) (s : Cm), go cs (pre ++ [x]) s = (go cs pre s).bind fun c => (cs[pre.length]?).bind fun l => put l x c
  | [], [], x, s => rfl
  | c :: cs, [], x, s => by
    show (put c x s).bind (go cs []) = _
    cases h : put c x s with
    | none => simp [go, h]
    | some d => cases cs <;> simp [go, h]
  | [], y :: pre, x, s => rfl
  | c :: cs, y :: pre, x, s => by
    rw [List.cons_append, go, go]
    cases h : put c y s with
    | none => rfl
    | some d =>
      simp only [Option.bind_some, go_snoc cs pre x d]
      rfl
theorem go_none {cs : List UInt8} {s : Cm} : ∀ {pre ws : List (List UInt8)}, go cs pre s = none → pre <+: ws → go cs ws s = none := by
  intro pre ws h hp
  obtain ⟨t, rfl⟩ := hp
  have aux : ∀ l : List (List UInt8), go cs (pre ++ l.reverse) s = none := by
    intro l
    induction l with
    | nil => simpa using h
    | cons x l ih => rw [List.reverse_cons, ← List.append_assoc, go_snoc, ih]; rfl
  have := aux t.reverse
  rwa [List.reverse_reverse] at this
theorem letters_lo {sh : List UInt8} {k : Nat} (h : k < (stem sh).length) : (letters sh)[k]? = (stem sh)[k]? := by unfold letters; rw [List.getElem?_append_left h]
theorem letters_mid {sh : List UInt8} {k : Nat} (h : ¬ k < (stem sh).length) (ho : opn sh = true) (hk : k < (stem sh).length + 16) : (letters sh)[k]? = some 110 := by
  unfold letters
  rw [List.getElem?_append_right (by omega), if_pos ho, List.getElem?_replicate, if_pos (by omega)]
theorem letters_hi {sh : List UInt8} {k : Nat} (h : ¬ k < (stem sh).length) (ho : opn sh = false ∨ (stem sh).length + 16 ≤ k) : (letters sh)[k]? = none := by
  unfold letters
  rw [List.getElem?_append_right (by omega)]
  rcases ho with ho | ho
  · rw [ho]; rfl
  · split
    · rw [List.getElem?_replicate, if_neg (by omega)]
    · rfl
theorem blk_abs {W W' : World} {b T bs B : Nat} {cs : Array Value} {row : Option Nat} (h : Rg.Blk W b T cs) (hg : W.grownBy W' row) (hr : ∀ r, row = some r → r = bs ∨ (B ≤ r ∧ ∃ o : Obj, W.heap[r]? = some o ∧ o.isCells = false)) (hb : b ≠ bs) : Rg.Blk W' b T cs := by
  have h2 := h
  unfold Rg.Blk at *
  rw [hg.block b (Array.getElem?_eq_some_iff.1 h2).1 (fun e => ?_)]
  · exact h2
  · rcases hr b e.symm with h3 | ⟨_, o, ho, hc⟩
    · exact hb h3
    · rw [h2] at ho; cases ho; cases hc
theorem owns_abs {W W' : World} {bs B C : Nat} {E : TypeId} {v : Value} {xs : List Value} {row : Option Nat} (h : Owns W C E v xs) (hg : W.grownBy W' row) (hr : ∀ r, row = some r → r = bs ∨ (B ≤ r ∧ ∃ o : Obj, W.heap[r]? = some o ∧ o.isCells = false)) (hb : bs < C) : Owns W' C E v xs := by
  refine h.kept hg ?_
  cases hv : v.ownBlock with
  | none => exact .inl rfl
  | some g =>
    right
    intro e
    rcases hr g e.symm with h3 | ⟨_, o, ho, hc⟩
    · have := (h.lt g hv).1; omega
    · obtain ⟨o', ho', hc'⟩ := owns_cells h g hv
      rw [ho] at ho'; cases ho'; rw [hc] at hc'; cases hc'
theorem below_abs {w W W' : World} {bs B : Nat} {row : Option Nat} (h : Below w.heap.size w W) (hg : W.grownBy W' row) (hr : ∀ r, row = some r → r = bs ∨ (B ≤ r ∧ ∃ o : Obj, W.heap[r]? = some o ∧ o.isCells = false)) (hb : w.heap.size ≤ bs) (hB : w.heap.size ≤ B) : Below w.heap.size w W' :=
  h.grown hg h.size (fun k e => by rcases hr k e with h3 | ⟨h3, _⟩ <;> omega)
/-- between two rounds: the command so far, the boxes -/
structure LI (w : World) (z : Nat) (w0 sh : List UInt8) (pre : List (List UInt8)) (c : Cm) (vN vK : Value) (W : World) : Prop where
  go : go (letters sh) pre ⟨w0, [], [], []⟩ = some c
  cmd : CmdAt W (z + 7) (z + 1) c vN vK
  s : Rg.Blk W z 9 #[.string (strB (stem sh))]
  o : Rg.Blk W (z + 2) 4 #[.bool (opn sh)]
  n : Rg.Blk W (z + 3) 3 #[.int .i64 (pre.length : Int)]
  two : TwoAt w W
  lo : w.heap.size + 2 ≤ z
def LInv (w : World) (z : Nat) (w0 sh : List UInt8) (pre : List (List UInt8)) (W : World) : Prop := ∃ c vN vK, LI w z w0 sh pre c vN vK W
theorem LInv.abs (w : World) (z : Nat) (w0 sh : List UInt8) (B : Nat) (hB : w.heap.size ≤ B) : Abs B (z + 4) (LInv w z w0 sh) := by
  rintro s W W' row ⟨c, vN, vK, h⟩ hg hr
  have lo := h.lo
  exact ⟨c, vN, vK, ⟨h.go, ⟨blk_abs h.cmd.blk hg hr (by omega), owns_abs h.cmd.names hg hr (by omega), owns_abs h.cmd.nums hg hr (by omega), h.cmd.lt, Nat.le_trans h.cmd.le hg.size⟩, blk_abs h.s hg hr (by omega), blk_abs h.o hg hr (by omega), blk_abs h.n hg hr (by omega), ⟨blk_abs h.two.1 hg hr (by omega), blk_abs h.two.2.1 hg hr (by omega), below_abs h.two.2.2 hg hr (by omega) hB⟩, lo⟩⟩
/-- a word was no good -/
structure LX (w : World) (z : Nat) (w0 sh : List UInt8) (ev : Value) (pre : List (List UInt8)) (W : World) : Prop where
  go : go (letters sh) pre ⟨w0, [], [], []⟩ = none
  r : Rg.Blk W w.heap.size 27 ZC
  e : Rg.Blk W (w.heap.size + 1) 29 #[ev]
  b : Below w.heap.size w W
  lo : w.heap.size + 2 ≤ z
theorem LX.abs (w : World) (z : Nat) (w0 sh : List UInt8) (ev : Value) (B : Nat) (hB : w.heap.size ≤ B) : Abs B (z + 4) (LX w z w0 sh ev) := by
  rintro s W W' row h hg hr
  have lo := h.lo
  exact ⟨h.go, blk_abs h.r hg hr (by omega), blk_abs h.e hg hr (by omega), below_abs h.b hg hr (by omega) hB, lo⟩
theorem Frm.blk {B b k T : Nat} {W W' : World} {cs : Array Value} (h : Frm B b W W') (hb : Rg.Blk W k T cs) (hk : k < B) (hne : k ≠ b) : Rg.Blk W' k T cs := by
  unfold Rg.Blk at *
  rw [h.block k hk hne]; exact hb
theorem Frm.from {B b : Nat} {W W' : World} (h : Frm B b W W') (C : Nat) : KeepsFrom C W W' := ⟨h.size, fun k o _ hk ho => h.others k o hk ho⟩
theorem Frm.bel {B b n : Nat} {W W' : World} (h : Frm B b W W') (hB : n ≤ B) (hb : n ≤ b) : Below n W W' := ⟨h.os, h.tape, h.output, h.size, fun k hk => h.block k (by omega) (by omega)⟩
theorem put_no {x : UInt8} {S : ByteArray} {w : World} {B b : Nat} {c : Cm} {vN vK : Value} (hp : put x S.data.toList c = none) (hs : S.size ≤ 1000000) (hc : CmdAt w B b c vN vK) (hn : c.names.length ≤ 100000) (hk : c.nums.length ≤ 100000) (hT : TabP w) :
    Calls Tryd.prog 20 #[.pointer (some ⟨b, 0, none⟩), .int .u8 x.toNat, .string S] w fun e w' => e = .returned (.bool false) ∧ Frm B b w w' :=
  (put_any x S w B b c vN vK hs hc hn hk hT).mono fun e w' h => ⟨by rw [h.1, hp]; rfl, h.2.1⟩
theorem put_yes {x : UInt8} {S : ByteArray} {w : World} {B b : Nat} {c d : Cm} {vN vK : Value} (hp : put x S.data.toList c = some d) (hs : S.size ≤ 1000000) (hc : CmdAt w B b c vN vK) (hn : c.names.length ≤ 100000) (hk : c.nums.length ≤ 100000) (hT : TabP w) :
    Calls Tryd.prog 20 #[.pointer (some ⟨b, 0, none⟩), .int .u8 x.toNat, .string S] w fun e w' => e = .returned (.bool true) ∧ Frm B b w w' ∧ ∃ vN vK, CmdAt w' B b d vN vK :=
  (put_any x S w B b c vN vK hs hc hn hk hT).mono fun e w' h => ⟨by rw [h.1, hp]; rfl, h.2.1, by
    obtain ⟨_, _, c', vN', vK', hc', hd⟩ := h
    rw [← hd d hp]
    exact ⟨vN', vK', hc'⟩⟩
/-- a word more -/
theorem LI.next {w W W1 : World} {z : Nat} {w0 sh x : List UInt8} {pre : List (List UInt8)} {c d : Cm} {vN vK vN' vK' : Value} {y : UInt8} (h : LI w z w0 sh pre c vN vK W) (hy : (letters sh)[pre.length]? = some y) (hp : put y x c = some d) (hF : Frm (z + 7) (z + 1) W W1) (hd : CmdAt W1 (z + 7) (z + 1) d vN' vK') {n : Int} (hn : n = ((pre ++ [x]).length : Int)) :
    LInv w z w0 sh (pre ++ [x]) (W1.setCell ⟨z + 3, 0, none⟩ (.int .i64 n)) := by
  have lo := h.lo
  have hN := hF.blk h.n (by omega) (by omega)
  have hsz : (W1.setCell ⟨z + 3, 0, none⟩ (.int .i64 n)).heap.size = W1.heap.size := by simp [World.setCell]
  have oth : ∀ {k T : Nat} {cs : Array Value}, Rg.Blk W1 k T cs → k ≠ z + 3 → Rg.Blk (W1.setCell ⟨z + 3, 0, none⟩ (.int .i64 n)) k T cs := fun hb hk => by
    unfold Rg.Blk at *
    rw [heap_setCell_other W1 ⟨z + 3, 0, none⟩ _ _ hk]; exact hb
  have hB : Below w.heap.size w W1 := h.two.2.2.trans (hF.bel (by omega) (by omega))
  subst hn
  exact ⟨d, vN', vK', ⟨by rw [go_snoc, h.go]; simp only [Option.bind_some]; rw [hy]; exact hp, ⟨oth hd.blk (by omega), owns_set hd.names (by omega), owns_set hd.nums (by omega), hd.lt, by rw [hsz]; exact hd.le⟩, oth (hF.blk h.s (by omega) (by omega)) (by omega), oth (hF.blk h.o (by omega) (by omega)) (by omega), blk_set hN, ⟨oth (hF.blk h.two.1 (by omega) (by omega)) (by omega), oth (hF.blk h.two.2.1 (by omega) (by omega)) (by omega), hB.setCell (p := ⟨z + 3, 0, none⟩) (by show w.heap.size ≤ z + 3; omega) _⟩, lo⟩⟩
theorem kp_frm {W W1 : World} {z : Nat} (hF : Frm (z + 7) (z + 1) W W1) : Kp (z + 5) (z + 4) (z + 6) W W1 := ⟨hF.block _ (by omega) (by omega), hF.block _ (by omega) (by omega), hF.block _ (by omega) (by omega)⟩
theorem kp_set {W W1 : World} {z j : Nat} {v : Value} (h : Kp (z + 5) (z + 4) (z + 6) W W1) : Kp (z + 5) (z + 4) (z + 6) W (W1.setCell ⟨z + 3, j, none⟩ v) :=
  h.trans ⟨heap_setCell_other W1 ⟨z + 3, j, none⟩ _ _ (by show z + 5 ≠ z + 3; omega), heap_setCell_other W1 ⟨z + 3, j, none⟩ _ _ (by show z + 4 ≠ z + 3; omega), heap_setCell_other W1 ⟨z + 3, j, none⟩ _ _ (by show z + 6 ≠ z + 3; omega)⟩
theorem blk_other {W : World} {b g j T : Nat} {cs : Array Value} {v : Value} (h : Rg.Blk W b T cs) (hg : b ≠ g) : Rg.Blk (W.setCell ⟨g, j, none⟩ v) b T cs := by
  unfold Rg.Blk at *
  rw [heap_setCell_other W ⟨g, j, none⟩ _ _ hg]; exact h
theorem blk_drew {W : World} {b T : Nat} {cs : Array Value} (h : Rg.Blk W b T cs) : Rg.Blk W.drew b T cs := h
theorem zc0 : ZC.setIfInBounds 0 (.string ⟨#[]⟩) = ZC := rfl
theorem zc1 : ZC.setIfInBounds 1 (.slice none 0 0) = ZC := rfl
theorem zc2 : ZC.setIfInBounds 2 (.slice none 0 0) = ZC := rfl
theorem zc3 : ZC.setIfInBounds 3 (.string ⟨#[]⟩) = ZC := rfl
/-- an error is laid into the boxes of what is returned -/
theorem errw {w W : World} {ev : Value} (hr : Rg.Blk W w.heap.size 27 ZC) (he : Rg.Blk W (w.heap.size + 1) 29 #[.nilIface]) (hb : Below w.heap.size w W) :
    KeepsOthers W (((((W.setCell ⟨w.heap.size, 0, none⟩ (.string ⟨#[]⟩)).setCell ⟨w.heap.size, 1, none⟩ (.slice none 0 0)).setCell ⟨w.heap.size, 2, none⟩ (.slice none 0 0)).setCell ⟨w.heap.size, 3, none⟩ (.string ⟨#[]⟩)).setCell ⟨w.heap.size + 1, 0, none⟩ ev).drew ∧
    Rg.Blk (((((W.setCell ⟨w.heap.size, 0, none⟩ (.string ⟨#[]⟩)).setCell ⟨w.heap.size, 1, none⟩ (.slice none 0 0)).setCell ⟨w.heap.size, 2, none⟩ (.slice none 0 0)).setCell ⟨w.heap.size, 3, none⟩ (.string ⟨#[]⟩)).setCell ⟨w.heap.size + 1, 0, none⟩ ev).drew w.heap.size 27 ZC ∧
    Rg.Blk (((((W.setCell ⟨w.heap.size, 0, none⟩ (.string ⟨#[]⟩)).setCell ⟨w.heap.size, 1, none⟩ (.slice none 0 0)).setCell ⟨w.heap.size, 2, none⟩ (.slice none 0 0)).setCell ⟨w.heap.size, 3, none⟩ (.string ⟨#[]⟩)).setCell ⟨w.heap.size + 1, 0, none⟩ ev).drew (w.heap.size + 1) 29 #[ev] ∧
    Below w.heap.size w (((((W.setCell ⟨w.heap.size, 0, none⟩ (.string ⟨#[]⟩)).setCell ⟨w.heap.size, 1, none⟩ (.slice none 0 0)).setCell ⟨w.heap.size, 2, none⟩ (.slice none 0 0)).setCell ⟨w.heap.size, 3, none⟩ (.string ⟨#[]⟩)).setCell ⟨w.heap.size + 1, 0, none⟩ ev).drew := by
  refine ⟨(((((KeepsOthers.setCell _ _ _).trans (KeepsOthers.setCell _ _ _)).trans (KeepsOthers.setCell _ _ _)).trans (KeepsOthers.setCell _ _ _)).trans (KeepsOthers.setCell _ _ _)).trans (KeepsOthers.drew _), ?_, ?_, ?_⟩
  · have h1 := blk_set (j := 0) (v := .string ⟨#[]⟩) hr
    rw [zc0] at h1
    have h2 := blk_set (j := 1) (v := .slice none 0 0) h1
    rw [zc1] at h2
    have h3 := blk_set (j := 2) (v := .slice none 0 0) h2
    rw [zc2] at h3
    have h4 := blk_set (j := 3) (v := .string ⟨#[]⟩) h3
    rw [zc3] at h4
    exact blk_drew (blk_other (g := w.heap.size + 1) (j := 0) (v := ev) h4 (by omega))
  · have h1 := blk_other (g := w.heap.size) (j := 0) (v := .string ⟨#[]⟩) he (by omega)
    have h2 := blk_other (g := w.heap.size) (j := 1) (v := .slice none 0 0) h1 (by omega)
    have h3 := blk_other (g := w.heap.size) (j := 2) (v := .slice none 0 0) h2 (by omega)
    have h4 := blk_other (g := w.heap.size) (j := 3) (v := .string ⟨#[]⟩) h3 (by omega)
    have h5 := blk_set (j := 0) (v := ev) h4
    rw [show (#[Value.nilIface] : Array Value).setIfInBounds 0 ev = #[ev] from rfl] at h5
    exact blk_drew h5
  · exact Below.drew (((((hb.setCell (p := ⟨w.heap.size, 0, none⟩) (Nat.le_refl _) _).setCell (p := ⟨w.heap.size, 1, none⟩) (Nat.le_refl _) _).setCell (p := ⟨w.heap.size, 2, none⟩) (Nat.le_refl _) _).setCell (p := ⟨w.heap.size, 3, none⟩) (Nat.le_refl _) _).setCell (p := ⟨w.heap.size + 1, 0, none⟩) (by show w.heap.size ≤ w.heap.size + 1; omega) _)
theorem owns_mono {W : World} {B C : Nat} {E : TypeId} {v : Value} {xs : List Value} (h : Owns W B E v xs) (hC : C ≤ B) : Owns W C E v xs :=
  ⟨h.1, h.2.imp id (fun ⟨g, cap, cur, hv, hb, rest⟩ => ⟨g, cap, cur, hv, Nat.le_trans hC hb, rest⟩)⟩
/-- a command is laid into the boxes of what is returned -/
theorem okw {w W : World} {C : Nat} {c : Cm} {vN vK : Value} (hr : Rg.Blk W w.heap.size 27 ZC) (he : Rg.Blk W (w.heap.size + 1) 29 #[.nilIface]) (hb : Below w.heap.size w W)
    (hN : Owns W C 9 vN (c.names.map encS)) (hK : Owns W C 3 vK (c.nums.map (Value.int .i64))) (hC : w.heap.size + 2 ≤ C) :
    ∀ W4 : World, W4 = ((((W.setCell ⟨w.heap.size, 0, none⟩ (.string (strB c.word))).setCell ⟨w.heap.size, 1, none⟩ vN).setCell ⟨w.heap.size, 2, none⟩ vK).setCell ⟨w.heap.size, 3, none⟩ (.string (strB c.text))).setCell ⟨w.heap.size + 1, 0, none⟩ .nilIface →
      KeepsOthers W W4 ∧ Rg.Blk W4 w.heap.size 27 #[.string (strB c.word), vN, vK, .string (strB c.text)] ∧ Rg.Blk W4 (w.heap.size + 1) 29 #[.nilIface] ∧ Below w.heap.size w W4 ∧
      Owns W4 (w.heap.size + 2) 9 vN (c.names.map encS) ∧ Owns W4 (w.heap.size + 2) 3 vK (c.nums.map (Value.int .i64)) := by
  intro W4 hW4
  subst hW4
  have hN' := owns_mono hN hC
  have hK' := owns_mono hK hC
  refine ⟨((((KeepsOthers.setCell _ _ _).trans (KeepsOthers.setCell _ _ _)).trans (KeepsOthers.setCell _ _ _)).trans (KeepsOthers.setCell _ _ _)).trans (KeepsOthers.setCell _ _ _), ?_, ?_, ?_, ?_, ?_⟩
  · have h1 := blk_set (j := 0) (v := .string (strB c.word)) hr
    have h2 := blk_set (j := 1) (v := vN) h1
    have h3 := blk_set (j := 2) (v := vK) h2
    have h4 := blk_set (j := 3) (v := .string (strB c.text)) h3
    rw [show (((ZC.setIfInBounds 0 (.string (strB c.word))).setIfInBounds 1 vN).setIfInBounds 2 vK).setIfInBounds 3 (.string (strB c.text)) = #[.string (strB c.word), vN, vK, .string (strB c.text)] from rfl] at h4
    exact blk_other (g := w.heap.size + 1) (j := 0) (v := .nilIface) h4 (by omega)
  · have h1 := blk_other (g := w.heap.size) (j := 0) (v := .string (strB c.word)) he (by omega)
    have h2 := blk_other (g := w.heap.size) (j := 1) (v := vN) h1 (by omega)
    have h3 := blk_other (g := w.heap.size) (j := 2) (v := vK) h2 (by omega)
    have h4 := blk_other (g := w.heap.size) (j := 3) (v := .string (strB c.text)) h3 (by omega)
    have h5 := blk_set (j := 0) (v := .nilIface) h4
    rw [show (#[Value.nilIface] : Array Value).setIfInBounds 0 .nilIface = #[.nilIface] from rfl] at h5
    exact h5
  · exact ((((hb.setCell (p := ⟨w.heap.size, 0, none⟩) (Nat.le_refl _) _).setCell (p := ⟨w.heap.size, 1, none⟩) (Nat.le_refl _) _).setCell (p := ⟨w.heap.size, 2, none⟩) (Nat.le_refl _) _).setCell (p := ⟨w.heap.size, 3, none⟩) (Nat.le_refl _) _).setCell (p := ⟨w.heap.size + 1, 0, none⟩) (by show w.heap.size ≤ w.heap.size + 1; omega) _
  · exact owns_set (owns_set (owns_set (owns_set (owns_set hN' (by omega)) (by omega)) (by omega)) (by omega)) (by omega)
  · exact owns_set (owns_set (owns_set (owns_set (owns_set hK' (by omega)) (by omega)) (by omega)) (by omega)) (by omega)
end Go.Proofs.YtonjgfbefhefjaaDoor.Ln
