/- Regions whose order is drawn: a head whose operations have one value each in every world of a class, and a tail in one order. -/
import Derived.StillTail
import Derived.Deep.QuietTactic
import Derived.BigQuiet
import Derived.WalkKit
set_option linter.unusedVariables false
set_option linter.unusedSimpArgs false
namespace Go.Proofs.YtjfikbnfabdkoaaDoor.Rg
open Go.RowKit
section
variable {P : Program} {ops : Array Oper} {md : Region.Mode} {C : World → Prop}

/-- whatever order is picked, f operations long, all of them of the head; L behind them -/
def headQ (P : Program) (md : Region.Mode) (ops : Array Oper) (C : World → Prop) (n : Nat) (L : Array Bool → Act → Prop) : Nat → Array Bool → Act → Prop
  | 0, listed, a => L listed a
  | f + 1, listed, a => Region.ready md ops listed ≠ [] ∧ ∀ i ∈ Region.ready md ops listed, i < n ∧ qOp P ops C i (headQ P md ops C n L f (listed.setIfInBounds i true)) a

theorem any_of_headQ {n g : Nat} {L : Array Bool → Act → Prop} {Q' : Exit → Act → World → Prop}
    (hL : ∀ listed a w, C w → L listed a → wpAny P md ops Q' g listed a w) :
    ∀ (f : Nat) (listed : Array Bool) (a : Act) (w : World), C w → headQ P md ops C n L f listed a → wpAny P md ops Q' (f + g) listed a w
  | 0, listed, a, w, hw, h => by rw [Nat.zero_add]; exact hL _ _ _ hw h
  | f + 1, listed, a, w, hw, h => by
    rw [show f + 1 + g = (f + g) + 1 by omega]
    exact ⟨fun h0 => absurd h0 h.1, fun i hi => wpOp_of_qOp hw (fun a' w' hw' h' => any_of_headQ hL f _ a' w' hw' h') (h.2 i hi).2⟩

theorem headQ_first {n i : Nat} {oi : Oper} {v : Value} {L : Array Bool → Act → Prop} (hi : ops[i]? = some oi) (hsel : ∀ (j : Nat) (o : Oper) cs b, ops[j]? = some o → o.op ≠ .select cs b)
    (hs : Region.sinkB md ops n = true) (hc : Region.chainB md ops n = true) (hn : n < ops.size) (hin : i < n)
    (hdone : ∀ listed a, L listed a → ∀ j ∈ Region.ready md ops listed, n ≤ j) :
    ∀ (f : Nat) (listed : Array Bool) (a : Act), HeadInv md ops n listed →
      (∀ j oj, ops[j]? = some oj → j ≠ i → listed.getD j true = false → (∀ e ∈ oj.after, Region.binds md e = true → e.on ≠ i) → oi.apart ops oj = true) →
      i ∈ Region.ready md ops listed → YieldsIn P ops C oi v a →
      headQ P md ops C n L f (listed.setIfInBounds i true) (a.put oi.dst v) → headQ P md ops C n L (f + 1) listed a := by
  intro f
  induction f with
  | zero =>
    intro listed a inv _ hr hy H
    have hun := (mem_ready.1 hr).1
    refine ⟨fun h => (by rw [h] at hr; cases hr), fun j hj => ?_⟩
    have hjn : j < n := by
      rcases Nat.lt_or_ge j n with h | h
      · exact h
      · exact absurd hj (tail_waits hs hc hn inv _ i rfl hin hun j h)
    refine ⟨hjn, ?_⟩
    by_cases hji : j = i
    · subst hji; exact hy.qOp hi H
    · have := hdone _ _ H j (ready_mono hj hji)
      omega
  | succ f ih =>
    intro listed a inv hfree hr hy H
    have hun := (mem_ready.1 hr).1
    refine ⟨fun h => (by rw [h] at hr; cases hr), fun j hj => ?_⟩
    have hjn : j < n := by
      rcases Nat.lt_or_ge j n with h | h
      · exact h
      · exact absurd hj (tail_waits hs hc hn inv _ i rfl hin hun j h)
    refine ⟨hjn, ?_⟩
    by_cases hji : j = i
    · subst hji; exact hy.qOp hi H
    · have h1 := (H.2 j (ready_mono hj hji)).2
      obtain ⟨hjun, oj, hoj, hall⟩ := mem_ready.1 hj
      have hnot : ∀ e ∈ oj.after, Region.binds md e = true → e.on ≠ i := fun e he hb heq => by
        have h1 := hall e he hb
        rw [heq, getD_both hun] at h1
        cases h1
      have h2 := qOp_put hoj (hfree j oj hoj hji hjun hnot) (fun cs b => hsel i oi cs b hi) (fun cs b => hsel j oj cs b hoj) hy h1
      have hfree' : ∀ k ok, ops[k]? = some ok → k ≠ i → (listed.setIfInBounds j true).getD k true = false →
          (∀ e ∈ ok.after, Region.binds md e = true → e.on ≠ i) → oi.apart ops ok = true := fun k ok hk hki hun hno => by
        refine hfree k ok hk hki ?_ hno
        by_cases hjk : j = k
        · subst hjk; exact hjun
        · rw [getD_set_ne true hjk] at hun; exact hun
      refine qOp_mono (fun a' h3 => ih (listed.setIfInBounds j true) a' (inv.set hj hjn) hfree' (ready_mono hr (Ne.symm hji)) h3.1 ?_) h2
      rw [Array.setIfInBounds_comm _ _ hji]
      exact h3.2

theorem headQ_lex {n g : Nat} {Lq : Act → Prop} (hsel : Region.noSelect ops = true) (hs : Region.sinkB md ops n = true) (hc : Region.chainB md ops n = true) (hn : n < ops.size) :
    ∀ (l : List Oper) (k : Nat) (listed : Array Bool) (a : Act), (∀ j, j < l.length → l[j]? = ops[k + j]?) → k + l.length = n → HeadInv md ops n listed →
    Region.lexHead md ops g l.length k listed = true → wpQuiet P ops C Lq l a →
    headQ P md ops C n (fun listed' a' => Region.seqB md ops g n listed' = true ∧ Lq a') l.length listed a
  | [], k, listed, a, _, hk, _, hB, h => by
    have : k = n := by simpa using hk
    subst this
    exact ⟨by simpa [Region.lexHead] using hB, h⟩
  | o :: l, k, listed, a, hl, hk, inv, hB, h => by
    have h0 : ops[k]? = some o := by simpa using (hl 0 (by simp)).symm
    simp only [List.length_cons, Region.lexHead, Bool.and_eq_true] at hB
    obtain ⟨⟨hr, hf⟩, hB'⟩ := hB
    have hkn : k < n := by simp only [List.length_cons] at hk; omega
    have hr' : k ∈ Region.ready md ops listed := by simpa using hr
    have hst : qOp P ops C k (wpQuiet P ops C Lq l) a := by unfold qOp; simp only [h0]; exact h
    obtain ⟨v, hy, hK⟩ := yieldsIn_of_qOp h0 hst
    exact headQ_first h0 (Region.noSelect_spec hsel) hs hc hn hkn (fun listed' a' hL => seqB_ready hL.1) l.length listed a inv (Region.free_spec h0 hf) hr' hy
      (headQ_lex hsel hs hc hn l (k + 1) _ _ (fun j hj => by have := hl (j + 1) (by simp; omega); simpa [Nat.add_assoc, Nat.add_comm 1 j] using this) (by simp only [List.length_cons] at hk; omega) (inv.set hr' hkn) hB' hK)

theorem wp_region_class_tail {id : Nat} {Q : Exit → Act → World → Prop} {a : Act} {w : World} {l : List Oper} (n : Nat) (hm : P.follows .mixedOrders = true) (hB : Region.lexTailB .any l.toArray n = true)
    (hC : C { w with drawn := w.drawn + 1 })
    (h : wpQuiet P l.toArray C (fun a' => ∀ w', C w' → wpList P l.toArray Q (l.drop n) a' w') (l.take n) a) : (Code.region id l.toArray true).wp P Q a w := by
  simp only [Region.lexTailB, Bool.and_eq_true, decide_eq_true_eq] at hB
  obtain ⟨⟨⟨⟨hsel, hn⟩, hs⟩, hc⟩, hlex⟩ := hB
  have hn' : n < l.length := by simpa using hn
  have htl : (l.take n).length = n := by simp; omega
  have hdl : (l.drop n).length = l.toArray.size - n := by simp
  have inv0 : HeadInv .any l.toArray n (Array.replicate l.toArray.size false) :=
    ⟨by simp, fun j oj _ hl => (by rw [getD_replicate_false] at hl; cases hl), fun t _ ht => getD_in (by simpa using ht) (getD_replicate_false _ _)⟩
  have H := headQ_lex (md := .any) (g := l.toArray.size - n) hsel hs hc hn (l.take n) 0 _ a (fun j hj => by
    have hj' : j < n := by rw [htl] at hj; exact hj
    simp [hj']) (by simpa using htl) inv0 (by rw [htl]; exact hlex) h
  refine wp_region_any hm ?_
  have := any_of_headQ (Q' := Q) (g := l.toArray.size - n) (fun listed a' w' hw' hL => by
    have := wpAny_of_seq (md := .any) (Q' := Q) (l.drop n) n listed a' w' (fun j => by simp [List.getElem?_drop]) (by rw [hdl]; exact hL.1) (hL.2 w' hw')
    rwa [hdl] at this) _ _ _ _ hC H
  rw [htl, show n + (l.toArray.size - n) = l.toArray.size by omega] at this
  exact this
end

/-- a world in which nothing below B has changed -/
structure Later (B : Nat) (w0 : World) where
  val : World
  is : Below B w0 val

instance (B : Nat) (w : World) : Nonempty (Later B w) := ⟨⟨w, Below.refl B w⟩⟩

theorem Later.cell {B : Nat} {w0 : World} (s : Later B w0) (b o : Nat) (h : b < B) : s.val.cell? ⟨b, o, none⟩ = w0.cell? ⟨b, o, none⟩ := s.is.cell (p := ⟨b, o, none⟩) h
theorem Later.frozen {B : Nat} {w0 : World} (s : Later B w0) (b o : Nat) (h : b < B) : s.val.frozen? ⟨b, o, none⟩ = w0.frozen? ⟨b, o, none⟩ := s.is.frozen (p := ⟨b, o, none⟩) h

theorem Later.cellOf {B : Nat} {E W : World} (hW : E = W) (s : Later B W) (b o : Nat) (h : b < B) : s.val.cell? ⟨b, o, none⟩ = E.cell? ⟨b, o, none⟩ := by rw [hW]; exact s.cell b o h
theorem Later.frozenOf {B : Nat} {E W : World} (hW : E = W) (s : Later B W) (b o : Nat) (h : b < B) : s.val.frozen? ⟨b, o, none⟩ = E.frozen? ⟨b, o, none⟩ := by rw [hW]; exact s.frozen b o h

variable {P : Program}
theorem wp_region_later {id : Nat} {Q : Exit → Act → World → Prop} {a : Act} {w : World} {l : List Oper} (B n : Nat) (hm : P.follows .mixedOrders = true) (hB : Region.lexTailB .any l.toArray n = true)
    (h : wpQuiet P l.toArray (fun w' => ∃ s : Later B w, w' = s.val) (fun a' => ∀ w', (∃ s : Later B w, w' = s.val) → wpList P l.toArray Q (l.drop n) a' w') (l.take n) a) : (Code.region id l.toArray true).wp P Q a w :=
  wp_region_class_tail (C := fun w' => ∃ s : Later B w, w' = s.val) n hm hB ⟨⟨_, Below.drew (Below.refl B w)⟩, rfl⟩ h
theorem wp_region_later_all {id : Nat} {Q : Exit → Act → World → Prop} {a : Act} {w : World} {l : List Oper} (B : Nat) (hm : P.follows .mixedOrders = true) (hB : Region.lexB .any l.toArray = true)
    (h : wpQuiet P l.toArray (fun w' => ∃ s : Later B w, w' = s.val) (fun a' => ∀ w', (∃ s : Later B w, w' = s.val) → Q .normal a' w') l a) : (Code.region id l.toArray true).wp P Q a w :=
  wp_region_quiet (C := fun w' => ∃ s : Later B w, w' = s.val) hm hB ⟨⟨_, Below.drew (Below.refl B w)⟩, rfl⟩ (by simpa using h)

/-- the same from a later world on, the class told of the first world -/
theorem wp_region_from {id : Nat} {Q : Exit → Act → World → Prop} {a : Act} {B : Nat} {W : World} {s : Later B W} {l : List Oper} (n : Nat) (hm : P.follows .mixedOrders = true) (hB : Region.lexTailB .any l.toArray n = true)
    (h : wpQuiet P l.toArray (fun w' => ∃ s : Later B W, w' = s.val) (fun a' => ∀ w', (∃ s : Later B W, w' = s.val) → wpList P l.toArray Q (l.drop n) a' w') (l.take n) a) : (Code.region id l.toArray true).wp P Q a s.val :=
  wp_region_class_tail (C := fun w' => ∃ s : Later B W, w' = s.val) n hm hB ⟨⟨_, Below.drew s.is⟩, rfl⟩ h
theorem wp_region_from_all {id : Nat} {Q : Exit → Act → World → Prop} {a : Act} {B : Nat} {W : World} {s : Later B W} {l : List Oper} (hm : P.follows .mixedOrders = true) (hB : Region.lexB .any l.toArray = true)
    (h : wpQuiet P l.toArray (fun w' => ∃ s : Later B W, w' = s.val) (fun a' => ∀ w', (∃ s : Later B W, w' = s.val) → Q .normal a' w') l a) : (Code.region id l.toArray true).wp P Q a s.val :=
  wp_region_quiet (C := fun w' => ∃ s : Later B W, w' = s.val) hm hB ⟨⟨_, Below.drew s.is⟩, rfl⟩ (by simpa using h)

/-- a whole row (a struct, an array) loaded in a quiet walk: it stays one term -/
theorem quiet_load_row {o : Oper} {a : Act} {C : World → Prop} {K : Act → Prop} (ty : TypeId) (x : Operand) (ho : o.op = .load ty x)
    (g : Nat) (hx : a.eval x = .pointer (some ⟨g, 0, none⟩)) (t : TypeId) (cs : Array Value) (d : TypeDesc) (hg : ∀ w, C w → w.heap[g]? = some (.cells cs t (0, 0)))
    (hu : P.underlying ty = some d) (hd : (match d with | .struct _ | .array _ _ => true | _ => false) = true) (hi : (P.info? ty).map (·.size) = some cs.size)
    (hk : K (a.put o.dst (.agg cs))) : o.quiet P a C K := by
  refine ⟨_, fun w hw => ?_, hk⟩
  unfold Oper.quietAt execOp
  simp only [ho, hx, Instr.loadAt, Instr.sureAddr, Sem.run_bind, Sem.run_pure, Result.andThen_ok, run_loadVar_row w g t ty cs (0, 0) d (hg w hw) hu hd hi]
  exact ⟨rfl, rfl⟩

/-- block b is the row cs -/
def Blk (w : World) (b T : Nat) (cs : Array Value) : Prop := w.heap[b]? = some (.cells cs T (0, 0))
theorem Blk.later {B b T : Nat} {w0 : World} {cs : Array Value} (h : Blk w0 b T cs) (hb : b < B) : ∀ w, (∃ s : Later B w0, w = s.val) → w.heap[b]? = some (.cells cs T (0, 0)) := by
  rintro _ ⟨s, rfl⟩
  rw [s.is.block b hb]; exact h
theorem Blk.cellL {B b T : Nat} {w0 : World} {cs : Array Value} (h : Blk w0 b T cs) (hb : b < B) (j : Nat) {v : Value} (hv : cs[j]? = some v) (s : Later B w0) : s.val.cell? ⟨b, j, none⟩ = some v := by
  rw [s.cell b j hb, cell_of_row w0 b j _ _ _ h, hv]
theorem Blk.cell {b T : Nat} {w0 : World} {cs : Array Value} (h : Blk w0 b T cs) (j : Nat) {v : Value} (hv : cs[j]? = some v) : w0.cell? ⟨b, j, none⟩ = some v := by
  rw [cell_of_row w0 b j _ _ _ h, hv]
theorem Blk.frozen {b T : Nat} {w0 : World} {cs : Array Value} (h : Blk w0 b T cs) (j : Nat) : w0.frozen? ⟨b, j, none⟩ = false := frozen_of_row w0 b j _ _ h
theorem Blk.frozenL {B b T : Nat} {w0 : World} {cs : Array Value} (h : Blk w0 b T cs) (hb : b < B) (j : Nat) (s : Later B w0) : s.val.frozen? ⟨b, j, none⟩ = false := by
  rw [s.frozen b j hb]; exact h.frozen j
theorem Blk.new (w : World) (cs : Array Value) (T : Nat) : Blk (w.alloc (.cells cs T)) w.heap.size T cs := heap_alloc_new w _
theorem Blk.newAt {w : World} {b : Nat} (h : b = w.heap.size) (cs : Array Value) (T : Nat) : Blk (w.alloc (.cells cs T)) b T cs := h ▸ Blk.new w cs T
theorem Blk.alloc {w : World} {b T : Nat} {cs : Array Value} (h : Blk w b T cs) (o : Obj) : Blk (w.alloc o) b T cs := by
  unfold Blk at *
  rw [Below.heap_alloc w o b (Array.getElem?_eq_some_iff.1 h).1]; exact h
theorem Blk.below {w w' : World} {b T B : Nat} {cs : Array Value} (h : Blk w b T cs) (hb : Below B w w') (hB : b < B) : Blk w' b T cs := by
  unfold Blk at *
  rw [hb.block b hB]; exact h
theorem Blk.lt {w : World} {b T : Nat} {cs : Array Value} (h : Blk w b T cs) : b < w.heap.size := (Array.getElem?_eq_some_iff.1 h).1

theorem below_setRow {B : Nat} {a w : World} (h : Below B a w) {g : Nat} (hg : B ≤ g) (cs : Array Value) : Below B a (w.setRow g cs) :=
  h.trans ⟨rfl, rfl, rfl, by simp, fun k hk => setRow_other w g k cs (by omega)⟩

theorem Blk.setRow {w : World} {b T : Nat} {cs old : Array Value} (h : Blk w b T old) : Blk (w.setRow b cs) b T cs := setRow_heap w b old cs T (0, 0) h
theorem Blk.setRowOther {w : World} {b g T : Nat} {cs : Array Value} (h : Blk w b T cs) (hg : b ≠ g) (cs' : Array Value) : Blk (w.setRow g cs') b T cs := by
  unfold Blk at *; rw [setRow_other w g b cs' hg]; exact h

/-- a struct or an array stored whole into the block that was made for it: the world behind it has a name -/
theorem store_fresh {ops : Array Oper} {rest : List Oper} {o : Oper} {a : Act} {w : World} {Q : Exit → Act → World → Prop} (hgd : o.guard = none) (ty : TypeId) (x y : Operand) (ho : o.op = .store ty x y)
    (cs old : Array Value) (T : TypeId) (hx : a.eval x = .pointer (some ⟨w.heap.size, 0, none⟩)) (hy : a.eval y = .agg cs)
    (hi : (P.info? ty).map (·.size) = some cs.size) (hold : old.size = cs.size) (h1 : cs.all (·.oneCell') = true)
    (h : ∀ X, Blk X w.heap.size T cs → Below w.heap.size w X → wpList P ops Q rest (a.put o.dst undef) X) : wpList P ops Q (o :: rest) a (w.alloc (.cells old T)) :=
  wpList_store_row hgd ty x y ho w.heap.size cs hx hy T old (Blk.new w old T) hi hold h1
    (h _ (Blk.new w old T).setRow (below_setRow ((Below.refl _ _).alloc (Nat.le_refl _) _) (Nat.le_refl _) _))
/-- a struct or an array by value, put into a block of its own: the world behind it has a name -/
theorem box_fresh {ops : Array Oper} {rest : List Oper} {o : Oper} {a : Act} {w : World} {Q : Exit → Act → World → Prop} (hgd : o.guard = none) (T : TypeId) (x : Operand) (ho : o.op = .box T x)
    (cs : Array Value) (hx : a.eval x = .agg cs)
    (h : ∀ X, Blk X w.heap.size T cs → Below w.heap.size w X → X.heap.size = w.heap.size + 1 → wpList P ops Q rest (a.put o.dst (.pointer (some ⟨w.heap.size, 0, none⟩))) X) : wpList P ops Q (o :: rest) a w :=
  wpList_plain hgd fun _ hK => by
    have hx' := hx
    simp [go_sem] at hx'
    unfold Oper.wp execOp
    simp [ho, hx', go_sem]
    exact hK _ _ (h _ (Blk.new w cs T) ((Below.refl _ _).alloc (Nat.le_refl _) _) (by simp))

/-- a contract met in a later world -/
theorem later_of {B : Nat} {w0 : World} {s : Later B w0} {f : FuncId} {args : Array Value} {v : Value} (hB : B ≤ w0.heap.size)
    (h : Calls P f args s.val fun e w' => e = .returned v ∧ Below s.val.heap.size s.val w') : Calls P f args s.val fun e w'' => e = .returned v ∧ ∃ s' : Later B w0, w'' = s'.val :=
  h.mono fun _ _ ⟨he, hb⟩ => ⟨he, ⟨_, s.is.trans (hb.mono (Nat.le_trans hB s.is.size))⟩, rfl⟩
theorem later_same {B : Nat} {w0 : World} {s : Later B w0} {f : FuncId} {args : Array Value} {v : Value}
    (h : Calls P f args s.val fun e w' => e = .returned v ∧ s.val = w') : Calls P f args s.val fun e w'' => e = .returned v ∧ ∃ s' : Later B w0, w'' = s'.val :=
  h.mono fun _ _ ⟨he, hb⟩ => ⟨he, s, hb.symm⟩
end Go.Proofs.YtjfikbnfabdkoaaDoor.Rg
