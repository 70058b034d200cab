/- Regions whose order is drawn: a head whose operations have one value each in every world of a class, and a tail in one order. A block of words in memory. Bytes and strings: conversions, whole arrays of bytes. Slices of one-cell values: what they read as, what the call owns, append. Arguments opened; all arguments read behind the call as they did before. Arguments opened: slices whose elements have one cell each, whatever their kind; structs of five such fields. Regions whose order is drawn: any operation that has one value in every world of a class may be taken first, a call that makes memory too; the others are carried out in whatever later world. Regions whose order is drawn, with a tail in one order (a store into a cell that the region loads): as RegionL, the class of worlds holds till the tail begins. Memory in pieces: each piece stands in blocks of its own; what writes to one piece leaves the others alone. -/
import Derived.StillTail
import Derived.Deep.QuietTactic
import Derived.BigQuiet
import Derived.WalkKit
import Derived.Lib.ConvBytes
import Derived.Lib.UnsafeStr
import Derived.Laws.BytesArg
import Derived.Maps.AppendAt
import Derived.Deep.AppendLies
import Derived.Lib.Hide
import Derived.SliceStrings
import Derived.WideShapes
import Derived.OpenShut
import Derived.ChangeOld
import Derived.Carry
import Derived.Lib.SmallJoins
import Derived.OrdersHeld
import Derived.Below
set_option linter.unusedVariables false
set_option linter.unusedSimpArgs false
namespace Go.Proofs.YtfaeigbfnjkojaaGreatDoor.Rg
open Go.RowKit
section
variable {P : Program} {ops : Array Oper} {md : Region.Mode} {C : World → Prop}

/-- whatever order is picked, f operations long, all of them of the head; L behind them -/
def headQ (P : Program) (md : Region.Mode) (ops : Array Oper) (C : World → Prop) (n : Nat) (L : Array Bool → Act → Prop) : Nat → Array Bool → Act → Prop
  | 0, listed, a => L listed a
  | f + 1, listed, a => Region.ready md ops listed ≠ [] ∧ ∀ i ∈ Region.ready md ops listed, i < n ∧ qOp P ops C i (headQ P md ops C n L f (listed.setIfInBounds i true)) a

theorem any_of_headQ {n g : Nat} {L : Array Bool → Act → Prop} {Q' : Exit → Act → World → Prop}
    (hL : ∀ listed a w, C w → L listed a → wpAny P md ops Q' g listed a w) :
    ∀ (f : Nat) (listed : Array Bool) (a : Act) (w : World), C w → headQ P md ops C n L f listed a → wpAny P md ops Q' (f + g) listed a w
  | 0, listed, a, w, hw, h => by rw [Nat.zero_add]; exact hL _ _ _ hw h
  | f + 1, listed, a, w, hw, h => by
    rw [show f + 1 + g = (f + g) + 1 by omega]
    exact ⟨fun h0 => absurd h0 h.1, fun i hi => wpOp_of_qOp hw (fun a' w' hw' h' => any_of_headQ hL f _ a' w' hw' h') (h.2 i hi).2⟩

theorem headQ_first {n i : Nat} {oi : Oper} {v : Value} {L : Array Bool → Act → Prop} (hi : ops[i]? = some oi) (hsel : ∀ (j : Nat) (o : Oper) cs b, ops[j]? = some o → o.op ≠ .select cs b)
    (hs : Region.sinkB md ops n = true) (hc : Region.chainB md ops n = true) (hn : n < ops.size) (hin : i < n)
    (hdone : ∀ listed a, L listed a → ∀ j ∈ Region.ready md ops listed, n ≤ j) :
    ∀ (f : Nat) (listed : Array Bool) (a : Act), HeadInv md ops n listed →
      (∀ j oj, ops[j]? = some oj → j ≠ i → listed.getD j true = false → (∀ e ∈ oj.after, Region.binds md e = true → e.on ≠ i) → oi.apart ops oj = true) →
      i ∈ Region.ready md ops listed → YieldsIn P ops C oi v a →
      headQ P md ops C n L f (listed.setIfInBounds i true) (a.put oi.dst v) → headQ P md ops C n L (f + 1) listed a := by
  intro f
  induction f with
  | zero =>
    intro listed a inv _ hr hy H
    have hun := (mem_ready.1 hr).1
    refine ⟨fun h => (by rw [h] at hr; cases hr), fun j hj => ?_⟩
    have hjn : j < n := by
      rcases Nat.lt_or_ge j n with h | h
      · exact h
      · exact absurd hj (tail_waits hs hc hn inv _ i rfl hin hun j h)
    refine ⟨hjn, ?_⟩
    by_cases hji : j = i
    · subst hji; exact hy.qOp hi H
    · have := hdone _ _ H j (ready_mono hj hji)
      omega
  | succ f ih =>
    intro listed a inv hfree hr hy H
    have hun := (mem_ready.1 hr).1
    refine ⟨fun h => (by rw [h] at hr; cases hr), fun j hj => ?_⟩
    have hjn : j < n := by
      rcases Nat.lt_or_ge j n with h | h
      · exact h
      · exact absurd hj (tail_waits hs hc hn inv _ i rfl hin hun j h)
    refine ⟨hjn, ?_⟩
    by_cases hji : j = i
    · subst hji; exact hy.qOp hi H
    · have h1 := (H.2 j (ready_mono hj hji)).2
      obtain ⟨hjun, oj, hoj, hall⟩ := mem_ready.1 hj
      have hnot : ∀ e ∈ oj.after, Region.binds md e = true → e.on ≠ i := fun e he hb heq => by
        have h1 := hall e he hb
        rw [heq, getD_both hun] at h1
        cases h1
      have h2 := qOp_put hoj (hfree j oj hoj hji hjun hnot) (fun cs b => hsel i oi cs b hi) (fun cs b => hsel j oj cs b hoj) hy h1
      have hfree' : ∀ k ok, ops[k]? = some ok → k ≠ i → (listed.setIfInBounds j true).getD k true = false →
          (∀ e ∈ ok.after, Region.binds md e = true → e.on ≠ i) → oi.apart ops ok = true := fun k ok hk hki hun hno => by
        refine hfree k ok hk hki ?_ hno
        by_cases hjk : j = k
        · subst hjk; exact hjun
        · rw [getD_set_ne true hjk] at hun; exact hun
      refine qOp_mono (fun a' h3 => ih (listed.setIfInBounds j true) a' (inv.set hj hjn) hfree' (ready_mono hr (Ne.symm hji)) h3.1 ?_) h2
      rw [Array.setIfInBounds_comm _ _ hji]
      exact h3.2

theorem headQ_lex {n g : Nat} {Lq : Act → Prop} (hsel : Region.noSelect ops = true) (hs : Region.sinkB md ops n = true) (hc : Region.chainB md ops n = true) (hn : n < ops.size) :
    ∀ (l : List Oper) (k : Nat) (listed : Array Bool) (a : Act), (∀ j, j < l.length → l[j]? = ops[k + j]?) → k + l.length = n → HeadInv md ops n listed →
    Region.lexHead md ops g l.length k listed = true → wpQuiet P ops C Lq l a →
    headQ P md ops C n (fun listed' a' => Region.seqB md ops g n listed' = true ∧ Lq a') l.length listed a
  | [], k, listed, a, _, hk, _, hB, h => by
    have : k = n := by simpa using hk
    subst this
    exact ⟨by simpa [Region.lexHead] using hB, h⟩
  | o :: l, k, listed, a, hl, hk, inv, hB, h => by
    have h0 : ops[k]? = some o := by simpa using (hl 0 (by simp)).symm
    simp only [List.length_cons, Region.lexHead, Bool.and_eq_true] at hB
    obtain ⟨⟨hr, hf⟩, hB'⟩ := hB
    have hkn : k < n := by simp only [List.length_cons] at hk; omega
    have hr' : k ∈ Region.ready md ops listed := by simpa using hr
    have hst : qOp P ops C k (wpQuiet P ops C Lq l) a := by unfold qOp; simp only [h0]; exact h
    obtain ⟨v, hy, hK⟩ := yieldsIn_of_qOp h0 hst
    exact headQ_first h0 (Region.noSelect_spec hsel) hs hc hn hkn (fun listed' a' hL => seqB_ready hL.1) l.length listed a inv (Region.free_spec h0 hf) hr' hy
      (headQ_lex hsel hs hc hn l (k + 1) _ _ (fun j hj => by have := hl (j + 1) (by simp; omega); simpa [Nat.add_assoc, Nat.add_comm 1 j] using this) (by simp only [List.length_cons] at hk; omega) (inv.set hr' hkn) hB' hK)

theorem wp_region_class_tail {id : Nat} {Q : Exit → Act → World → Prop} {a : Act} {w : World} {l : List Oper} (n : Nat) (hm : P.follows .mixedOrders = true) (hB : Region.lexTailB .any l.toArray n = true)
    (hC : C { w with drawn := w.drawn + 1 })
    (h : wpQuiet P l.toArray C (fun a' => ∀ w', C w' → wpList P l.toArray Q (l.drop n) a' w') (l.take n) a) : (Code.region id l.toArray true).wp P Q a w := by
  simp only [Region.lexTailB, Bool.and_eq_true, decide_eq_true_eq] at hB
  obtain ⟨⟨⟨⟨hsel, hn⟩, hs⟩, hc⟩, hlex⟩ := hB
  have hn' : n < l.length := by simpa using hn
  have htl : (l.take n).length = n := by simp; omega
  have hdl : (l.drop n).length = l.toArray.size - n := by simp
  have inv0 : HeadInv .any l.toArray n (Array.replicate l.toArray.size false) :=
    ⟨by simp, fun j oj _ hl => (by rw [getD_replicate_false] at hl; cases hl), fun t _ ht => getD_in (by simpa using ht) (getD_replicate_false _ _)⟩
  have H := headQ_lex (md := .any) (g := l.toArray.size - n) hsel hs hc hn (l.take n) 0 _ a (fun j hj => by
    have hj' : j < n := by rw [htl] at hj; exact hj
    simp [hj']) (by simpa using htl) inv0 (by rw [htl]; exact hlex) h
  refine wp_region_any hm ?_
  have := any_of_headQ (Q' := Q) (g := l.toArray.size - n) (fun listed a' w' hw' hL => by
    have := wpAny_of_seq (md := .any) (Q' := Q) (l.drop n) n listed a' w' (fun j => by simp [List.getElem?_drop]) (by rw [hdl]; exact hL.1) (hL.2 w' hw')
    rwa [hdl] at this) _ _ _ _ hC H
  rw [htl, show n + (l.toArray.size - n) = l.toArray.size by omega] at this
  exact this
end

/-- a world in which nothing below B has changed -/
structure Later (B : Nat) (w0 : World) where
  val : World
  is : Below B w0 val

instance (B : Nat) (w : World) : Nonempty (Later B w) := ⟨⟨w, Below.refl B w⟩⟩

theorem Later.cell {B : Nat} {w0 : World} (s : Later B w0) (b o : Nat) (h : b < B) : s.val.cell? ⟨b, o, none⟩ = w0.cell? ⟨b, o, none⟩ := s.is.cell (p := ⟨b, o, none⟩) h
theorem Later.frozen {B : Nat} {w0 : World} (s : Later B w0) (b o : Nat) (h : b < B) : s.val.frozen? ⟨b, o, none⟩ = w0.frozen? ⟨b, o, none⟩ := s.is.frozen (p := ⟨b, o, none⟩) h

theorem Later.cellOf {B : Nat} {E W : World} (hW : E = W) (s : Later B W) (b o : Nat) (h : b < B) : s.val.cell? ⟨b, o, none⟩ = E.cell? ⟨b, o, none⟩ := by rw [hW]; exact s.cell b o h
theorem Later.frozenOf {B : Nat} {E W : World} (hW : E = W) (s : Later B W) (b o : Nat) (h : b < B) : s.val.frozen? ⟨b, o, none⟩ = E.frozen? ⟨b, o, none⟩ := by rw [hW]; exact s.frozen b o h

variable {P : Program}
theorem wp_region_later {id : Nat} {Q : Exit → Act → World → Prop} {a : Act} {w : World} {l : List Oper} (B n : Nat) (hm : P.follows .mixedOrders = true) (hB : Region.lexTailB .any l.toArray n = true)
    (h : wpQuiet P l.toArray (fun w' => ∃ s : Later B w, w' = s.val) (fun a' => ∀ w', (∃ s : Later B w, w' = s.val) → wpList P l.toArray Q (l.drop n) a' w') (l.take n) a) : (Code.region id l.toArray true).wp P Q a w :=
  wp_region_class_tail (C := fun w' => ∃ s : Later B w, w' = s.val) n hm hB ⟨⟨_, Below.drew (Below.refl B w)⟩, rfl⟩ h
theorem wp_region_later_all {id : Nat} {Q : Exit → Act → World → Prop} {a : Act} {w : World} {l : List Oper} (B : Nat) (hm : P.follows .mixedOrders = true) (hB : Region.lexB .any l.toArray = true)
    (h : wpQuiet P l.toArray (fun w' => ∃ s : Later B w, w' = s.val) (fun a' => ∀ w', (∃ s : Later B w, w' = s.val) → Q .normal a' w') l a) : (Code.region id l.toArray true).wp P Q a w :=
  wp_region_quiet (C := fun w' => ∃ s : Later B w, w' = s.val) hm hB ⟨⟨_, Below.drew (Below.refl B w)⟩, rfl⟩ (by simpa using h)

/-- the same from a later world on, the class told of the first world -/
theorem wp_region_from {id : Nat} {Q : Exit → Act → World → Prop} {a : Act} {B : Nat} {W : World} {s : Later B W} {l : List Oper} (n : Nat) (hm : P.follows .mixedOrders = true) (hB : Region.lexTailB .any l.toArray n = true)
    (h : wpQuiet P l.toArray (fun w' => ∃ s : Later B W, w' = s.val) (fun a' => ∀ w', (∃ s : Later B W, w' = s.val) → wpList P l.toArray Q (l.drop n) a' w') (l.take n) a) : (Code.region id l.toArray true).wp P Q a s.val :=
  wp_region_class_tail (C := fun w' => ∃ s : Later B W, w' = s.val) n hm hB ⟨⟨_, Below.drew s.is⟩, rfl⟩ h
theorem wp_region_from_all {id : Nat} {Q : Exit → Act → World → Prop} {a : Act} {B : Nat} {W : World} {s : Later B W} {l : List Oper} (hm : P.follows .mixedOrders = true) (hB : Region.lexB .any l.toArray = true)
    (h : wpQuiet P l.toArray (fun w' => ∃ s : Later B W, w' = s.val) (fun a' => ∀ w', (∃ s : Later B W, w' = s.val) → Q .normal a' w') l a) : (Code.region id l.toArray true).wp P Q a s.val :=
  wp_region_quiet (C := fun w' => ∃ s : Later B W, w' = s.val) hm hB ⟨⟨_, Below.drew s.is⟩, rfl⟩ (by simpa using h)

/-- a whole row (a struct, an array) loaded in a quiet walk: it stays one term -/
theorem quiet_load_row {o : Oper} {a : Act} {C : World → Prop} {K : Act → Prop} (ty : TypeId) (x : Operand) (ho : o.op = .load ty x)
    (g : Nat) (hx : a.eval x = .pointer (some ⟨g, 0, none⟩)) (t : TypeId) (cs : Array Value) (d : TypeDesc) (hg : ∀ w, C w → w.heap[g]? = some (.cells cs t (0, 0)))
    (hu : P.underlying ty = some d) (hd : (match d with | .struct _ | .array _ _ => true | _ => false) = true) (hi : (P.info? ty).map (·.size) = some cs.size)
    (hk : K (a.put o.dst (.agg cs))) : o.quiet P a C K := by
  refine ⟨_, fun w hw => ?_, hk⟩
  unfold Oper.quietAt execOp
  simp only [ho, hx, Instr.loadAt, Instr.sureAddr, Sem.run_bind, Sem.run_pure, Result.andThen_ok, run_loadVar_row w g t ty cs (0, 0) d (hg w hw) hu hd hi]
  exact ⟨rfl, rfl⟩

/-- block b is the row cs -/
def Blk (w : World) (b T : Nat) (cs : Array Value) : Prop := w.heap[b]? = some (.cells cs T (0, 0))
theorem Blk.later {B b T : Nat} {w0 : World} {cs : Array Value} (h : Blk w0 b T cs) (hb : b < B) : ∀ w, (∃ s : Later B w0, w = s.val) → w.heap[b]? = some (.cells cs T (0, 0)) := by
  rintro _ ⟨s, rfl⟩
  rw [s.is.block b hb]; exact h
theorem Blk.cellL {B b T : Nat} {w0 : World} {cs : Array Value} (h : Blk w0 b T cs) (hb : b < B) (j : Nat) {v : Value} (hv : cs[j]? = some v) (s : Later B w0) : s.val.cell? ⟨b, j, none⟩ = some v := by
  rw [s.cell b j hb, cell_of_row w0 b j _ _ _ h, hv]
theorem Blk.cell {b T : Nat} {w0 : World} {cs : Array Value} (h : Blk w0 b T cs) (j : Nat) {v : Value} (hv : cs[j]? = some v) : w0.cell? ⟨b, j, none⟩ = some v := by
  rw [cell_of_row w0 b j _ _ _ h, hv]
theorem Blk.frozen {b T : Nat} {w0 : World} {cs : Array Value} (h : Blk w0 b T cs) (j : Nat) : w0.frozen? ⟨b, j, none⟩ = false := frozen_of_row w0 b j _ _ h
theorem Blk.frozenL {B b T : Nat} {w0 : World} {cs : Array Value} (h : Blk w0 b T cs) (hb : b < B) (j : Nat) (s : Later B w0) : s.val.frozen? ⟨b, j, none⟩ = false := by
  rw [s.frozen b j hb]; exact h.frozen j
theorem Blk.new (w : World) (cs : Array Value) (T : Nat) : Blk (w.alloc (.cells cs T)) w.heap.size T cs := heap_alloc_new w _
theorem Blk.newAt {w : World} {b : Nat} (h : b = w.heap.size) (cs : Array Value) (T : Nat) : Blk (w.alloc (.cells cs T)) b T cs := h ▸ Blk.new w cs T
theorem Blk.alloc {w : World} {b T : Nat} {cs : Array Value} (h : Blk w b T cs) (o : Obj) : Blk (w.alloc o) b T cs := by
  unfold Blk at *
  rw [Below.heap_alloc w o b (Array.getElem?_eq_some_iff.1 h).1]; exact h
theorem Blk.below {w w' : World} {b T B : Nat} {cs : Array Value} (h : Blk w b T cs) (hb : Below B w w') (hB : b < B) : Blk w' b T cs := by
  unfold Blk at *
  rw [hb.block b hB]; exact h
theorem Blk.lt {w : World} {b T : Nat} {cs : Array Value} (h : Blk w b T cs) : b < w.heap.size := (Array.getElem?_eq_some_iff.1 h).1

theorem below_setRow {B : Nat} {a w : World} (h : Below B a w) {g : Nat} (hg : B ≤ g) (cs : Array Value) : Below B a (w.setRow g cs) :=
  h.trans ⟨rfl, rfl, rfl, by simp, fun k hk => setRow_other w g k cs (by omega)⟩

theorem Blk.setRow {w : World} {b T : Nat} {cs old : Array Value} (h : Blk w b T old) : Blk (w.setRow b cs) b T cs := setRow_heap w b old cs T (0, 0) h
theorem Blk.setRowOther {w : World} {b g T : Nat} {cs : Array Value} (h : Blk w b T cs) (hg : b ≠ g) (cs' : Array Value) : Blk (w.setRow g cs') b T cs := by
  unfold Blk at *; rw [setRow_other w g b cs' hg]; exact h

/-- a struct or an array stored whole into the block that was made for it: the world behind it has a name -/
theorem store_fresh {ops : Array Oper} {rest : List Oper} {o : Oper} {a : Act} {w : World} {Q : Exit → Act → World → Prop} (hgd : o.guard = none) (ty : TypeId) (x y : Operand) (ho : o.op = .store ty x y)
    (cs old : Array Value) (T : TypeId) (hx : a.eval x = .pointer (some ⟨w.heap.size, 0, none⟩)) (hy : a.eval y = .agg cs)
    (hi : (P.info? ty).map (·.size) = some cs.size) (hold : old.size = cs.size) (h1 : cs.all (·.oneCell') = true)
    (h : ∀ X, Blk X w.heap.size T cs → Below w.heap.size w X → wpList P ops Q rest (a.put o.dst undef) X) : wpList P ops Q (o :: rest) a (w.alloc (.cells old T)) :=
  wpList_store_row hgd ty x y ho w.heap.size cs hx hy T old (Blk.new w old T) hi hold h1
    (h _ (Blk.new w old T).setRow (below_setRow ((Below.refl _ _).alloc (Nat.le_refl _) _) (Nat.le_refl _) _))
/-- a struct or an array by value, put into a block of its own: the world behind it has a name -/
theorem box_fresh {ops : Array Oper} {rest : List Oper} {o : Oper} {a : Act} {w : World} {Q : Exit → Act → World → Prop} (hgd : o.guard = none) (T : TypeId) (x : Operand) (ho : o.op = .box T x)
    (cs : Array Value) (hx : a.eval x = .agg cs)
    (h : ∀ X, Blk X w.heap.size T cs → Below w.heap.size w X → X.heap.size = w.heap.size + 1 → wpList P ops Q rest (a.put o.dst (.pointer (some ⟨w.heap.size, 0, none⟩))) X) : wpList P ops Q (o :: rest) a w :=
  wpList_plain hgd fun _ hK => by
    have hx' := hx
    simp [go_sem] at hx'
    unfold Oper.wp execOp
    simp [ho, hx', go_sem]
    exact hK _ _ (h _ (Blk.new w cs T) ((Below.refl _ _).alloc (Nat.le_refl _) _) (by simp))

/-- a contract met in a later world -/
theorem later_of {B : Nat} {w0 : World} {s : Later B w0} {f : FuncId} {args : Array Value} {v : Value} (hB : B ≤ w0.heap.size)
    (h : Calls P f args s.val fun e w' => e = .returned v ∧ Below s.val.heap.size s.val w') : Calls P f args s.val fun e w'' => e = .returned v ∧ ∃ s' : Later B w0, w'' = s'.val :=
  h.mono fun _ _ ⟨he, hb⟩ => ⟨he, ⟨_, s.is.trans (hb.mono (Nat.le_trans hB s.is.size))⟩, rfl⟩
theorem later_same {B : Nat} {w0 : World} {s : Later B w0} {f : FuncId} {args : Array Value} {v : Value}
    (h : Calls P f args s.val fun e w' => e = .returned v ∧ s.val = w') : Calls P f args s.val fun e w'' => e = .returned v ∧ ∃ s' : Later B w0, w'' = s'.val :=
  h.mono fun _ _ ⟨he, hb⟩ => ⟨he, s, hb.symm⟩
end Go.Proofs.YtfaeigbfnjkojaaGreatDoor.Rg
namespace Go.Proofs.YtfaeigbfnjkojaaGreatDoor.Cl
open Go.RowKit
/-- the i-th number, 0 beyond the end: under a name that simp does not open -/
def nth (l : List Nat) (i : Nat) : Nat := l.getD i 0
theorem nth_getD (l : List Nat) (i : Nat) : nth l i = l.getD i 0 := rfl
def u64s (xs : List Nat) : Array Value := (xs.map fun (x : Nat) => Value.int .u64 (x : Int)).toArray
theorem u64s_one (xs : List Nat) : (u64s xs).all (·.oneCell') = true := by
  simp [u64s, Value.oneCell']
/-- block b holds the words xs -/
def Row (w : World) (b T : Nat) (xs : List Nat) : Prop := w.heap[b]? = some (.cells (u64s xs) T (0, 0))
theorem Row.cell {w : World} {b T : Nat} {xs : List Nat} (h : Row w b T xs) (j : Nat) (hj : j < xs.length) : w.cell? ⟨b, j, none⟩ = some (.int .u64 (nth xs j : Nat)) := by
  rw [cell_of_row w b j _ _ _ h]
  simp [u64s, nth, List.getElem?_eq_getElem hj]
theorem Row.frozen {w : World} {b T : Nat} {xs : List Nat} (h : Row w b T xs) (j : Nat) : w.frozen? ⟨b, j, none⟩ = false := frozen_of_row w b j _ _ h
theorem Row.store {w : World} {b T : Nat} {xs : List Nat} (h : Row w b T xs) (j v : Nat) : Row (w.setCell ⟨b, j, none⟩ (.int .u64 (v : Int))) b T (xs.set j v) := by
  unfold Row at *
  rw [heap_setCell_same w b j _ _ _ h]
  simp [u64s, nth, List.map_set]
theorem Row.storeI {w : World} {b T : Nat} {xs : List Nat} (h : Row w b T xs) (j v : Nat) {z : Int} (hz : z = v) : Row (w.setCell ⟨b, j, none⟩ (.int .u64 z)) b T (xs.set j v) := hz ▸ h.store j v
theorem Row.below {w w' : World} {b T B : Nat} {xs : List Nat} (h : Row w b T xs) (hb : Below B w w') (hB : b < B) : Row w' b T xs := by
  unfold Row at *
  rw [hb.block b hB]; exact h
theorem Row.lt {w : World} {b T : Nat} {xs : List Nat} (h : Row w b T xs) : b < w.heap.size := (Array.getElem?_eq_some_iff.1 h).1
theorem grown_setCell (w : World) (b j : Nat) (v : Value) : w.grownBy (w.setCell ⟨b, j, none⟩ v) (some b) :=
  ⟨rfl, rfl, rfl, by simp [World.setCell], fun k _ hk => heap_setCell_other w ⟨b, j, none⟩ k v (fun e => hk (congrArg some e))⟩
/-- a word stored into a block of words: the world behind it has a name -/
theorem store_cell {P : Program} {ops : Array Oper} {rest : List Oper} {o : Oper} {a : Act} {w : World} {Q : Exit → Act → World → Prop} (hgd : o.guard = none) (ty : TypeId) (x y : Operand) (ho : o.op = .store ty x y)
    {b j T v : Nat} {xs : List Nat} (hx : a.eval x = .pointer (some ⟨b, j, none⟩)) (hy : a.eval y = .int .u64 (v : Int)) (hu : P.underlying ty = some (.int .u64)) (hi : (P.info? ty).map (·.size) = some 1) (hR : Row w b T xs) (hj : j < xs.length)
    (h : ∀ w', Row w' b T (xs.set j v) → w.grownBy w' (some b) → wpList P ops Q rest (a.put o.dst undef) w') : wpList P ops Q (o :: rest) a w :=
  wpList_plain hgd fun _ hK => by
    have hx' := hx
    have hy' := hy
    have hc := hR.cell j hj
    have hf := hR.frozen j
    simp [go_sem] at hx' hy'
    unfold Oper.wp execOp
    cases hq : P.info? ty with
    | none => simp [hq] at hi
    | some i =>
    have hs : i.size = 1 := by simpa [hq] using hi
    simp [ho, hx', hy', go_sem, hc, hf, hu, sizeOf, typeInfo, hq, hs]
    have := hK _ _ (h _ (hR.store j v) (grown_setCell w b j _))
    simpa [go_sem] using this
end Go.Proofs.YtfaeigbfnjkojaaGreatDoor.Cl
namespace Go.Proofs.YtfaeigbfnjkojaaGreatDoor.Cv
open Go.RowKit
variable {P : Program}
/-- bytes as cells -/
@[irreducible] def bytesV (l : List UInt8) : Array Value := (Lib.byteCells l).toArray
theorem bytesV_size (l : List UInt8) : (bytesV l).size = l.length := by unfold bytesV; simp [Lib.byteCells]
theorem bytesV_get (l : List UInt8) (j : Nat) (b : UInt8) (h : l[j]? = some b) : (bytesV l)[j]? = some (.int .u8 b.toNat) := by
  unfold bytesV; simp [Lib.byteCells, h]
theorem bytesV_one (l : List UInt8) : (bytesV l).all (·.oneCell') = true := by unfold bytesV; simp [Lib.byteCells, Value.oneCell']
/-- at block b, from off on, the bytes l -/
def Bytes (w : World) (b off : Nat) (l : List UInt8) : Prop := ∀ j x, l[j]? = some x → w.cell? ⟨b, off + j, none⟩ = some (.int .u8 x.toNat)
theorem Bytes.of_blk {w : World} {b T : Nat} {l : List UInt8} (h : Rg.Blk w b T (bytesV l)) : Bytes w b 0 l := fun j x hx => by
  rw [Nat.zero_add]; exact h.cell j (bytesV_get l j x hx)
theorem Bytes.below {w w' : World} {b off B : Nat} {l : List UInt8} (h : Bytes w b off l) (hb : Below B w w') (hB : b < B) : Bytes w' b off l := fun j x hx =>
  (hb.cell (p := ⟨b, off + j, none⟩) hB).trans (h j x hx)
theorem bytesWorld_below (w : World) (e : TypeId) (s : ByteArray) : Below w.heap.size w (Lib.bytesWorld w e s) := by
  refine ⟨?_, ?_, ?_, by rw [Lib.bytesWorld_size]; omega, fun k hk => Lib.bytesWorld_at_old w e s k hk⟩ <;>
    · unfold Lib.bytesWorld World.freeze; split <;> rfl
/-- []byte(s): the world behind it has a name -/
theorem conv_bytes {ops : Array Oper} {rest : List Oper} {o : Oper} {a : Act} {w : World} {Q : Exit → Act → World → Prop} (hgd : o.guard = none) (src dst e : TypeId) (x : Operand) (ho : o.op = .convert src dst x)
    {s : ByteArray} (hx : a.eval x = .string s) {u : TypeDesc} (hs : P.underlying src = some u) (hd : P.underlying dst = some (.slice e)) (he : P.underlying e = some (.int .u8))
    (h : ∀ X cap, Bytes X w.heap.size 0 s.data.toList → (∀ j, j < s.size → X.frozen? ⟨w.heap.size, j, none⟩ = false) → Below w.heap.size w X → X.heap.size = w.heap.size + 1 → s.size ≤ cap →
      wpList P ops Q rest (a.put o.dst (.slice (some ⟨w.heap.size, 0, none⟩) s.size cap)) X) : wpList P ops Q (o :: rest) a w :=
  wpList_plain hgd fun _ hK => by
    unfold Oper.wp execOp
    simp only [ho, hx, Sem.run_bind, Lib.run_convert_string_bytes w src dst e s hs hd he, Result.andThen_ok, Sem.run_pure]
    have hcap : s.size ≤ grownCap w s.size 0 e := by unfold grownCap; simp [Question.cut]
    refine hK _ _ (h (Lib.bytesWorld w e s) _ ?_ ?_ (bytesWorld_below w e s) (Lib.bytesWorld_size w e s) hcap)
    · intro j b hb
      have hj : j < s.data.toList.length := (List.getElem?_eq_some_iff.1 hb).1
      rw [Nat.zero_add, Lib.bytesWorld_cell w e s j (by simpa using hj), List.getD_eq_getElem?_getD, hb]; rfl
    · intro j hj
      have hb := Lib.bytesWorld_at_new w e s
      have hsz : s.size ≤ (Lib.bytesCells w e s).size := by unfold Lib.bytesCells; rw [Array.size_append, Array.size_map]; show s.data.size ≤ _; omega
      simp [World.frozen?, hb]
      omega
/-- an array loaded whole, its cells known one by one -/
theorem run_loadVar_cells (w : World) (b off : Nat) (ty : TypeId) (cs : Array Value) (d : TypeDesc) (hc : ∀ j v, cs[j]? = some v → w.cell? ⟨b, off + j, none⟩ = some v)
    (hu : P.underlying ty = some d) (hd : (match d with | .struct _ | .array _ _ => true | _ => false) = true) (hi : (P.info? ty).map (·.size) = some cs.size) :
    (loadVar ty ⟨b, off, none⟩).run P w = .ok (.agg cs) w := by
  have hl : (loadCells ⟨b, off, none⟩ cs.toList.length).run P w = .ok cs.toList.toArray w :=
    run_loadCells_list (P := P) w ⟨b, off, none⟩ cs.toList (fun j v hv => by
      have hadd : (⟨b, off, none⟩ : Addr).add j = ⟨b, off + j, none⟩ := by unfold Addr.add; split <;> simp_all
      rw [hadd]; exact hc j v (by simpa using hv))
  cases hq : P.info? ty with
  | none => simp [hq] at hi
  | some i =>
    have hs : i.size = cs.size := by simpa [hq] using hi
    have hagg : (isAgg ty).run P w = .ok true w := by
      unfold isAgg
      rw [Sem.run_bind, run_underlying hu w]
      cases d <;> simp_all
    simp only [Array.length_toList, Array.toArray_toList] at hl
    simp [loadVar, Sem.run_bind, hagg, sizeOf, typeInfo, hq, hs, hl]
theorem load_cells {ops : Array Oper} {rest : List Oper} {o : Oper} {a : Act} {w : World} {Q : Exit → Act → World → Prop} (hgd : o.guard = none) (ty : TypeId) (x : Operand) (ho : o.op = .load ty x)
    (b off : Nat) (hx : a.eval x = .pointer (some ⟨b, off, none⟩)) (cs : Array Value) (d : TypeDesc) (hc : ∀ j v, cs[j]? = some v → w.cell? ⟨b, off + j, none⟩ = some v)
    (hu : P.underlying ty = some d) (hd : (match d with | .struct _ | .array _ _ => true | _ => false) = true) (hi : (P.info? ty).map (·.size) = some cs.size)
    (h : wpList P ops Q rest (a.put o.dst (.agg cs)) w) : wpList P ops Q (o :: rest) a w :=
  wpList_plain hgd fun _ hK => by
    unfold Oper.wp execOp
    simp only [ho, hx, Instr.loadAt, Instr.sureAddr, Sem.run_bind, Sem.run_pure, Result.andThen_ok, run_loadVar_cells w b off ty cs d hc hu hd hi]
    exact hK _ _ h
theorem Bytes.cells {w : World} {b off : Nat} {l : List UInt8} (h : Bytes w b off l) : ∀ j v, (bytesV l)[j]? = some v → w.cell? ⟨b, off + j, none⟩ = some v := by
  intro j v hv
  unfold bytesV Lib.byteCells at hv
  simp only [List.getElem?_toArray, List.getElem?_map, Option.map_eq_some_iff] at hv
  obtain ⟨x, hx, rfl⟩ := hv
  exact h j x hx
/-- an array stored whole into a block that lies there: the world behind it has a name -/
theorem store_blk {ops : Array Oper} {rest : List Oper} {o : Oper} {a : Act} {w : World} {Q : Exit → Act → World → Prop} (hgd : o.guard = none) (ty : TypeId) (x y : Operand) (ho : o.op = .store ty x y)
    (b : Nat) (cs old : Array Value) (T : TypeId) (hx : a.eval x = .pointer (some ⟨b, 0, none⟩)) (hy : a.eval y = .agg cs) (hB : Rg.Blk w b T old)
    (hi : (P.info? ty).map (·.size) = some cs.size) (hold : old.size = cs.size) (h1 : cs.all (·.oneCell') = true)
    (h : ∀ X, Rg.Blk X b T cs → w.grownBy X (some b) → wpList P ops Q rest (a.put o.dst undef) X) : wpList P ops Q (o :: rest) a w :=
  wpList_store_row hgd ty x y ho b cs hx hy T old hB hi hold h1
    (h _ hB.setRow ⟨rfl, rfl, rfl, by simp, fun k _ hk => setRow_other w b k cs (fun e => hk (congrArg some e))⟩)
/-- [n]T(s): the array's address is the slice's -/
theorem slice_to_array {ops : Array Oper} {rest : List Oper} {o : Oper} {a : Act} {w : World} {Q : Exit → Act → World → Prop} (hgd : o.guard = none) (arr e : TypeId) (n : Nat) (x : Operand) (ho : o.op = .sliceToArrayPointer arr x)
    (b off len cap : Nat) (hx : a.eval x = .slice (some ⟨b, off, none⟩) len cap) (hu : P.underlying arr = some (.array n e)) (hl : n ≤ len)
    (h : wpList P ops Q rest (a.put o.dst (.pointer (some ⟨b, off, none⟩))) w) : wpList P ops Q (o :: rest) a w :=
  wpList_plain hgd fun _ hK => by
    unfold Oper.wp execOp
    simp only [ho, hx]
    unfold Instr.arrayAt
    simp only [Sem.run_bind, run_underlying hu w, Result.andThen_ok, if_neg (show ¬ len < n by omega), Sem.run_pure]
    exact hK _ _ h
/-- string(b) -/
theorem run_string_bytes (w : World) (src e dst : TypeId) (hs : P.underlying src = some (.slice e)) (he : P.underlying e = some (.int .u8)) (hd : P.underlying dst = some .string)
    (b off cap : Nat) (l : List UInt8) (h : Bytes w b off l) : (convert src dst (.slice (some ⟨b, off, none⟩) l.length cap)).run P w = .ok (.string ⟨l.toArray⟩) w := by
  have := run_convert_bytes_arg (P := P) (w := w) src e hs he b off l.length cap (l.map fun x => (x.toNat : Int)) (by simp) (fun i hi => by
    rw [h i l[i] (List.getElem?_eq_getElem hi)]; simp [hi]) dst hd
  rw [this]
  congr 2
  simp only [strOfNums, List.map_map]
  congr 1
  have : ((fun n : Int => UInt8.ofNat n.toNat) ∘ fun x : UInt8 => (x.toNat : Int)) = id := by funext x; simp
  rw [this, List.map_id]
theorem run_string_len (w : World) (src e dst : TypeId) (hs : P.underlying src = some (.slice e)) (he : P.underlying e = some (.int .u8)) (hd : P.underlying dst = some .string)
    (b off len cap : Nat) (l : List UInt8) (hl : l.length = len) (h : Bytes w b off l) : (convert src dst (.slice (some ⟨b, off, none⟩) len cap)).run P w = .ok (.string ⟨l.toArray⟩) w :=
  hl ▸ run_string_bytes w src e dst hs he hd b off cap l h
theorem conv_string {ops : Array Oper} {rest : List Oper} {o : Oper} {a : Act} {w : World} {Q : Exit → Act → World → Prop} (hgd : o.guard = none) (src e dst : TypeId) (x : Operand) (ho : o.op = .convert src dst x)
    (hs : P.underlying src = some (.slice e)) (he : P.underlying e = some (.int .u8)) (hd : P.underlying dst = some .string) (b off len cap : Nat) (l : List UInt8)
    (hx : a.eval x = .slice (some ⟨b, off, none⟩) len cap) (hl : l.length = len) (hB : Bytes w b off l)
    (h : wpList P ops Q rest (a.put o.dst (.string ⟨l.toArray⟩)) w) : wpList P ops Q (o :: rest) a w :=
  wpList_plain hgd fun _ hK => by
    subst hl
    unfold Oper.wp execOp
    simp only [ho, hx, Sem.run_bind, run_string_bytes w src e dst hs he hd b off cap l hB, Result.andThen_ok, Sem.run_pure]
    exact hK _ _ h
theorem one_byte (w : World) (T : TypeId) (v : Int) (b : UInt8) (hv : v = b.toNat) : Bytes (w.alloc (.cells #[.int .u8 v] T)) w.heap.size 0 [b] := by
  intro j x hj
  match j, hj with
  | 0, hj =>
    simp at hj
    subst hj hv
    exact (Rg.Blk.new w _ _).cell 0 rfl
end Go.Proofs.YtfaeigbfnjkojaaGreatDoor.Cv
namespace Go.Proofs.YtfaeigbfnjkojaaGreatDoor.Ow
open Go.RowKit
variable {P : Program}
/-- the slice address A reads as the values xs -/
def Rd (w : World) (A : Option Addr) (xs : List Value) : Prop := ∀ j x, xs[j]? = some x → ∃ b o, A = some ⟨b, o, none⟩ ∧ b < w.heap.size ∧ w.cell? ⟨b, o + j, none⟩ = some x
theorem Rd.nil (w : World) (A : Option Addr) : Rd w A [] := fun j x h => by simp at h
theorem Rd.below {w w' : World} {A : Option Addr} {xs : List Value} (h : Rd w A xs) (hb : Below w.heap.size w w') : Rd w' A xs := fun j x hx => by
  obtain ⟨b, o, hA, hl, hc⟩ := h j x hx
  exact ⟨b, o, hA, Nat.lt_of_lt_of_le hl hb.size, (hb.cell (p := ⟨b, o + j, none⟩) hl).trans hc⟩
theorem Rd.at_ {w : World} {A : Option Addr} {xs : List Value} (h : Rd w A xs) {j : Nat} (hj : j < xs.length) : ∃ b o, A = some ⟨b, o, none⟩ ∧ b < w.heap.size ∧ w.cell? ⟨b, o + j, none⟩ = some xs[j] := h j _ (List.getElem?_eq_getElem hj)
/-- all of it at one place -/
theorem Rd.place {w : World} {A : Option Addr} {xs : List Value} (h : Rd w A xs) (hn : 0 < xs.length) : ∃ b o, A = some ⟨b, o, none⟩ ∧ b < w.heap.size ∧ ∀ j x, xs[j]? = some x → w.cell? ⟨b, o + j, none⟩ = some x := by
  obtain ⟨b, o, hA, hl, _⟩ := h.at_ hn
  refine ⟨b, o, hA, hl, fun j x hx => ?_⟩
  obtain ⟨b', o', hA', _, hc⟩ := h j x hx
  rw [hA] at hA'; cases hA'
  exact hc
/-- v is a slice of the call's own, from block B on, which holds xs -/
def Owns (w : World) (B : Nat) (E : TypeId) (v : Value) (xs : List Value) : Prop := w.ownsRow B E 1 v xs.length xs
theorem Owns.nil (w : World) (B : Nat) (E : TypeId) : Owns w B E (.slice none 0 0) [] := World.ownsRow_nil w B E 1
theorem Owns.new (w : World) (B : Nat) (E : TypeId) (xs : List Value) (hB : B ≤ w.heap.size) (hm : xs.length ≤ maxLen) : Owns (w.alloc (.cells xs.toArray E)) B E (.slice (some ⟨w.heap.size, 0, none⟩) xs.length xs.length) xs := by
  have := World.ownsRow_lit (base := B) (e := E) (size := 1) w xs.toArray xs.length hB hm (by simp)
  exact this
theorem Owns.alloc {w : World} {B : Nat} {E : TypeId} {v : Value} {xs : List Value} (h : Owns w B E v xs) (o : Obj) : Owns (w.alloc o) B E v xs := World.ownsRow.alloc h o
theorem Owns.kept {w w' : World} {B : Nat} {E : TypeId} {v : Value} {xs : List Value} {row : Option Nat} (h : Owns w B E v xs) (hg : w.grownBy w' row) (hne : v.ownBlock = none ∨ v.ownBlock ≠ row) : Owns w' B E v xs := World.ownsRow.kept h hg hne
theorem Owns.below {w w' : World} {B : Nat} {E : TypeId} {v : Value} {xs : List Value} (h : Owns w B E v xs) (hb : Below w.heap.size w w') : Owns w' B E v xs :=
  World.ownsRow.kept h (row := none) ⟨hb.os, hb.tape, hb.output, hb.size, fun k hk _ => hb.block k hk⟩ (by cases hv : v.ownBlock <;> simp)
theorem Owns.lt {w : World} {B : Nat} {E : TypeId} {v : Value} {xs : List Value} (h : Owns w B E v xs) : ∀ k, v.ownBlock = some k → B ≤ k ∧ k < w.heap.size := World.ownsRow.lt h
theorem Owns.ge {w : World} {B : Nat} {E : TypeId} {v : Value} {xs : List Value} (h : Owns w B E v xs) {C : Nat} (hC : C ≤ B) : ∀ k, v.ownBlock = some k → C ≤ k := fun k hk => Nat.le_trans hC (h.lt k hk).1
/-- what it looks like, and what it reads as -/
theorem Owns.form {w : World} {B : Nat} {E : TypeId} {v : Value} {xs : List Value} (h : Owns w B E v xs) : ∃ A c, v = .slice A xs.length c ∧ Rd w A xs ∧ xs.length ≤ c := by
  rcases h.2 with ⟨hv, h0⟩ | ⟨g, cap, cur, hv, _, hg, hc, _⟩
  · have : xs = [] := List.eq_nil_of_length_eq_zero h0
    subst this
    exact ⟨none, 0, hv, Rd.nil _ _, Nat.le_refl _⟩
  · refine ⟨_, cap, hv, fun j x hx => ⟨g, 0, rfl, (Array.getElem?_eq_some_iff.1 hg).1, ?_⟩, hc⟩
    have := World.ownsRow.cells h (g := g) (by rw [hv]; rfl) j x hx
    have hadd : (⟨g, 0, none⟩ : Addr).add j = ⟨g, j, none⟩ := by unfold Addr.add; split <;> simp_all
    rw [hadd] at this
    rw [Nat.zero_add]; exact this
theorem Owns.cast {w : World} {B : Nat} {E : TypeId} {v : Value} {xs ys : List Value} (h : Owns w B E v xs) (e : xs = ys) : Owns w B E v ys := e ▸ h

theorem run_append_none (w : World) (B : Nat) (t ty E : TypeId) (i : TypeInfo) (ht : P.underlying t = some (.slice E)) (hi : P.info? E = some i) (v : Value) (xs : List Value) (h : Owns w B E v xs) (c : Nat) :
    (Builtin.append_ #[t, t] ty #[v, .slice none 0 c]).run P w = .ok v w := by
  rcases h.2 with ⟨rfl, h0⟩ | ⟨g, cap, cur, rfl, _, _, hc, _⟩
  · simp [Builtin.append_, run_underlying ht, sizeOf, typeInfo, hi, Builtin.lenOf, Builtin.firstCells]
  · simp [Builtin.append_, run_underlying ht, sizeOf, typeInfo, hi, Builtin.lenOf, Builtin.firstCells, hc, storeCells]

theorem run_app (w : World) (t ty : TypeId) {E : TypeId} {z : Value} {by' : Nat} (ht : P.underlying t = some (.slice E)) (hI : (P.info? E).map (fun i => (i.zero, i.size, i.bytes)) = some (some z, 1, by')) (hz : z.cells.size = 1) (hby : 0 < by')
    {B : Nat} {v : Value} {xs : List Value} (hO : Owns w B E v xs) {A : Option Addr} {m c : Nat} {ys : List Value} (hm : ys.length = m) (hR : Rd w A ys) (h1 : ∀ u ∈ ys, u.oneCell' = true)
    (hb : (xs.length + m) * by' ≤ 140737488355328) (hB : B ≤ w.heap.size) :
    ∃ v' w', (Builtin.append_ #[t, t] ty #[v, .slice A m c]).run P w = .ok v' w' ∧ Owns w' B E v' (xs ++ ys) ∧ w.grownBy w' v.ownBlock ∧ (v'.ownBlock = v.ownBlock ∨ v'.ownBlock = some w.heap.size) := by
  subst hm
  obtain ⟨i, hi, hz0, hz1, hz2⟩ := info_parts hI
  have hmax : xs.length + ys.length ≤ maxLen := by
    have : xs.length + ys.length ≤ (xs.length + ys.length) * by' := Nat.le_mul_of_pos_right _ hby
    simp only [maxLen]; omega
  have key : ∀ ad : Addr, (∀ j u, ys[j]? = some u → w.cell? (ad.add j) = some u) → A = some ad → ∃ v' w', (Builtin.append_ #[t, t] ty #[v, .slice A ys.length c]).run P w = .ok v' w' ∧ Owns w' B E v' (xs ++ ys) ∧ w.grownBy w' v.ownBlock ∧ (v'.ownBlock = v.ownBlock ∨ v'.ownBlock = some w.heap.size) := by
    intro ad hc hA
    subst hA
    obtain ⟨v', w', hr, ho, hg, _, hat⟩ := run_append_own_at (P := P) w B t ty E i z 1 by' ht hi hz0 hz1 hz2 hz (by decide) v xs.length xs hO ad ys.length c ys (by simp) hc h1 hmax hb hB
    exact ⟨v', w', hr, by unfold Owns; rw [List.length_append]; exact ho, hg, hat⟩
  by_cases hy : ys = []
  · subst hy
    cases A with
    | some ad => exact key ad (fun j u h => by simp at h) rfl
    | none =>
      refine ⟨v, w, run_append_none w B t ty E i ht hi v xs hO c, by simpa using hO, World.grownBy.refl w _, .inl rfl⟩
  · have hpos : 0 < ys.length := List.length_pos_iff.2 hy
    obtain ⟨b, o, rfl, hl, hc⟩ := hR.place hpos
    exact key ⟨b, o, none⟩ (fun j u hu => by
      have hadd : (⟨b, o, none⟩ : Addr).add j = ⟨b, o + j, none⟩ := by unfold Addr.add; split <;> simp_all
      rw [hadd]; exact hc j u hu) rfl

/-- append(v, ys...) -/
theorem app {ops : Array Oper} {rest : List Oper} {o : Oper} {a : Act} {w : World} {Q : Exit → Act → World → Prop} (hgd : o.guard = none) (s x : Operand) (t : TypeId)
    (ho : o.op = .call { callee := .builtin .append, args := #[s, x], argTypes := #[t, t] }) {E : TypeId} {z : Value} {by' : Nat} (ht : P.underlying t = some (.slice E))
    (hI : (P.info? E).map (fun i => (i.zero, i.size, i.bytes)) = some (some z, 1, by')) (hz : z.cells.size = 1) (hby : 0 < by')
    {B : Nat} {v : Value} {xs : List Value} (hO : Owns w B E v xs) (hs : a.eval s = v) {A : Option Addr} {m c : Nat} {ys : List Value} (hx : a.eval x = .slice A m c) (hm : ys.length = m) (hR : Rd w A ys) (h1 : ∀ u ∈ ys, u.oneCell' = true)
    (hb : (xs.length + m) * by' ≤ 140737488355328) (hB : B ≤ w.heap.size)
    (h : ∀ v' w', Owns w' B E v' (xs ++ ys) → w.grownBy w' v.ownBlock → (v'.ownBlock = v.ownBlock ∨ v'.ownBlock = some w.heap.size) → wpList P ops Q rest (a.put o.dst v') w') : wpList P ops Q (o :: rest) a w :=
  wpList_plain hgd fun _ hK => by
    obtain ⟨v', w', hr, h2, h3, h4⟩ := run_app (P := P) w t o.type ht hI hz hby hO (c := c) hm hR h1 hb hB
    unfold Oper.wp execOp
    simp only [ho, resolve, invoke, builtin, Sem.run_bind, Sem.run_pure, Result.andThen_ok, List.map_toArray, List.map_cons, List.map_nil, hs, hx, hr]
    exact hK _ _ (h v' w' h2 h3 h4)
theorem Rd.one (w : World) (T : TypeId) (y : Value) : Rd (w.alloc (.cells #[y] T)) (some ⟨w.heap.size, 0, none⟩) [y] := fun j x hj => by
  match j, hj with
  | 0, hj => simp at hj; subst hj; exact ⟨_, 0, rfl, by simp, (Rg.Blk.new w _ _).cell 0 rfl⟩
/-- append(v, y) -/
theorem app1 {ops : Array Oper} {rest : List Oper} {o : Oper} {a : Act} {w : World} {Q : Exit → Act → World → Prop} (hgd : o.guard = none) (s x : Operand) (t : TypeId)
    (ho : o.op = .call { callee := .builtin .append, args := #[s, x], argTypes := #[t, t] }) {E : TypeId} {z : Value} {by' : Nat} (ht : P.underlying t = some (.slice E))
    (hI : (P.info? E).map (fun i => (i.zero, i.size, i.bytes)) = some (some z, 1, by')) (hz : z.cells.size = 1) (hby : 0 < by')
    {B : Nat} {v : Value} {xs : List Value} (hO : Owns w B E v xs) (hs : a.eval s = v) {y : Value} {T : TypeId} (hx : a.eval x = .slice (some ⟨w.heap.size, 0, none⟩) 1 1) (h1 : y.oneCell' = true)
    (hb : (xs.length + 1) * by' ≤ 140737488355328) (hB : B ≤ w.heap.size)
    (h : ∀ v' w', Owns w' B E v' (xs ++ [y]) → w.grownBy w' v.ownBlock → (v'.ownBlock = v.ownBlock ∨ v'.ownBlock = some (w.heap.size + 1)) → wpList P ops Q rest (a.put o.dst v') w') : wpList P ops Q (o :: rest) a (w.alloc (.cells #[y] T)) := by
  refine app hgd s x t ho ht hI hz hby (hO.alloc _) hs hx rfl (Rd.one w T y) (by intro u hu; simp at hu; subst hu; exact h1) hb (by simp; omega) ?_
  intro v' w' h2 h3 h4
  exact h v' w' h2 ⟨h3.os, h3.tape, h3.output, by have := h3.size; simp at this; omega, fun k hk hne => (h3.block k (by simp; omega) hne).trans (Below.heap_alloc w _ k hk)⟩ (by simpa using h4)
/-- bytes -/
def bv (l : List UInt8) : List Value := Lib.byteCells l
theorem bv_length (l : List UInt8) : (bv l).length = l.length := by simp [bv, Lib.byteCells]
theorem bv_append (a b : List UInt8) : bv (a ++ b) = bv a ++ bv b := by simp [bv, Lib.byteCells]
theorem bv_one (b : UInt8) (x : Int) (h : x = b.toNat) : bv [b] = [.int .u8 x] := by simp [bv, Lib.byteCells, h]
theorem bv_cells (l : List UInt8) : ∀ u ∈ bv l, u.oneCell' = true := by
  intro u hu
  simp only [bv, Lib.byteCells, List.mem_map] at hu
  obtain ⟨x, _, rfl⟩ := hu
  rfl
theorem bv_get (l : List UInt8) (j : Nat) (b : UInt8) (h : l[j]? = some b) : (bv l)[j]? = some (.int .u8 b.toNat) := by simp [bv, Lib.byteCells, h]
theorem Rd.bytes {w : World} {A : Option Addr} {l : List UInt8} (h : Rd w A (bv l)) (hn : 0 < l.length) : ∃ b o, A = some ⟨b, o, none⟩ ∧ b < w.heap.size ∧ Cv.Bytes w b o l := by
  obtain ⟨b, o, hA, hl, hc⟩ := h.place (by rw [bv_length]; exact hn)
  exact ⟨b, o, hA, hl, fun j x hx => hc j _ (bv_get l j x hx)⟩
/-- string(v), v a slice of bytes, nil or not -/
theorem run_str (w : World) (src e dst : TypeId) (hs : P.underlying src = some (.slice e)) (he : P.underlying e = some (.int .u8)) (hd : P.underlying dst = some .string)
    {A : Option Addr} {n c : Nat} {l : List UInt8} (hn : l.length = n) (hR : Rd w A (bv l)) : (convert src dst (.slice A n c)).run P w = .ok (.string ⟨l.toArray⟩) w := by
  subst hn
  by_cases h0 : l = []
  · subst h0
    cases A with
    | none => unfold convert; simp [run_underlying hs, run_underlying he, run_underlying hd, go_sem]; rfl
    | some ad =>
      obtain ⟨b, o, q⟩ := ad
      unfold convert; simp [run_underlying hs, run_underlying he, run_underlying hd, go_sem]; rfl
  · obtain ⟨b, o, rfl, hl, hB⟩ := hR.bytes (List.length_pos_iff.2 h0)
    exact Cv.run_string_bytes w src e dst hs he hd b o c l hB
theorem str {ops : Array Oper} {rest : List Oper} {o : Oper} {a : Act} {w : World} {Q : Exit → Act → World → Prop} (hgd : o.guard = none) (src e dst : TypeId) (x : Operand) (ho : o.op = .convert src dst x)
    (hs : P.underlying src = some (.slice e)) (he : P.underlying e = some (.int .u8)) (hd : P.underlying dst = some .string) {B : Nat} {E : TypeId} {v : Value} {l : List UInt8} (hO : Owns w B E v (bv l)) (hx : a.eval x = v)
    (h : wpList P ops Q rest (a.put o.dst (.string ⟨l.toArray⟩)) w) : wpList P ops Q (o :: rest) a w :=
  wpList_plain hgd fun _ hK => by
    obtain ⟨A, c, hv, hR, _⟩ := hO.form
    rw [hv, bv_length] at hx
    unfold Oper.wp execOp
    simp only [ho, hx, Sem.run_bind, run_str (P := P) w src e dst hs he hd rfl hR, Result.andThen_ok, Sem.run_pure]
    exact hK _ _ h
end Go.Proofs.YtfaeigbfnjkojaaGreatDoor.Ow
namespace Go.Proofs.YtfaeigbfnjkojaaGreatDoor.Og
open Go.RowKit Go.ChangeShapes Go.WideShapes Go.Proofs.YtfaeigbfnjkojaaGreatDoor.Ow
variable {H : Type} {enc : TypeId × Value → H} {P : Program} {W : World}
theorem trodAll_below (hl : laidOutB P = true) {W' : World} (hb : Below W.heap.size W W') : ∀ (ts : List TypeId) (vs : List Value) (ds : List (DataW H)) (ps : List MemPlace), (∀ t ∈ ts, P.readableRec t = true ∧ t < P.types.size) →
    DataW.TrodAll enc P W 0 (fun _ => true) true ts vs ds ps → (∀ x ∈ ps, x.block < W.heap.size) → DataW.TrodAll enc P W' 0 (fun b => decide (b < W.heap.size)) true ts vs ds ps
  | [], [], [], _, _, h, _ => h
  | t :: ts, v :: vs, d :: ds, ps, ht, h, hlt => by
    obtain ⟨p, q, h1, h2, rfl⟩ := h
    exact ⟨p, q, Below.trod hl (ht t (by simp)).1 (ht t (by simp)).2 h1 hb (fun x hx => hlt x (List.mem_append_left _ hx)),
      trodAll_below hl hb ts vs ds q (fun t' h' => ht t' (List.mem_cons_of_mem _ h')) h2 (fun x hx => hlt x (List.mem_append_right _ hx)), rfl⟩
  | [], [], _ :: _, _, _, h, _ => h.elim
  | [], _ :: _, [], _, _, h, _ => h.elim
  | [], _ :: _, _ :: _, _, _, h, _ => h.elim
  | _ :: _, [], [], _, _, h, _ => h.elim
  | _ :: _, [], _ :: _, _, _, h, _ => h.elim
  | _ :: _, _ :: _, [], _, _, h, _ => h.elim
/-- a slice address that reads cell by cell -/
theorem rd_of_add {A : Addr} {xs : List Value} (h : ∀ j x, xs[j]? = some x → W.cell? (A.add j) = some x) : Rd W (some A) xs := by
  intro j x hx
  have h0 : 0 < xs.length := by have := (List.getElem?_eq_some_iff.1 hx).1; omega
  have hc := h 0 xs[0] (List.getElem?_eq_getElem h0)
  have hadd0 : A.add 0 = A := by unfold Addr.add; rfl
  rw [hadd0] at hc
  have hsp : A.spot = none := by
    unfold World.cell? at hc
    split at hc
    · split at hc
      · cases hc
      · rename_i h; simpa using h
    · cases hc
  have hlt := World.block_lt_of_cell? W A hc
  obtain ⟨b, o, s⟩ := A
  simp only at hsp
  subst hsp
  refine ⟨b, o, rfl, hlt, ?_⟩
  have hadd : (⟨b, o, none⟩ : Addr).add j = ⟨b, o + j, none⟩ := by unfold Addr.add; split <;> simp_all
  rw [← hadd]; exact h j x hx
theorem open_strs {r : Reach} {b0 : Nat} {t e : TypeId} {v : Value} {d : DataW H} {ps : List MemPlace} (ht : P.underlying t = some (.slice e)) (he : P.underlying e = some .string) (hc : P.cellsOf e = 1)
    (hval : Value.okWide P W r b0 t v) (h : DataW.Trod enc P W 0 (fun _ => true) true t v d ps) :
    ∃ (A : Option Addr) (c : Nat) (xs : List ByteArray), v = .slice A xs.length c ∧ Rd W A (xs.map Value.string) ∧ xs.length ≤ c ∧ c ≤ maxLen ∧ ∀ x ∈ xs, x.size ≤ maxLen := by
  obtain ⟨a, len, cap, rfl⟩ := okWide_slice ht hval
  obtain ⟨fuel, hf⟩ := h
  rcases Go.ChangeShapes.open_strings ht he hc hf with ⟨hcs, _⟩ | ⟨a', len', cap', ss, hcs, _, hl, hm, hss, _, hcell, hsz⟩
  · simp [Value.cells] at hcs
    obtain ⟨rfl, rfl, rfl⟩ := hcs
    exact ⟨none, 0, [], rfl, Rd.nil _ _, Nat.le_refl _, Nat.zero_le _, by simp⟩
  · simp [Value.cells] at hcs
    obtain ⟨rfl, rfl, rfl⟩ := hcs
    simp only [if_true] at hss
    have hlen : (ss.take len).length = len := by rw [List.length_take]; omega
    refine ⟨some a', cap, ss.take len, by rw [hlen], rd_of_add fun j x hx => ?_, by omega, hm, fun x hx => hsz x (List.mem_of_mem_take hx)⟩
    rw [List.getElem?_map, Option.map_eq_some_iff] at hx
    obtain ⟨y, hy, rfl⟩ := hx
    have hj : j < (ss.take len).length := (List.getElem?_eq_some_iff.1 hy).1
    rw [hcell j (by omega)]
    rw [List.getElem?_take_of_lt (by omega)] at hy
    simp [List.getD, hy]
end Go.Proofs.YtfaeigbfnjkojaaGreatDoor.Og
namespace Go.Proofs.YtfaeigbfnjkojaaGreatDoor.Og
open Go.RowKit Go.ChangeShapes Go.WideShapes Go.Joins Go.Deep Go.Proofs.YtfaeigbfnjkojaaGreatDoor.Ow
variable {H : Type} {enc : TypeId × Value → H} {P : Program} {W : World}
theorem list_of {α : Type} {Q : Nat → α → Prop} : ∀ n, (∀ i, i < n → ∃ f, Q i f) → ∃ fs : List α, fs.length = n ∧ ∀ j f, fs[j]? = some f → Q j f
  | 0, _ => ⟨[], rfl, fun j f h => by simp at h⟩
  | n + 1, h => by
    obtain ⟨fs, hl, hq⟩ := list_of n (fun i hi => h i (by omega))
    obtain ⟨f, hf⟩ := h n (by omega)
    refine ⟨fs ++ [f], by simp [hl], fun j g hg => ?_⟩
    by_cases hj : j < n
    · rw [List.getElem?_append_left (by omega)] at hg; exact hq j g hg
    · have hj2 : j < (fs ++ [f]).length := (List.getElem?_eq_some_iff.1 hg).1
      simp [hl] at hj2
      obtain rfl : j = n := by omega
      rw [List.getElem?_append_right (by omega), hl, Nat.sub_self] at hg
      simp at hg
      subst hg
      exact hf
theorem map_of {α : Type} {f : α → Value} {p : α → Prop} : ∀ {xs : List Value}, (∀ x ∈ xs, ∃ a, x = f a ∧ p a) → ∃ as : List α, xs = as.map f ∧ ∀ a ∈ as, p a
  | [], _ => ⟨[], rfl, by simp⟩
  | x :: xs, h => by
    obtain ⟨a, rfl, ha⟩ := h x (List.mem_cons_self ..)
    obtain ⟨as, e, hp⟩ := map_of (xs := xs) (fun y hy => h y (List.mem_cons_of_mem _ hy))
    refine ⟨a :: as, by rw [e]; rfl, fun b hb => ?_⟩
    rcases List.mem_cons.1 hb with rfl | hb
    · exact ha
    · exact hp b hb
/-- a field or an element that reads -/
def Reads (enc : TypeId × Value → H) (P : Program) (W : World) (t : TypeId) (v : Value) : Prop := ∃ n y, DataW.trod enc P W 0 (fun _ => true) true n t [v] = some y
theorem open_sl {t e : TypeId} {v : Value} (ht : P.underlying t = some (.slice e)) (hc : P.cellsOf e = 1) (h : Reads enc P W t v) :
    ∃ (A : Option Addr) (n c : Nat) (xs : List Value), v = .slice A n c ∧ xs.length = n ∧ Rd W A xs ∧ n ≤ c ∧ c ≤ maxLen ∧ ∀ x ∈ xs, Reads enc P W e x := by
  obtain ⟨fuel, y, hf⟩ := h
  rcases DataW.trod_slice ht hf with ⟨hcs, _⟩ | ⟨a', len, cap, elems, rest, n, _, hcs, _, _, hl, hm, hlen, hel, _, _⟩
  · simp only [List.cons.injEq, and_true] at hcs
    exact ⟨none, 0, 0, [], hcs, rfl, Rd.nil _ _, Nat.le_refl _, Nat.zero_le _, by simp⟩
  · simp only [List.cons.injEq, and_true] at hcs
    have each : ∀ i, i < len → ∃ x : Value, W.cell? (a'.add i) = some x ∧ Reads enc P W e x := by
      intro i hi
      have h1 := hel i hi
      rw [List.getElem?_eq_getElem (by omega), Option.bind_eq_some_iff] at h1
      obtain ⟨cs, hcs2, hy⟩ := h1
      obtain ⟨_, hl1, hcc⟩ := World.cells?_some hcs2
      rw [hc] at hl1 hcc
      match cs, hl1 with
      | [x], _ =>
        have := hcc 0 (by decide)
        rw [Nat.mul_one] at this
        have hadd0 : ∀ A : Addr, A.add 0 = A := fun A => by unfold Addr.add; rfl
        rw [hadd0] at this
        exact ⟨x, this, _, _, hy⟩
    obtain ⟨xs, hxl, hq⟩ := list_of len each
    refine ⟨some a', len, cap, xs, hcs, hxl, rd_of_add fun j x hx => (hq j x hx).1, hl, hm, fun x hx => ?_⟩
    obtain ⟨j, hj⟩ := List.mem_iff_getElem?.1 hx
    exact (hq j x hj).2
theorem open_int1 {t : TypeId} {k : IntKind} {v : Value} (ht : P.underlying t = some (.int k)) (h : Reads enc P W t v) : ∃ n, v = .int k n ∧ (Lit.int k n).wf = true := by
  obtain ⟨fuel, y, hf⟩ := h
  obtain ⟨n, e, _, hw⟩ := DataW.trod_int ht hf
  simp only [List.cons.injEq, and_true] at e
  exact ⟨n, e, hw⟩
theorem open_str1 {t : TypeId} {v : Value} (ht : P.underlying t = some .string) (h : Reads enc P W t v) : ∃ s, v = .string s ∧ s.size ≤ maxLen := by
  obtain ⟨fuel, y, hf⟩ := h
  obtain ⟨s, e, _, hw⟩ := DataW.trod_string ht hf
  simp only [List.cons.injEq, and_true] at e
  exact ⟨s, e, hw⟩
theorem open_bool1 {t : TypeId} {v : Value} (ht : P.underlying t = some .bool) (h : Reads enc P W t v) : ∃ b, v = .bool b := by
  obtain ⟨fuel, y, hf⟩ := h
  obtain ⟨b, e, _⟩ := DataW.trod_bool ht hf
  simp only [List.cons.injEq, and_true] at e
  exact ⟨b, e⟩
theorem open_agg5 {r : Reach} {b0 : Nat} {t : TypeId} {f0 f1 f2 f3 f4 : Field} {v : Value} {d : DataW H} {p : List MemPlace} (hs : P.underlying t = some (.struct #[f0, f1, f2, f3, f4])) (hone : oneCellFields P #[f0, f1, f2, f3, f4] = true) (hC : P.cellsOf t = 5)
    (hv : Value.okWide P W r b0 t v) (h : DataW.Trod enc P W 0 (fun _ => true) true t v d p) :
    ∃ v0 v1 v2 v3 v4 : Value, v = .agg #[v0, v1, v2, v3, v4] ∧ Reads enc P W f0.type v0 ∧ Reads enc P W f1.type v1 ∧ Reads enc P W f2.type v2 ∧ Reads enc P W f3.type v3 ∧ Reads enc P W f4.type v4 := by
  obtain ⟨cs, rfl, hsz⟩ := okWide_struct hs hv
  obtain ⟨l⟩ := cs
  match l, hsz.trans hC with
  | [c0, c1, c2, c3, c4], _ =>
    obtain ⟨fuel, hf⟩ := h
    obtain ⟨xs, n, _, hx, _, hlen, hg⟩ := DataW.trod_struct hs hf
    obtain ⟨o0, k0⟩ := hone_of hone 0 f0 rfl
    obtain ⟨o1, k1⟩ := hone_of hone 1 f1 rfl
    obtain ⟨o2, k2⟩ := hone_of hone 2 f2 rfl
    obtain ⟨o3, k3⟩ := hone_of hone 3 f3 rfl
    obtain ⟨o4, k4⟩ := hone_of hone 4 f4 rfl
    match xs, hlen with
    | [y0, y1, y2, y3, y4], _ =>
      exact ⟨c0, c1, c2, c3, c4, rfl, ⟨n, y0, by simpa [Value.cells, o0, k0] using hg 0 f0 rfl⟩, ⟨n, y1, by simpa [Value.cells, o1, k1] using hg 1 f1 rfl⟩, ⟨n, y2, by simpa [Value.cells, o2, k2] using hg 2 f2 rfl⟩, ⟨n, y3, by simpa [Value.cells, o3, k3] using hg 3 f3 rfl⟩, ⟨n, y4, by simpa [Value.cells, o4, k4] using hg 4 f4 rfl⟩⟩
end Go.Proofs.YtfaeigbfnjkojaaGreatDoor.Og
namespace Go.Proofs.YtfaeigbfnjkojaaGreatDoor.RL
open Go.RowKit
section
variable {P : Program} {ops : Array Oper} {Q : Exit → Act → World → Prop} {md : Region.Mode} {S : World → Prop}
/-- all that w held is in w' as it was -/
def Lat (w w' : World) : Prop := Below w.heap.size w w'
theorem Lat.refl (w : World) : Lat w w := Below.refl _ _
theorem Lat.trans {a b c : World} (h : Lat a b) (k : Lat b c) : Lat a c := Below.trans h (k.mono h.size)
/-- in every world of S the operation gives v, and leaves a later world of S -/
def Soft (P : Program) (ops : Array Oper) (S : World → Prop) (o : Oper) (v : Value) (a : Act) : Prop :=
  (Region.wanted o (yielded ops a.tmps) = true ∧ ∀ w, S w → (execOp a.eval o).run P w = .ok (.value v) w) ∨
  (Region.wanted o (yielded ops a.tmps) = true ∧ ∃ f args, ∀ w, S w → (execOp a.eval o).run P w = .ok (.enter f args) w ∧ Calls P f args w fun e w' => e = .returned v ∧ Lat w w' ∧ S w') ∨
  (Region.wanted o (yielded ops a.tmps) = false ∧ v = undef)
theorem Soft.of_same {o : Oper} {v : Value} {a a' : Act} (hy : Soft P ops S o v a) (he : execOp a'.eval o = execOp a.eval o)
    (hw : Region.wanted o (yielded ops a'.tmps) = Region.wanted o (yielded ops a.tmps)) : Soft P ops S o v a' := by
  unfold Soft at *
  rw [he, hw]
  exact hy
theorem Soft.wpOp {i : Nat} {o : Oper} {v : Value} {a : Act} (hi : ops[i]? = some o) (hy : Soft P ops S o v a)
    {K : Act → World → Prop} {w : World} (hS : S w) (h : ∀ w', Lat w w' → S w' → K (a.put o.dst v) w') : wpOp P ops Q i K a w := by
  unfold Go.wpOp
  simp only [hi]
  rcases hy with ⟨hw, hv⟩ | ⟨hw, f, args, hv⟩ | ⟨hw, rfl⟩
  · simp only [hw, if_true, Oper.wp, hv w hS, Oper.upon]; exact .inl (h w (Lat.refl w) hS)
  · simp only [hw, if_true, Oper.wp, (hv w hS).1, Oper.upon]
    refine .inl (Calls.mono (hv w hS).2 fun e w' he => ?_)
    obtain ⟨rfl, hl, hs⟩ := he
    exact h w' hl hs
  · simp only [hw, Bool.false_eq_true, if_false]; exact h w (Lat.refl w) hS
theorem wpOp_putSoft {j : Nat} {oi oj : Oper} {v : Value} (hj : ops[j]? = some oj) (hap : oi.apart ops oj = true)
    (hsi : ∀ cs b, oi.op ≠ .select cs b) (hsj : ∀ cs b, oj.op ≠ .select cs b)
    (hQ : ∀ c a w, Q (.panic c) (a.put oi.dst v) w → Q (.panic c) a w) {K : Act → World → Prop} {a : Act} {w : World}
    (hy : Soft P ops S oi v a) (h : wpOp P ops Q j K (a.put oi.dst v) w) :
    wpOp P ops Q j (fun a' w' => Soft P ops S oi v a' ∧ K (a'.put oi.dst v) w') a w := by
  obtain ⟨h1, h2, h3⟩ := Oper.apart_spec hap
  have keep : ∀ (a : Act), Soft P ops S oi v a → ∀ u, Soft P ops S oi v (a.put oj.dst u) := fun a hy u =>
    hy.of_same (execOp_put oi hsi a oj.dst u h3) (wanted_put oi a oj.dst u h3)
  have keepD : ∀ d, Soft P ops S oi v { a with defers := d :: a.defers } := fun d => hy.of_same rfl rfl
  unfold wpOp at *
  simp only [hj] at *
  rw [wanted_put oj a oi.dst v h1] at h
  split
  · rename_i hw
    simp only [hw, if_true] at h
    rcases h with h | ⟨hasks, hlets⟩
    case inr => exact .inr ⟨by unfold Oper.asks at *; rw [execOp_put oj hsj a oi.dst v h1] at hasks; exact hasks, hlets⟩
    refine .inl ?_
    unfold Oper.wp at *
    rw [execOp_put oj hsj a oi.dst v h1] at h
    generalize (execOp a.eval oj).run P w = r at *
    cases r with
    | ok n w' =>
      cases n <;> simp only [Oper.upon] at h ⊢
      case value u => exact ⟨keep a hy u, by rw [← Act.put_comm a v u h2]; exact h⟩
      case skip => exact ⟨keep a hy _, by rw [← Act.put_comm a v undef h2]; exact h⟩
      case defer d =>
        refine ⟨keep _ (keepD d) _, ?_⟩
        rw [← Act.put_comm _ v undef h2, ← Act.put_defers]
        exact h
      case enter f args =>
        refine Calls.mono h fun e w'' he => ?_
        cases e with
        | returned u => exact ⟨keep a hy u, by rw [← Act.put_comm a v u h2]; exact he⟩
        | panicked c => exact hQ _ _ _ he
        | outgrown => exact he
      case row row args => exact Rows.mono h fun u w'' he => ⟨keep a hy u, by rw [← Act.put_comm a v u h2]; exact he⟩
    | halt x w' =>
      cases x <;> simp only [Oper.upon] at h ⊢
      case panic u => exact hQ _ _ _ h
  · rename_i hw
    simp only [hw] at h
    exact ⟨keep a hy _, by rw [← Act.put_comm a v undef h2]; exact h⟩
/-- whatever order is picked from here on, and behind every operation in whatever later world of S -/
def wpAnyL (P : Program) (md : Region.Mode) (ops : Array Oper) (Q : Exit → Act → World → Prop) (S : World → Prop) : Nat → Array Bool → Act → World → Prop
  | 0, listed, a, w => Region.ready md ops listed = [] ∧ Q .normal a w
  | fuel + 1, listed, a, w =>
    (Region.ready md ops listed = [] → Q .normal a w) ∧
    ∀ i ∈ Region.ready md ops listed, wpOp P ops Q i (fun a' w' => S w' ∧ ∀ w'', Lat w' w'' → S w'' → wpAnyL P md ops Q S fuel (listed.setIfInBounds i true) a' w'') a w
theorem wpAny_of_L : ∀ (fuel : Nat) (listed : Array Bool) (a : Act) (w : World), wpAnyL P md ops Q S fuel listed a w → wpAny P md ops Q fuel listed a w
  | 0, _, _, _, h => h
  | fuel + 1, _, _, _, h => ⟨h.1, fun i hi => wpOp_mono (fun a' w' h' => wpAny_of_L fuel _ a' w' (h'.2 w' (Lat.refl w') h'.1)) (h.2 i hi)⟩
theorem wpAnyL_first {i : Nat} {oi : Oper} {v : Value} (hi : ops[i]? = some oi) (hsel : ∀ (j : Nat) (o : Oper) cs b, ops[j]? = some o → o.op ≠ .select cs b)
    (hQ : ∀ c a w, Q (.panic c) (a.put oi.dst v) w → Q (.panic c) a w) :
    ∀ (fuel : Nat) (listed : Array Bool) (a : Act) (w : World),
      (∀ j oj, ops[j]? = some oj → j ≠ i → listed.getD j true = false → (∀ e ∈ oj.after, Region.binds md e = true → e.on ≠ i) → oi.apart ops oj = true) →
      i ∈ Region.ready md ops listed → Soft P ops S oi v a → S w →
      (∀ w', Lat w w' → S w' → wpAnyL P md ops Q S fuel (listed.setIfInBounds i true) (a.put oi.dst v) w') → wpAnyL P md ops Q S (fuel + 1) listed a w := by
  intro fuel
  induction fuel with
  | zero =>
    intro listed a w _ hr hy hS H
    refine ⟨fun h => (by rw [h] at hr; cases hr), fun j hj => ?_⟩
    by_cases hji : j = i
    · subst hji; exact hy.wpOp hi hS (fun w' hl hs => ⟨hs, fun w'' hl' hs' => H w'' (hl.trans hl') hs'⟩)
    · have := ready_mono hj hji
      rw [(H w (Lat.refl w) hS).1] at this
      cases this
  | succ fuel ih =>
    intro listed a w hfree hr hy hS H
    refine ⟨fun h => (by rw [h] at hr; cases hr), fun j hj => ?_⟩
    by_cases hji : j = i
    · subst hji; exact hy.wpOp hi hS (fun w' hl hs => ⟨hs, fun w'' hl' hs' => H w'' (hl.trans hl') hs'⟩)
    · have h1 := (H w (Lat.refl w) hS).2 j (ready_mono hj hji)
      obtain ⟨hjun, oj, hoj, hall⟩ := mem_ready.1 hj
      have hnot : ∀ e ∈ oj.after, Region.binds md e = true → e.on ≠ i := fun e he hb heq => by
        have h1 := hall e he hb
        have h0 := (mem_ready.1 hr).1
        rw [heq] at h1
        rcases Nat.lt_or_ge i listed.size with h' | h'
        · simp [h'] at h0 h1; rw [h0] at h1; cases h1
        · simp [Array.getElem?_eq_none h'] at h1
      have h2 := wpOp_putSoft hoj (hfree j oj hoj hji hjun hnot) (fun cs b => hsel i oi cs b hi) (fun cs b => hsel j oj cs b hoj) hQ hy h1
      have hfree' : ∀ k ok, ops[k]? = some ok → k ≠ i → (listed.setIfInBounds j true).getD k true = false →
          (∀ e ∈ ok.after, Region.binds md e = true → e.on ≠ i) → oi.apart ops ok = true := fun k ok hk hki hun hno => by
        refine hfree k ok hk hki ?_ hno
        by_cases hjk : j = k
        · subst hjk; exact hjun
        · rw [getD_set_ne true hjk] at hun; exact hun
      refine wpOp_mono (fun a' w' h3 => ⟨h3.2.1, fun w'' hl hs => ih (listed.setIfInBounds j true) a' w'' hfree' (ready_mono hr (Ne.symm hji)) h3.1 hs (fun w3 hl3 hs3 => ?_)⟩) h2
      rw [Array.setIfInBounds_comm _ _ hji]
      exact h3.2.2 w3 (hl.trans hl3) hs3
/-- the same in every later world of S -/
def H (P : Program) (md : Region.Mode) (ops : Array Oper) (Q : Exit → Act → World → Prop) (S : World → Prop) (w : World) (fuel : Nat) (listed : Array Bool) (a : Act) : Prop :=
  ∀ w', Lat w w' → S w' → wpAnyL P md ops Q S fuel listed a w'
/-- a value, taken first -/
theorem take {i : Nat} {oi : Oper} {v : Value} {fuel : Nat} {listed : Array Bool} {a : Act} {w : World} (hi : ops.toList[i]? = some oi)
    (hs : Region.noSelect ops = true) (hf : Region.free md ops listed i = true) (hr : (Region.ready md ops listed).contains i = true)
    (hQ : ∀ c a w, Q (.panic c) (a.put oi.dst v) w → Q (.panic c) a w) (hy : Soft P ops S oi v a)
    (h : H P md ops Q S w fuel (listed.setIfInBounds i true) (a.put oi.dst v)) : H P md ops Q S w (fuel + 1) listed a := fun w' hl hS =>
  wpAnyL_first (by simpa using hi) (Region.noSelect_spec hs) hQ fuel listed a w' (Region.free_spec (by simpa using hi) hf) (by simpa using hr) hy hS (fun w'' hl' hs' => h w'' (hl.trans hl') hs')
theorem takeV {i : Nat} {oi : Oper} {v : Value} {fuel : Nat} {listed : Array Bool} {a : Act} {w : World} (hi : ops.toList[i]? = some oi)
    (hs : Region.noSelect ops = true) (hf : Region.free md ops listed i = true) (hr : (Region.ready md ops listed).contains i = true)
    (hQ : ∀ c a w, Q (.panic c) (a.put oi.dst v) w → Q (.panic c) a w) (hw : Region.wanted oi (yielded ops a.tmps) = true) (hv : ∀ w, S w → (execOp a.eval oi).run P w = .ok (.value v) w)
    (h : H P md ops Q S w fuel (listed.setIfInBounds i true) (a.put oi.dst v)) : H P md ops Q S w (fuel + 1) listed a :=
  take hi hs hf hr hQ (.inl ⟨hw, hv⟩) h
theorem takeU {i : Nat} {oi : Oper} {fuel : Nat} {listed : Array Bool} {a : Act} {w : World} (hi : ops.toList[i]? = some oi)
    (hs : Region.noSelect ops = true) (hf : Region.free md ops listed i = true) (hr : (Region.ready md ops listed).contains i = true)
    (hQ : ∀ c a w, Q (.panic c) (a.put oi.dst undef) w → Q (.panic c) a w) (hw : Region.wanted oi (yielded ops a.tmps) = false)
    (h : H P md ops Q S w fuel (listed.setIfInBounds i true) (a.put oi.dst undef)) : H P md ops Q S w (fuel + 1) listed a :=
  take hi hs hf hr hQ (.inr (.inr ⟨hw, rfl⟩)) h
theorem takeC {i : Nat} {oi : Oper} {v : Value} {fuel : Nat} {listed : Array Bool} {a : Act} {w : World} (f : FuncId) (args : Array Value) (hi : ops.toList[i]? = some oi)
    (hs : Region.noSelect ops = true) (hf : Region.free md ops listed i = true) (hr : (Region.ready md ops listed).contains i = true)
    (hQ : ∀ c a w, Q (.panic c) (a.put oi.dst v) w → Q (.panic c) a w) (hw : Region.wanted oi (yielded ops a.tmps) = true) (hv : ∀ w, (execOp a.eval oi).run P w = .ok (.enter f args) w)
    (hc : ∀ w, S w → Calls P f args w fun e w' => e = .returned v ∧ Lat w w' ∧ S w')
    (h : H P md ops Q S w fuel (listed.setIfInBounds i true) (a.put oi.dst v)) : H P md ops Q S w (fuel + 1) listed a :=
  take hi hs hf hr hQ (.inr (.inl ⟨hw, f, args, fun w hS => ⟨hv w, hc w hS⟩⟩)) h
/-- the only one that may come up, carried out in whatever later world -/
theorem step {i : Nat} {fuel : Nat} {listed : Array Bool} {a : Act} {w : World} (hr : Region.ready md ops listed = [i])
    (h : ∀ w', Lat w w' → S w' → wpOp P ops Q i (fun a' w'' => S w'' ∧ H P md ops Q S w'' fuel (listed.setIfInBounds i true) a') a w') : H P md ops Q S w (fuel + 1) listed a := by
  intro w' hl hS
  refine ⟨fun h0 => ?_, fun j hj => ?_⟩
  · rw [h0] at hr
    cases hr
  · rw [hr] at hj
    rw [List.mem_singleton.1 hj]
    exact h w' hl hS
/-- kept shut till it is opened -/
def Shut (p : Prop) : Prop := p
theorem Shut.out {p : Prop} (h : Shut p) : p := h
theorem stepK {i : Nat} {o : Oper} {fuel : Nat} {listed : Array Bool} {a : Act} {w : World} (ho : ops.toList[i]? = some o) (hr : Region.ready md ops listed = [i]) (hw : Region.wanted o (yielded ops a.tmps) = true)
    (h : ∀ w', Lat w w' → S w' → ∀ K : Act → World → Prop, Shut (∀ a' w'', S w'' → H P md ops Q S w'' fuel (listed.setIfInBounds i true) a' → K a' w'') → Oper.wp P o a w' K Q) : H P md ops Q S w (fuel + 1) listed a :=
  step hr fun w' hl hS => wpOp_step (by simpa using ho) fun K hK => by
    rw [if_pos hw]
    exact h w' hl hS K (fun a' w'' hs hh => hK a' w'' ⟨hs, hh⟩)
theorem done {fuel : Nat} {listed : Array Bool} {a : Act} {w : World} (hr : Region.ready md ops listed = [])
    (h : ∀ w', Lat w w' → S w' → Q .normal a w') : H P md ops Q S w fuel listed a := fun w' hl hS => by
  cases fuel with
  | zero => exact ⟨hr, h w' hl hS⟩
  | succ f => exact ⟨fun _ => h w' hl hS, fun i hi => by rw [hr] at hi; cases hi⟩
theorem start {id : Nat} {a : Act} {w : World} (S : World → Prop) (hm : P.follows .mixedOrders = true) (hS : S w.drew)
    (h : H P .any ops Q S w.drew ops.size (Array.replicate ops.size false) a) : (Code.region id ops true).wp P Q a w :=
  wp_region_any hm (wpAny_of_L _ _ _ _ (h w.drew (Lat.refl _) hS))
end
/-- all that X held is in w as it was -/
def Aft (X w : World) : Prop := Below X.heap.size X w
theorem Aft.refl (X : World) : Aft X X := Below.refl _ _
theorem Aft.drew {X W : World} (h : Aft X W) : Aft X W.drew := Below.drew h
theorem Aft.alloc {X W : World} (h : Aft X W) (o : Obj) : Aft X (W.alloc o) := Below.alloc h h.size o
theorem Aft.lat {X W W' : World} (h : Aft X W) (hb : Lat W W') : Aft X W' := Below.trans h (Below.mono hb h.size)
end Go.Proofs.YtfaeigbfnjkojaaGreatDoor.RL
namespace Go.Proofs.YtfaeigbfnjkojaaGreatDoor.RT
open Go.RowKit Go.Proofs.YtfaeigbfnjkojaaGreatDoor.RL
section
variable {P : Program} {ops : Array Oper} {Q : Exit → Act → World → Prop} {md : Region.Mode} {S : World → Prop} {n g : Nat}
/-- whatever order is picked from here on, the head's operations first -/
def wpAnyT (P : Program) (md : Region.Mode) (ops : Array Oper) (Q : Exit → Act → World → Prop) (S : World → Prop) (n g : Nat) : Nat → Array Bool → Act → World → Prop
  | 0, listed, a, w => Region.seqB md ops g n listed = true ∧ wpAny P md ops Q g listed a w
  | fuel + 1, listed, a, w =>
    Region.ready md ops listed ≠ [] ∧
    ∀ i ∈ Region.ready md ops listed, i < n ∧ wpOp P ops Q i (fun a' w' => S w' ∧ ∀ w'', Lat w' w'' → S w'' → wpAnyT P md ops Q S n g fuel (listed.setIfInBounds i true) a' w'') a w
theorem wpAny_of_T : ∀ (fuel : Nat) (listed : Array Bool) (a : Act) (w : World), wpAnyT P md ops Q S n g fuel listed a w → wpAny P md ops Q (fuel + g) listed a w
  | 0, _, _, _, h => by rw [Nat.zero_add]; exact h.2
  | fuel + 1, listed, a, w, h => by
    rw [show fuel + 1 + g = (fuel + g) + 1 by omega]
    exact ⟨fun h0 => absurd h0 h.1, fun i hi => wpOp_mono (fun a' w' h' => wpAny_of_T fuel _ a' w' (h'.2 w' (Lat.refl w') h'.1)) (h.2 i hi).2⟩
structure Hd (md : Region.Mode) (ops : Array Oper) (n : Nat) (listed : Array Bool) : Prop where
  s : Region.sinkB md ops n = true
  c : Region.chainB md ops n = true
  lt0 : n < ops.size
  inv : HeadInv md ops n listed
theorem Hd.set {listed : Array Bool} (h : Hd md ops n listed) {i : Nat} (hi : i ∈ Region.ready md ops listed) (hin : i < n) : Hd md ops n (listed.setIfInBounds i true) := ⟨h.s, h.c, h.lt0, h.inv.set hi hin⟩
theorem Hd.lt {listed : Array Bool} (h : Hd md ops n listed) {i : Nat} (hin : i < n) (hun : listed.getD i true = false) {j : Nat} (hj : j ∈ Region.ready md ops listed) : j < n := by
  rcases Nat.lt_or_ge j n with h' | h'
  · exact h'
  · exact absurd hj (tail_waits h.s h.c h.lt0 h.inv _ i rfl hin hun j h')
theorem wpAnyT_first {i : Nat} {oi : Oper} {v : Value} (hi : ops[i]? = some oi) (hsel : ∀ (j : Nat) (o : Oper) cs b, ops[j]? = some o → o.op ≠ .select cs b)
    (hQ : ∀ c a w, Q (.panic c) (a.put oi.dst v) w → Q (.panic c) a w) (hin : i < n) :
    ∀ (fuel : Nat) (listed : Array Bool) (a : Act) (w : World), Hd md ops n listed →
      (∀ j oj, ops[j]? = some oj → j ≠ i → listed.getD j true = false → (∀ e ∈ oj.after, Region.binds md e = true → e.on ≠ i) → oi.apart ops oj = true) →
      i ∈ Region.ready md ops listed → Soft P ops S oi v a → S w →
      (∀ w', Lat w w' → S w' → wpAnyT P md ops Q S n g fuel (listed.setIfInBounds i true) (a.put oi.dst v) w') → wpAnyT P md ops Q S n g (fuel + 1) listed a w := by
  intro fuel
  induction fuel with
  | zero =>
    intro listed a w hd _ hr hy hS H
    have hun := (mem_ready.1 hr).1
    refine ⟨fun h => (by rw [h] at hr; cases hr), fun j hj => ⟨hd.lt hin hun hj, ?_⟩⟩
    by_cases hji : j = i
    · subst hji; exact hy.wpOp hi hS (fun w' hl hs => ⟨hs, fun w'' hl' hs' => H w'' (hl.trans hl') hs'⟩)
    · have h1 := seqB_ready (H w (Lat.refl w) hS).1 j (ready_mono hj hji)
      have h2 := hd.lt hin hun hj
      omega
  | succ fuel ih =>
    intro listed a w hd hfree hr hy hS H
    have hun := (mem_ready.1 hr).1
    refine ⟨fun h => (by rw [h] at hr; cases hr), fun j hj => ⟨hd.lt hin hun hj, ?_⟩⟩
    by_cases hji : j = i
    · subst hji; exact hy.wpOp hi hS (fun w' hl hs => ⟨hs, fun w'' hl' hs' => H w'' (hl.trans hl') hs'⟩)
    · have h1 := ((H w (Lat.refl w) hS).2 j (ready_mono hj hji)).2
      obtain ⟨hjun, oj, hoj, hall⟩ := mem_ready.1 hj
      have hnot : ∀ e ∈ oj.after, Region.binds md e = true → e.on ≠ i := fun e he hb heq => by
        have h1 := hall e he hb
        have h0 := (mem_ready.1 hr).1
        rw [heq] at h1
        rcases Nat.lt_or_ge i listed.size with h' | h'
        · simp [h'] at h0 h1; rw [h0] at h1; cases h1
        · simp [Array.getElem?_eq_none h'] at h1
      have h2 := wpOp_putSoft hoj (hfree j oj hoj hji hjun hnot) (fun cs b => hsel i oi cs b hi) (fun cs b => hsel j oj cs b hoj) hQ hy h1
      have hfree' : ∀ k ok, ops[k]? = some ok → k ≠ i → (listed.setIfInBounds j true).getD k true = false →
          (∀ e ∈ ok.after, Region.binds md e = true → e.on ≠ i) → oi.apart ops ok = true := fun k ok hk hki hun hno => by
        refine hfree k ok hk hki ?_ hno
        by_cases hjk : j = k
        · subst hjk; exact hjun
        · rw [getD_set_ne true hjk] at hun; exact hun
      refine wpOp_mono (fun a' w' h3 => ⟨h3.2.1, fun w'' hl hs => ih (listed.setIfInBounds j true) a' w'' (hd.set hj (hd.lt hin hun hj)) hfree' (ready_mono hr (Ne.symm hji)) h3.1 hs (fun w3 hl3 hs3 => ?_)⟩) h2
      rw [Array.setIfInBounds_comm _ _ hji]
      exact h3.2.2 w3 (hl.trans hl3) hs3
/-- the same in every later world of S -/
def H (P : Program) (md : Region.Mode) (ops : Array Oper) (Q : Exit → Act → World → Prop) (S : World → Prop) (n g : Nat) (w : World) (fuel : Nat) (listed : Array Bool) (a : Act) : Prop :=
  Hd md ops n listed → ∀ w', Lat w w' → S w' → wpAnyT P md ops Q S n g fuel listed a w'
theorem take {i : Nat} {oi : Oper} {v : Value} {fuel : Nat} {listed : Array Bool} {a : Act} {w : World} (hi : ops.toList[i]? = some oi)
    (hs : Region.noSelect ops = true) (hf : Region.free md ops listed i = true) (hr : (Region.ready md ops listed).contains i = true) (hin : i < n)
    (hQ : ∀ c a w, Q (.panic c) (a.put oi.dst v) w → Q (.panic c) a w) (hy : Soft P ops S oi v a)
    (h : H P md ops Q S n g w fuel (listed.setIfInBounds i true) (a.put oi.dst v)) : H P md ops Q S n g w (fuel + 1) listed a := fun hd w' hl hS =>
  wpAnyT_first (by simpa using hi) (Region.noSelect_spec hs) hQ hin fuel listed a w' hd (Region.free_spec (by simpa using hi) hf) (by simpa using hr) hy hS (fun w'' hl' hs' => h (hd.set (by simpa using hr) hin) w'' (hl.trans hl') hs')
theorem takeV {i : Nat} {oi : Oper} {v : Value} {fuel : Nat} {listed : Array Bool} {a : Act} {w : World} (hi : ops.toList[i]? = some oi)
    (hs : Region.noSelect ops = true) (hf : Region.free md ops listed i = true) (hr : (Region.ready md ops listed).contains i = true) (hin : i < n)
    (hQ : ∀ c a w, Q (.panic c) (a.put oi.dst v) w → Q (.panic c) a w) (hw : Region.wanted oi (yielded ops a.tmps) = true) (hv : ∀ w, S w → (execOp a.eval oi).run P w = .ok (.value v) w)
    (h : H P md ops Q S n g w fuel (listed.setIfInBounds i true) (a.put oi.dst v)) : H P md ops Q S n g w (fuel + 1) listed a :=
  take hi hs hf hr hin hQ (.inl ⟨hw, hv⟩) h
theorem takeU {i : Nat} {oi : Oper} {fuel : Nat} {listed : Array Bool} {a : Act} {w : World} (hi : ops.toList[i]? = some oi)
    (hs : Region.noSelect ops = true) (hf : Region.free md ops listed i = true) (hr : (Region.ready md ops listed).contains i = true) (hin : i < n)
    (hQ : ∀ c a w, Q (.panic c) (a.put oi.dst undef) w → Q (.panic c) a w) (hw : Region.wanted oi (yielded ops a.tmps) = false)
    (h : H P md ops Q S n g w fuel (listed.setIfInBounds i true) (a.put oi.dst undef)) : H P md ops Q S n g w (fuel + 1) listed a :=
  take hi hs hf hr hin hQ (.inr (.inr ⟨hw, rfl⟩)) h
theorem takeC {i : Nat} {oi : Oper} {v : Value} {fuel : Nat} {listed : Array Bool} {a : Act} {w : World} (f : FuncId) (args : Array Value) (hi : ops.toList[i]? = some oi)
    (hs : Region.noSelect ops = true) (hf : Region.free md ops listed i = true) (hr : (Region.ready md ops listed).contains i = true) (hin : i < n)
    (hQ : ∀ c a w, Q (.panic c) (a.put oi.dst v) w → Q (.panic c) a w) (hw : Region.wanted oi (yielded ops a.tmps) = true) (hv : ∀ w, S w → (execOp a.eval oi).run P w = .ok (.enter f args) w)
    (hc : ∀ w, S w → Calls P f args w fun e w' => e = .returned v ∧ Lat w w' ∧ S w')
    (h : H P md ops Q S n g w fuel (listed.setIfInBounds i true) (a.put oi.dst v)) : H P md ops Q S n g w (fuel + 1) listed a :=
  take hi hs hf hr hin hQ (.inr (.inl ⟨hw, f, args, fun w hS => ⟨hv w hS, hc w hS⟩⟩)) h
theorem stepK {i : Nat} {o : Oper} {fuel : Nat} {listed : Array Bool} {a : Act} {w : World} (ho : ops.toList[i]? = some o) (hr : Region.ready md ops listed = [i]) (hin : i < n) (hw : Region.wanted o (yielded ops a.tmps) = true)
    (h : ∀ w', Lat w w' → S w' → ∀ K : Act → World → Prop, Shut (∀ a' w'', S w'' → H P md ops Q S n g w'' fuel (listed.setIfInBounds i true) a' → K a' w'') → Oper.wp P o a w' K Q) : H P md ops Q S n g w (fuel + 1) listed a := by
  intro hd w' hl hS
  refine ⟨fun h0 => (by rw [h0] at hr; cases hr), fun j hj => ?_⟩
  rw [hr] at hj
  obtain rfl := List.mem_singleton.1 hj
  refine ⟨hin, wpOp_step (by simpa using ho) fun K hK => ?_⟩
  rw [if_pos hw]
  exact h w' hl hS K (fun a' w'' hs hh => hK a' w'' ⟨hs, fun w3 hl3 hs3 => hh (hd.set (by rw [hr]; exact List.mem_singleton.2 rfl) hin) w3 hl3 hs3⟩)
/-- the head is done: the tail in its order -/
theorem tail {l : List Oper} {listed : Array Bool} {a : Act} {w : World} (hB : Region.seqB md ops g n listed = true) (hl : ops.toList.drop n = l) (hg : l.length = g)
    (h : ∀ w', Lat w w' → S w' → wpList P ops Q l a w') : H P md ops Q S n g w 0 listed a := fun _ w' hl' hS => by
  subst hg
  exact ⟨hB, wpAny_of_seq l n listed a w' (fun j => by rw [← hl]; simp [List.getElem?_drop]) hB (h w' hl' hS)⟩
theorem start {id : Nat} {a : Act} {w : World} {l : List Oper} (S : World → Prop) (n g : Nat) (hm : P.follows .mixedOrders = true) (hn : n < l.length) (hg : n + g = l.length) (hs : Region.sinkB .any l.toArray n = true) (hc : Region.chainB .any l.toArray n = true) (hS : S w.drew)
    (h : H P .any l.toArray Q S n g w.drew n (Array.replicate l.toArray.size false) a) : (Code.region id l.toArray true).wp P Q a w := by
  refine wp_region_any hm ?_
  have inv0 : HeadInv .any l.toArray n (Array.replicate l.toArray.size false) :=
    ⟨by simp, fun j oj _ hl => (by rw [getD_replicate_false] at hl; cases hl), fun t _ ht => getD_in (by simpa using ht) (getD_replicate_false _ _)⟩
  have := wpAny_of_T _ _ _ _ (h ⟨hs, hc, by simpa using hn, inv0⟩ w.drew (Lat.refl _) hS)
  rw [hg] at this
  simpa using this
end
/-- append(v, y), as one operation -/
theorem app1_op {P : Program} {o : Oper} {a : Act} {w : World} {K : Act → World → Prop} {Q : Exit → Act → World → Prop} (s x : Operand) (t : TypeId)
    (ho : o.op = .call { callee := .builtin .append, args := #[s, x], argTypes := #[t, t] }) {E : TypeId} {z : Value} {by' : Nat} (ht : P.underlying t = some (.slice E))
    (hI : (P.info? E).map (fun i => (i.zero, i.size, i.bytes)) = some (some z, 1, by')) (hz : z.cells.size = 1) (hby : 0 < by')
    {B : Nat} {v : Value} {xs : List Value} (hO : Ow.Owns w B E v xs) (hs : a.eval s = v) {A : Option Addr} {m c : Nat} {ys : List Value} (hm : ys.length = m) (hx : a.eval x = .slice A m c) (hR : Ow.Rd w A ys) (h1 : ∀ u ∈ ys, u.oneCell' = true)
    (hb : (xs.length + m) * by' ≤ 140737488355328) (hB : B ≤ w.heap.size)
    (h : ∀ v' w', Ow.Owns w' B E v' (xs ++ ys) → w.grownBy w' v.ownBlock → (v'.ownBlock = v.ownBlock ∨ v'.ownBlock = some w.heap.size) → K (a.put o.dst v') w') : Oper.wp P o a w K Q := by
  obtain ⟨v', w', hr, h2, h3, h4⟩ := Ow.run_app (P := P) w t o.type ht hI hz hby hO hm hR h1 hb hB
  unfold Oper.wp execOp
  simp only [ho, resolve, invoke, builtin, Sem.run_bind, Sem.run_pure, Result.andThen_ok, List.map_toArray, List.map_cons, List.map_nil, hs, hx]
  rw [hr]
  exact h v' w' h2 h3 h4
/-- a whole row loaded -/
theorem run_row {P : Program} {o : Oper} {a : Act} {w : World} (ty : TypeId) (x : Operand) (ho : o.op = .load ty x) (g : Nat) (hx : a.eval x = .pointer (some ⟨g, 0, none⟩)) (t : TypeId) (cs : Array Value) (hB : Rg.Blk w g t cs) {d : TypeDesc}
    (hu : P.underlying ty = some d) (hd : (match d with | .struct _ | .array _ _ => true | _ => false) = true) (hi : (P.info? ty).map (·.size) = some cs.size) : (execOp a.eval o).run P w = .ok (.value (.agg cs)) w := by
  unfold execOp
  simp only [ho, hx, Instr.loadAt, Instr.sureAddr, Sem.run_bind, Sem.run_pure, Result.andThen_ok, run_loadVar_row w g t ty cs (0, 0) d hB hu hd hi]
end Go.Proofs.YtfaeigbfnjkojaaGreatDoor.RT
namespace Go.Proofs.YtfaeigbfnjkojaaGreatDoor.Sp
open Go.RowKit
/-- of what was there nothing has turned, save in the blocks s -/
structure Upd (w w' : World) (s : List Nat) : Prop where
  os : w'.os = w.os
  tape : w'.tape = w.tape
  output : w'.output = w.output
  size : w.heap.size ≤ w'.heap.size
  block : ∀ k, k < w.heap.size → k ∉ s → w'.heap[k]? = w.heap[k]?
theorem Upd.refl (w : World) (s : List Nat) : Upd w w s := ⟨rfl, rfl, rfl, Nat.le_refl _, fun _ _ _ => rfl⟩
theorem Upd.trans {a b c : World} {s t : List Nat} (h : Upd a b s) (k : Upd b c t) (ht : ∀ x ∈ t, x ∈ s ∨ a.heap.size ≤ x) : Upd a c s :=
  ⟨k.os.trans h.os, k.tape.trans h.tape, k.output.trans h.output, Nat.le_trans h.size k.size, fun x hx hs => by
    rw [k.block x (Nat.lt_of_lt_of_le hx h.size) (fun hxt => by rcases ht x hxt with h1 | h1; exact hs h1; omega)]
    exact h.block x hx hs⟩
theorem Upd.of_below {w w' : World} (h : Below w.heap.size w w') : Upd w w' [] := ⟨h.os, h.tape, h.output, h.size, fun k hk _ => h.block k hk⟩
theorem Upd.below {w w' : World} (h : Upd w w' []) : Below w.heap.size w w' := ⟨h.os, h.tape, h.output, h.size, fun k hk => h.block k hk (by simp)⟩
theorem Upd.of_grown {w w' : World} {row : Option Nat} (h : w.grownBy w' row) : Upd w w' row.toList :=
  ⟨h.os, h.tape, h.output, h.size, fun k hk hs => h.block k hk (fun e => hs (by rw [← e]; simp))⟩
theorem Upd.of_grown1 {w w' : World} {b : Nat} (h : w.grownBy w' (some b)) : Upd w w' [b] := Upd.of_grown h
theorem Upd.of_grown0 {w w' : World} (h : w.grownBy w' none) : Upd w w' [] := Upd.of_grown h
theorem Upd.grown1 {w w' : World} {b : Nat} (h : Upd w w' [b]) : w.grownBy w' (some b) := ⟨h.os, h.tape, h.output, h.size, fun k hk hs => h.block k hk (by intro e; exact hs (by simpa using e))⟩
/-- a piece: what it says of the world, and the blocks that it stands in -/
structure Asn where
  at_ : World → List Nat → Prop
  nd : ∀ {w s}, at_ w s → s.Nodup
  lt : ∀ {w s}, at_ w s → ∀ k ∈ s, k < w.heap.size
  keep : ∀ {w w' : World} {s}, at_ w s → (∀ k ∈ s, w'.heap[k]? = w.heap[k]?) → at_ w' s
def Holds (w : World) : List Asn → List (List Nat) → Prop
  | [], [] => True
  | P :: L, s :: ss => P.at_ w s ∧ Holds w L ss
  | _, _ => False
theorem Holds.get {w : World} : ∀ {L : List Asn} {ss : List (List Nat)}, Holds w L ss → ∀ {i : Nat} {P : Asn}, L[i]? = some P → ∃ s, ss[i]? = some s ∧ P.at_ w s
  | [], [], _, i, P, hi => by simp at hi
  | P :: L, s :: ss, h, 0, Q, hi => by simp at hi; subst hi; exact ⟨s, rfl, h.1⟩
  | P :: L, s :: ss, h, i + 1, Q, hi => by obtain ⟨t, ht, hQ⟩ := Holds.get h.2 (i := i) (by simpa using hi); exact ⟨t, by simpa using ht, hQ⟩
  | [], _ :: _, h, _, _, _ => by cases h
  | _ :: _, [], h, _, _, _ => by cases h
theorem Holds.keep {w w' : World} : ∀ {L : List Asn} {ss : List (List Nat)}, Holds w L ss → (∀ k ∈ ss.flatten, w'.heap[k]? = w.heap[k]?) → Holds w' L ss
  | [], [], _, _ => trivial
  | P :: L, s :: ss, h, hk => ⟨P.keep h.1 (fun k hs => hk k (by simp [hs])), Holds.keep h.2 (fun k hs => hk k (by rw [List.flatten_cons]; exact List.mem_append_right _ hs))⟩
  | [], _ :: _, h, _ => by cases h
  | _ :: _, [], h, _ => by cases h
theorem Holds.lt {w : World} : ∀ {L : List Asn} {ss : List (List Nat)}, Holds w L ss → ∀ k ∈ ss.flatten, k < w.heap.size
  | [], [], _, k, hk => by simp at hk
  | P :: L, s :: ss, h, k, hk => by
    rw [List.flatten_cons, List.mem_append] at hk
    rcases hk with hk | hk
    · exact P.lt h.1 k hk
    · exact Holds.lt h.2 k hk
  | [], _ :: _, h, _, _ => by cases h
  | _ :: _, [], h, _, _ => by cases h
theorem Holds.append {w : World} : ∀ {L M : List Asn} {ss tt : List (List Nat)}, Holds w L ss → Holds w M tt → Holds w (L ++ M) (ss ++ tt)
  | [], _, [], _, _, h => h
  | _ :: _, _, _ :: _, _, h, k => ⟨h.1, Holds.append h.2 k⟩
  | [], _, _ :: _, _, h, _ => by cases h
  | _ :: _, _, [], _, h, _ => by cases h
theorem Holds.set {w w' : World} {Q : Asn} {t : List Nat} (hQ : Q.at_ w' t) : ∀ {L : List Asn} {ss : List (List Nat)}, Holds w L ss → ∀ {i : Nat} {s : List Nat}, ss[i]? = some s → ss.flatten.Nodup → (∀ k ∈ ss.flatten, k ∉ s → w'.heap[k]? = w.heap[k]?) → Holds w' (L.set i Q) (ss.set i t)
  | [], [], _, i, s, hi, _, _ => by simp at hi
  | P :: L, s :: ss, h, 0, s', hi, hn, hk => by
    simp at hi; subst hi
    rw [List.flatten_cons, List.nodup_append] at hn
    exact ⟨hQ, Holds.keep h.2 (fun k hs => hk k (by rw [List.flatten_cons]; exact List.mem_append_right _ hs) (fun h1 => hn.2.2 k h1 k hs rfl))⟩
  | P :: L, s :: ss, h, i + 1, s', hi, hn, hk => by
    rw [List.flatten_cons, List.nodup_append] at hn
    have hi' : ss[i]? = some s' := by simpa using hi
    refine ⟨P.keep h.1 (fun k hs => hk k (by simp [hs]) (fun h1 => hn.2.2 k hs k ?_ rfl)), Holds.set hQ h.2 hi' hn.2.1 (fun k hs => hk k (by rw [List.flatten_cons]; exact List.mem_append_right _ hs))⟩
    exact List.mem_flatten.2 ⟨s', List.mem_of_getElem? hi', h1⟩
  | [], _ :: _, h, _, _, _, _, _ => by cases h
  | _ :: _, [], h, _, _, _, _, _ => by cases h
theorem flat_set_mem {ss : List (List Nat)} {i : Nat} {t : List Nat} {k : Nat} (h : k ∈ (ss.set i t).flatten) : k ∈ t ∨ k ∈ ss.flatten := by
  obtain ⟨u, hu, hk⟩ := List.mem_flatten.1 h
  rcases List.mem_or_eq_of_mem_set hu with h1 | h1
  · exact .inr (List.mem_flatten.2 ⟨u, h1, hk⟩)
  · subst h1; exact .inl hk
theorem flat_set_nodup {t : List Nat} (ht : t.Nodup) : ∀ {ss : List (List Nat)} {i : Nat} {s : List Nat}, ss[i]? = some s → ss.flatten.Nodup → (∀ k ∈ t, k ∈ s ∨ k ∉ ss.flatten) → (ss.set i t).flatten.Nodup
  | [], i, s, hi, _, _ => by simp at hi
  | s :: ss, 0, s', hi, hn, hk => by
    simp at hi; subst hi
    rw [List.flatten_cons, List.nodup_append] at hn
    simp only [List.set_cons_zero, List.flatten_cons]
    rw [List.nodup_append]
    refine ⟨ht, hn.2.1, fun a ha b hb e => ?_⟩
    subst e
    rcases hk a ha with h1 | h1
    · exact hn.2.2 a h1 a hb rfl
    · exact h1 (by rw [List.flatten_cons]; exact List.mem_append_right _ hb)
  | s :: ss, i + 1, s', hi, hn, hk => by
    have hi' : ss[i]? = some s' := by simpa using hi
    rw [List.flatten_cons, List.nodup_append] at hn
    simp only [List.set_cons_succ, List.flatten_cons]
    rw [List.nodup_append]
    refine ⟨hn.1, flat_set_nodup ht hi' hn.2.1 (fun k hkt => ?_), fun a ha b hb e => ?_⟩
    · rcases hk k hkt with h1 | h1
      · exact .inl h1
      · exact .inr (fun h2 => h1 (by rw [List.flatten_cons]; exact List.mem_append_right _ h2))
    · subst e
      rcases flat_set_mem hb with h1 | h1
      · rcases hk a h1 with h2 | h2
        · exact hn.2.2 a ha a (List.mem_flatten.2 ⟨s', List.mem_of_getElem? hi', h2⟩) rfl
        · exact h2 (by rw [List.flatten_cons]; exact List.mem_append_left _ ha)
      · exact hn.2.2 a ha a h1 rfl
/-- from w0 on only the blocks s0 and new ones were written; w holds the pieces L, apart, in such blocks -/
structure Mem (w0 : World) (s0 : List Nat) (w : World) (L : List Asn) : Prop where
  upd : Upd w0 w s0
  ex : ∃ ss, Holds w L ss ∧ ss.flatten.Nodup ∧ ∀ k ∈ ss.flatten, k ∈ s0 ∨ w0.heap.size ≤ k
theorem Mem.start (w : World) : Mem w [] w [] := ⟨Upd.refl w [], [], trivial, by simp, by simp⟩
theorem Mem.enter {w : World} {s : List Nat} {P : Asn} (h : P.at_ w s) : Mem w s w [P] := ⟨Upd.refl w s, [s], ⟨h, trivial⟩, by simpa using P.nd h, fun k hk => .inl (by simpa using hk)⟩
theorem Mem.bel {w0 w : World} {L : List Asn} (h : Mem w0 [] w L) : Below w0.heap.size w0 w := h.upd.below
theorem Mem.size {w0 w : World} {s0 : List Nat} {L : List Asn} (h : Mem w0 s0 w L) : w0.heap.size ≤ w.heap.size := h.upd.size
theorem Mem.of_below {w0 w : World} (h : Below w0.heap.size w0 w) : Mem w0 [] w [] := ⟨Upd.of_below h, [], trivial, by simp, by simp⟩
theorem Mem.get {w0 w : World} {s0 : List Nat} {L : List Asn} (h : Mem w0 s0 w L) (i : Nat) {P : Asn} (hi : L[i]? = some P) : ∃ s, P.at_ w s ∧ ∀ k ∈ s, k ∈ s0 ∨ w0.heap.size ≤ k := by
  obtain ⟨ss, hH, _, hs⟩ := h.ex
  obtain ⟨s, hsi, hP⟩ := hH.get hi
  exact ⟨s, hP, fun k hk => hs k (List.mem_flatten.2 ⟨s, List.mem_of_getElem? hsi, hk⟩)⟩
theorem Mem.below {w0 w w' : World} {s0 : List Nat} {L : List Asn} (h : Mem w0 s0 w L) (hb : Below w.heap.size w w') : Mem w0 s0 w' L := by
  obtain ⟨ss, hH, hn, hs⟩ := h.ex
  exact ⟨h.upd.trans (Upd.of_below hb) (by simp), ss, hH.keep (fun k hk => hb.block k (hH.lt k hk)), hn, hs⟩
/-- a call that made pieces of its own -/
theorem Mem.call0 {w0 w w' : World} {s0 : List Nat} {L N : List Asn} (h : Mem w0 s0 w L) (hc : Mem w [] w' N) : Mem w0 s0 w' (L ++ N) := by
  obtain ⟨ss, hH, hn, hs⟩ := h.ex
  obtain ⟨tt, hT, hm, ht⟩ := hc.ex
  have hlt := hH.lt
  have hge : ∀ k ∈ tt.flatten, w.heap.size ≤ k := fun k hk => by
    rcases ht k hk with h1 | h1
    · simp at h1
    · exact h1
  refine ⟨h.upd.trans hc.upd (by simp), ss ++ tt, (hH.keep (fun k hk => hc.bel.block k (hlt k hk))).append hT, ?_, ?_⟩
  · rw [List.flatten_append, List.nodup_append]
    exact ⟨hn, hm, fun a ha b hb e => by subst e; have := hlt a ha; have := hge a hb; omega⟩
  · intro k hk
    rw [List.flatten_append, List.mem_append] at hk
    rcases hk with hk | hk
    · exact hs k hk
    · exact .inr (Nat.le_trans h.size (hge k hk))
theorem flat_set_out {t : List Nat} {k : Nat} : ∀ {ss : List (List Nat)} {i : Nat} {s : List Nat}, ss[i]? = some s → ss.flatten.Nodup → k ∈ (ss.set i t).flatten → k ∈ t ∨ (k ∈ ss.flatten ∧ k ∉ s)
  | [], i, s, hi, _, _ => by simp at hi
  | s :: ss, 0, s', hi, hn, hk => by
    simp at hi; subst hi
    rw [List.flatten_cons, List.nodup_append] at hn
    rw [List.set_cons_zero, List.flatten_cons, List.mem_append] at hk
    rcases hk with h1 | h1
    · exact .inl h1
    · exact .inr ⟨by rw [List.flatten_cons]; exact List.mem_append_right _ h1, fun h2 => hn.2.2 k h2 k h1 rfl⟩
  | s :: ss, i + 1, s', hi, hn, hk => by
    have hi' : ss[i]? = some s' := by simpa using hi
    rw [List.flatten_cons, List.nodup_append] at hn
    rw [List.set_cons_succ, List.flatten_cons, List.mem_append] at hk
    rcases hk with h1 | h1
    · exact .inr ⟨by rw [List.flatten_cons]; exact List.mem_append_left _ h1, fun h2 => hn.2.2 k h1 k (List.mem_flatten.2 ⟨s', List.mem_of_getElem? hi', h2⟩) rfl⟩
    · rcases flat_set_out hi' hn.2.1 h1 with h2 | h2
      · exact .inl h2
      · exact .inr ⟨by rw [List.flatten_cons]; exact List.mem_append_right _ h2.1, h2.2⟩
/-- one piece, handed to what writes in its blocks alone -/
theorem Mem.at_ {w0 w : World} {s0 : List Nat} {L : List Asn} (h : Mem w0 s0 w L) (i : Nat) {P : Asn} (hi : L[i]? = some P) :
    ∃ s, P.at_ w s ∧ ∀ {w' : World} {Q : Asn} {N : List Asn}, Mem w s w' (Q :: N) → Mem w0 s0 w' (L.set i Q ++ N) := by
  obtain ⟨ss, hH, hn, hs⟩ := h.ex
  obtain ⟨s, hsi, hP⟩ := hH.get hi
  have hlt := hH.lt
  have hmem : ∀ k ∈ s, k ∈ ss.flatten := fun k hk => List.mem_flatten.2 ⟨s, List.mem_of_getElem? hsi, hk⟩
  refine ⟨s, hP, fun {w' Q N} hc => ?_⟩
  obtain ⟨tt, hT, hm, ht⟩ := hc.ex
  cases tt with
  | nil => cases hT
  | cons t tt =>
    rw [List.flatten_cons, List.nodup_append] at hm
    have htin : ∀ k ∈ t, k ∈ s ∨ w.heap.size ≤ k := fun k hk => ht k (by rw [List.flatten_cons]; exact List.mem_append_left _ hk)
    have httin : ∀ k ∈ tt.flatten, k ∈ s ∨ w.heap.size ≤ k := fun k hk => ht k (by rw [List.flatten_cons]; exact List.mem_append_right _ hk)
    refine ⟨h.upd.trans hc.upd (fun k hk => hs k (hmem k hk)), ss.set i t ++ tt, (hH.set hT.1 hsi hn (fun k hk hns => hc.upd.block k (hlt k hk) hns)).append hT.2, ?_, ?_⟩
    · rw [List.flatten_append, List.nodup_append]
      refine ⟨flat_set_nodup hm.1 hsi hn (fun k hk => ?_), hm.2.1, fun a ha b hb e => ?_⟩
      · rcases htin k hk with h1 | h1
        · exact .inl h1
        · exact .inr (fun h2 => by have := hlt k h2; omega)
      · subst e
        rcases flat_set_out hsi hn ha with h1 | h1
        · exact hm.2.2 a h1 a hb rfl
        · rcases httin a hb with h2 | h2
          · exact h1.2 h2
          · have := hlt a h1.1; omega
    · intro k hk
      rw [List.flatten_append, List.mem_append] at hk
      have up : k ∈ s ∨ w.heap.size ≤ k → k ∈ s0 ∨ w0.heap.size ≤ k := fun h1 => by
        rcases h1 with h1 | h1
        · exact hs k (hmem k h1)
        · exact .inr (Nat.le_trans h.size h1)
      rcases hk with hk | hk
      · rcases flat_set_out hsi hn hk with h1 | h1
        · exact up (htin k h1)
        · exact hs k h1.1
      · exact up (httin k hk)
theorem Mem.set1 {w0 w : World} {s0 : List Nat} {L : List Asn} (h : Mem w0 s0 w L) (i : Nat) {P : Asn} (hi : L[i]? = some P) :
    ∃ s, P.at_ w s ∧ ∀ {w' : World} {Q : Asn}, Mem w s w' [Q] → Mem w0 s0 w' (L.set i Q) := by
  obtain ⟨s, hP, hK⟩ := h.at_ i hi
  exact ⟨s, hP, fun {w' Q} hc => by simpa using hK hc⟩
/-- a piece is let go -/
theorem Mem.drop {w0 w : World} {s0 : List Nat} {P : Asn} {L : List Asn} (h : Mem w0 s0 w (P :: L)) : Mem w0 s0 w L := by
  obtain ⟨ss, hH, hn, hs⟩ := h.ex
  cases ss with
  | nil => cases hH
  | cons s ss =>
    rw [List.flatten_cons, List.nodup_append] at hn
    exact ⟨h.upd, ss, hH.2, hn.2.1, fun k hk => hs k (by rw [List.flatten_cons]; exact List.mem_append_right _ hk)⟩
theorem Mem.nil {w0 w : World} {s0 : List Nat} {L : List Asn} (h : Mem w0 s0 w L) : Mem w0 s0 w [] := ⟨h.upd, [], trivial, by simp, by simp⟩
theorem Holds.perm {w : World} {L M : List Asn} (hp : L.Perm M) : ∀ {ss : List (List Nat)}, Holds w L ss → ∃ tt, Holds w M tt ∧ ss.Perm tt := by
  induction hp with
  | nil => intro ss h; exact ⟨ss, h, List.Perm.refl _⟩
  | cons x _ ih =>
    intro ss h
    cases ss with
    | nil => cases h
    | cons s ss => obtain ⟨tt, h1, h2⟩ := ih h.2; exact ⟨s :: tt, ⟨h.1, h1⟩, h2.cons s⟩
  | swap x y l =>
    intro ss h
    match ss, h with
    | a :: b :: ss, h => exact ⟨b :: a :: ss, ⟨h.2.1, h.1, h.2.2⟩, List.Perm.swap b a ss⟩
  | trans _ _ ih1 ih2 =>
    intro ss h
    obtain ⟨tt, h1, h2⟩ := ih1 h
    obtain ⟨uu, h3, h4⟩ := ih2 h1
    exact ⟨uu, h3, h2.trans h4⟩
theorem flat_perm {a b : List (List Nat)} (h : a.Perm b) : a.flatten.Perm b.flatten := h.flatten
theorem Mem.perm {w0 w : World} {s0 : List Nat} {L M : List Asn} (h : Mem w0 s0 w L) (hp : L.Perm M) : Mem w0 s0 w M := by
  obtain ⟨ss, hH, hn, hs⟩ := h.ex
  obtain ⟨tt, hT, hp2⟩ := hH.perm hp
  have hf := flat_perm hp2
  exact ⟨h.upd, tt, hT, hf.nodup_iff.1 hn, fun k hk => hs k (hf.mem_iff.2 hk)⟩
/-- two pieces as one -/
def star (P Q : Asn) : Asn where
  at_ w s := ∃ a b, s = a ++ b ∧ P.at_ w a ∧ Q.at_ w b ∧ (a ++ b).Nodup
  nd := by rintro w s ⟨a, b, rfl, _, _, h⟩; exact h
  lt := by
    rintro w s ⟨a, b, rfl, hP, hQ, _⟩ k hk
    rcases List.mem_append.1 hk with h | h
    · exact P.lt hP k h
    · exact Q.lt hQ k h
  keep := by
    rintro w w' s ⟨a, b, rfl, hP, hQ, hn⟩ hk
    exact ⟨a, b, rfl, P.keep hP (fun k h => hk k (List.mem_append_left _ h)), Q.keep hQ (fun k h => hk k (List.mem_append_right _ h)), hn⟩
/-- a piece under a quantifier -/
def ex {α : Type} (P : α → Asn) : Asn where
  at_ w s := ∃ x, (P x).at_ w s
  nd := by rintro w s ⟨x, h⟩; exact (P x).nd h
  lt := by rintro w s ⟨x, h⟩; exact (P x).lt h
  keep := by rintro w w' s ⟨x, h⟩ hk; exact ⟨x, (P x).keep h hk⟩
/-- a piece with a plain condition -/
def wh (p : Prop) (P : Asn) : Asn where
  at_ w s := p ∧ P.at_ w s
  nd := by rintro w s ⟨_, h⟩; exact P.nd h
  lt := by rintro w s ⟨_, h⟩; exact P.lt h
  keep := by rintro w w' s ⟨hp, h⟩ hk; exact ⟨hp, P.keep h hk⟩
def emp : Asn where
  at_ _ s := s = []
  nd := by rintro _ _ rfl; simp
  lt := by rintro _ _ rfl; simp
  keep := by rintro _ _ _ rfl _; rfl
/-- block b is the row cs -/
def blk (b T : Nat) (cs : Array Value) : Asn where
  at_ w s := s = [b] ∧ Rg.Blk w b T cs
  nd := by rintro _ _ ⟨rfl, _⟩; simp
  lt := by rintro _ _ ⟨rfl, h⟩ k hk; simp at hk; subst hk; exact h.lt
  keep := by rintro w w' _ ⟨rfl, h⟩ hk; exact ⟨rfl, by unfold Rg.Blk; rw [hk b (by simp)]; exact h⟩
theorem ownsRow_keep {w w' : World} {B : Nat} {E size : Nat} {v : Value} {n : Nat} {xs : List Value} (h : w.ownsRow B E size v n xs) (hk : ∀ k, v.ownBlock = some k → w'.heap[k]? = w.heap[k]?) : w'.ownsRow B E size v n xs := by
  refine ⟨h.1, ?_⟩
  rcases h.2 with h0 | ⟨g, cap, cur, hv, hb, hg, rest⟩
  · exact .inl h0
  · exact .inr ⟨g, cap, cur, hv, hb, (hk g (by rw [hv]; rfl)).trans hg, rest⟩
/-- v is a slice of n elements of size cells, xs, in a block of its own -/
def ownR (E size : Nat) (v : Value) (n : Nat) (xs : List Value) : Asn where
  at_ w s := s = v.ownBlock.toList ∧ w.ownsRow 0 E size v n xs
  nd := by rintro _ _ ⟨rfl, _⟩; cases v.ownBlock <;> simp
  lt := by rintro w _ ⟨rfl, h⟩ k hk; exact (World.ownsRow.lt h k (by simpa using hk)).2
  keep := by rintro w w' _ ⟨rfl, h⟩ hk; exact ⟨rfl, ownsRow_keep h (fun k hk' => hk k (by rw [hk']; simp))⟩
/-- v is a slice that holds xs, in a block of its own -/
def own (E : TypeId) (v : Value) (xs : List Value) : Asn := ownR E 1 v xs.length xs
theorem own_mk {w : World} {B : Nat} {E : TypeId} {v : Value} {xs : List Value} (h : Ow.Owns w B E v xs) : (own E v xs).at_ w v.ownBlock.toList := ⟨rfl, ⟨h.1, h.2.imp id (fun ⟨g, cap, cur, hv, hb, rest⟩ => ⟨g, cap, cur, hv, Nat.zero_le _, rest⟩)⟩⟩
theorem own_nil (w : World) (E : TypeId) : (own E (.slice none 0 0) []).at_ w [] := own_mk (Ow.Owns.nil w 0 E)
section
variable {w0 w w' : World} {s0 : List Nat} {L : List Asn}
theorem Mem.blk (h : Mem w0 s0 w L) (i : Nat) {b T : Nat} {cs : Array Value} (hi : L[i]? = some (blk b T cs)) : Rg.Blk w b T cs := by
  obtain ⟨s, hP, _⟩ := h.get i hi
  exact hP.2
theorem Mem.own (h : Mem w0 s0 w L) (i : Nat) {E : Nat} {v : Value} {xs : List Value} (hi : L[i]? = some (own E v xs)) : Ow.Owns w 0 E v xs := by
  obtain ⟨s, hP, _⟩ := h.get i hi
  exact hP.2
theorem Mem.blkNe (h : Mem w0 [] w L) (i : Nat) {b T : Nat} {cs : Array Value} (hi : L[i]? = some (Sp.blk b T cs)) : w0.heap.size ≤ b := by
  obtain ⟨s, hP, hs⟩ := h.get i hi
  have := hs b (by rw [hP.1]; simp)
  simpa using this
/-- a new block -/
theorem Mem.alloc (h : Mem w0 s0 w L) (cs : Array Value) (T : Nat) : Mem w0 s0 (w.alloc (.cells cs T)) (L ++ [Sp.blk w.heap.size T cs]) :=
  h.call0 ⟨Upd.of_below ((Below.refl _ _).alloc (Nat.le_refl _) _), [[w.heap.size]], ⟨⟨rfl, Rg.Blk.new w _ _⟩, trivial⟩, by simp, by simp⟩
theorem Mem.allocO (h : Mem w0 s0 w L) (o : Obj) : Mem w0 s0 (w.alloc o) L := h.below ((Below.refl _ _).alloc (Nat.le_refl _) _)
theorem Mem.drew (h : Mem w0 s0 w L) : Mem w0 s0 w.drew L := h.below (Below.drew (Below.refl _ _))
/-- an empty slice -/
theorem Mem.nilOwn (h : Mem w0 s0 w L) (E : Nat) : Mem w0 s0 w (L ++ [Sp.own E (.slice none 0 0) []]) :=
  h.call0 ⟨Upd.refl _ _, [[]], ⟨own_nil w E, trivial⟩, by simp, by simp⟩
/-- a slice that was made -/
theorem Mem.newOwn (h : Mem w0 s0 w L) {w' : World} {E : Nat} {v : Value} {xs : List Value} (ho : Ow.Owns w' w.heap.size E v xs) (hb : Below w.heap.size w w') : Mem w0 s0 w' (L ++ [Sp.own E v xs]) :=
  h.call0 ⟨Upd.of_below hb, [v.ownBlock.toList], ⟨own_mk ho, trivial⟩, by cases v.ownBlock <;> simp, fun k hk => .inr (ho.lt k (by simpa using hk)).1⟩
/-- block b was written -/
theorem Mem.store (h : Mem w0 s0 w L) (i : Nat) {b T T' : Nat} {cs cs' : Array Value} (hi : L[i]? = some (Sp.blk b T cs)) (hb : Rg.Blk w' b T' cs') (hg : w.grownBy w' (some b)) : Mem w0 s0 w' (L.set i (Sp.blk b T' cs')) := by
  obtain ⟨s, ⟨rfl, _⟩, hK⟩ := h.set1 i hi
  exact hK ⟨Upd.of_grown1 hg, [[b]], ⟨⟨rfl, hb⟩, trivial⟩, by simp, by simp⟩
/-- a slice was written, or carried over into a new block -/
theorem Mem.app (h : Mem w0 s0 w L) (i : Nat) {E : Nat} {v v' : Value} {xs ys : List Value} (hi : L[i]? = some (Sp.own E v xs)) (ho : Ow.Owns w' 0 E v' ys) (hg : w.grownBy w' v.ownBlock) (hat : v'.ownBlock = v.ownBlock ∨ ∃ k, v'.ownBlock = some k ∧ w.heap.size ≤ k) : Mem w0 s0 w' (L.set i (Sp.own E v' ys)) := by
  obtain ⟨s, ⟨rfl, _⟩, hK⟩ := h.set1 i hi
  refine hK ⟨Upd.of_grown hg, [v'.ownBlock.toList], ⟨own_mk ho, trivial⟩, by cases v'.ownBlock <;> simp, fun k hk => ?_⟩
  rcases hat with e | ⟨k', e, hk'⟩
  · exact .inl (by rw [← e]; simpa using hk)
  · exact .inr (by rw [e] at hk; simp at hk; omega)
/-- what was there at the start reads as it did -/
theorem Mem.rd (h : Mem w0 [] w L) {A : Option Addr} {xs : List Value} (hR : Ow.Rd w0 A xs) : Ow.Rd w A xs := hR.below h.bel
end
/-- many pieces as one -/
def many (M : List Asn) : Asn where
  at_ w s := ∃ ss, s = ss.flatten ∧ s.Nodup ∧ Holds w M ss
  nd := by rintro w s ⟨ss, rfl, hn, _⟩; exact hn
  lt := by rintro w s ⟨ss, rfl, _, h⟩; exact h.lt
  keep := by rintro w w' s ⟨ss, rfl, hn, h⟩ hk; exact ⟨ss, rfl, hn, h.keep hk⟩
theorem Mem.upd0 {w0 w w' : World} {s0 : List Nat} {L : List Asn} (h : Mem w0 s0 w L) (hu : Upd w w' []) : Mem w0 s0 w' L := h.below hu.below
theorem many_nil (w : World) : (many []).at_ w [] := ⟨[], rfl, by simp, trivial⟩
/-- one more of many -/
theorem Mem.absorb {w0 w : World} {s0 : List Nat} {L M : List Asn} {P : Asn} (h : Mem w0 s0 w (L ++ [many M, P])) : Mem w0 s0 w (L ++ [many (M ++ [P])]) := by
  obtain ⟨ss, hH, hn, hs⟩ := (h.perm (M := [many M, P] ++ L) List.perm_append_comm).ex
  match ss, hH with
  | a :: b :: ss, ⟨⟨aa, ha1, ha2, ha3⟩, hb, hL⟩ =>
    refine Mem.perm (L := [many (M ++ [P])] ++ L) ⟨h.upd, (a ++ b) :: ss, ⟨⟨aa ++ [b], by subst ha1; simp, ?_, ha3.append (M := [P]) (tt := [b]) ⟨hb, trivial⟩⟩, hL⟩, ?_, ?_⟩ List.perm_append_comm
    · rw [List.flatten_cons, List.flatten_cons, ← List.append_assoc, List.nodup_append] at hn
      exact hn.1
    · rw [List.flatten_cons, List.flatten_cons, ← List.append_assoc] at hn
      rw [List.flatten_cons]; exact hn
    · intro k hk
      refine hs k ?_
      rw [List.flatten_cons, List.flatten_cons, ← List.append_assoc]
      rw [List.flatten_cons] at hk; exact hk
theorem Mem.manyNil {w0 w : World} {s0 : List Nat} {L : List Asn} (h : Mem w0 s0 w L) : Mem w0 s0 w (L ++ [many []]) :=
  h.call0 ⟨Upd.refl _ _, [[]], ⟨many_nil w, trivial⟩, by simp, by simp⟩
theorem Mem.manyGet {w0 w : World} {s0 : List Nat} {L M : List Asn} (h : Mem w0 s0 w L) (i : Nat) (hi : L[i]? = some (many M)) {j : Nat} {P : Asn} (hj : M[j]? = some P) : ∃ s, P.at_ w s := by
  obtain ⟨s, ⟨ss, _, _, hM⟩, _⟩ := h.get i hi
  obtain ⟨t, _, ht⟩ := hM.get hj
  exact ⟨t, ht⟩
/-- the pieces, seen from a world that has kept their blocks -/
theorem Mem.seen {w0 w V : World} {s0 : List Nat} {L : List Asn} (h : Mem w0 s0 w L) (hV : ∀ k, k < w.heap.size → (k ∈ s0 ∨ w0.heap.size ≤ k) → V.heap[k]? = w.heap[k]?) : ∃ ss, Holds V L ss := by
  obtain ⟨ss, hH, _, hs⟩ := h.ex
  exact ⟨ss, hH.keep (fun k hk => hV k (hH.lt k hk) (hs k hk))⟩
theorem Holds.owns {w : World} {L : List Asn} {ss : List (List Nat)} (h : Holds w L ss) (i : Nat) {E : Nat} {v : Value} {xs : List Value} (hi : L[i]? = some (own E v xs)) : Ow.Owns w 0 E v xs := by
  obtain ⟨s, _, hP⟩ := h.get hi
  exact hP.2
theorem Holds.many {w : World} {L M : List Asn} {ss : List (List Nat)} (h : Holds w L ss) (i : Nat) (hi : L[i]? = some (Sp.many M)) : ∃ tt, Holds w M tt := by
  obtain ⟨s, _, ⟨tt, _, _, hM⟩⟩ := h.get hi
  exact ⟨tt, hM⟩
/-- slices below B read as they did in a world that kept what lay below B -/
theorem rd_keep {w V : World} {A : Option Addr} {xs : List Value} (h : Ow.Rd w A xs) (hs : w.heap.size ≤ V.heap.size) (hV : ∀ k, k < w.heap.size → V.heap[k]? = w.heap[k]?) : Ow.Rd V A xs := fun j x hx => by
  obtain ⟨b, o, hA, hl, hc⟩ := h j x hx
  exact ⟨b, o, hA, Nat.lt_of_lt_of_le hl hs, (World.cell?_of_block (w := w) (hV b hl)).trans hc⟩
/-- V is as w, save in the blocks from a to b -/
structure Out (a b : Nat) (w V : World) : Prop where
  size : w.heap.size ≤ V.heap.size
  keep : ∀ k, k < w.heap.size → (k < a ∨ b ≤ k) → V.heap[k]? = w.heap[k]?
theorem Out.refl (a b : Nat) (w : World) : Out a b w w := ⟨Nat.le_refl _, fun _ _ _ => rfl⟩
theorem Out.below {a b : Nat} {w V V' : World} (h : Out a b w V) (hb : Below V.heap.size V V') : Out a b w V' :=
  ⟨Nat.le_trans h.size hb.size, fun k hk ho => (hb.block k (Nat.lt_of_lt_of_le hk h.size)).trans (h.keep k hk ho)⟩
theorem Out.grown {a b g : Nat} {w V V' : World} (h : Out a b w V) (hb : V.grownBy V' (some g)) (hg : a ≤ g) (hg2 : g < b) : Out a b w V' :=
  ⟨Nat.le_trans h.size hb.size, fun k hk ho => (hb.block k (Nat.lt_of_lt_of_le hk h.size) (fun e => by injection e with e; omega)).trans (h.keep k hk ho)⟩
end Go.Proofs.YtfaeigbfnjkojaaGreatDoor.Sp
