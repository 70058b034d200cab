/- GenA, Mini, Shelf, KfA, Idx, KfB: what the claims need of them. -/
import Derived.StillTail
import Derived.Deep.QuietTactic
import Derived.BigQuiet
import Derived.WalkKit
import Derived.Lib.ConvBytes
import Derived.Lib.UnsafeStr
import Derived.Laws.BytesArg
import Derived.Maps.AppendAt
import Derived.Deep.AppendLies
import Derived.Lib.Hide
import Derived.SliceStrings
import Derived.WideShapes
import Derived.OpenShut
import Derived.ChangeOld
import Derived.Carry
import Derived.Lib.SmallJoins
import Derived.OrdersHeld
import Derived.Below
import Derived.Maps.RangeWalk
import Derived.Shelf.Strings.Builder1
import Derived.Shelf.Strings.Builder2
import Derived.Shelf.Strings.OnBuilder
import Derived.Shelf.Strings.BuilderF
import Derived.Shelf.Strings.BuilderK
import Derived.Shelf.Strings.Builder2Cap
import Derived.Shelf.Strings.Prefix
import Derived.Shelf.Bits.Mul64
import Derived.Shelf.Strings.Repeat
import Derived.Shelf.Strings.BuilderCap
import Derived.Test.YtfpcelmekfdafaaGreatDoorProg
import Derived.Laws.BitsAllLaws
import Derived.Test.YtfpcelmekfdafaaGreatDoorRows
import Derived.Says
import Derived.Laws.Externs
import Derived.Shelf.Spec.BitsCarry
import Derived.DeepKeys
set_option linter.unusedVariables false
set_option linter.unusedSimpArgs false
set_option maxRecDepth 20000
set_option maxHeartbeats 16000000
namespace Go.Proofs.YtfpcelmekfdafaaGreatDoor.Rg
open Go.RowKit
section
variable {P : Program} {ops : Array Oper} {md : Region.Mode} {C : World → Prop}
/-- whatever order is picked, f operations long, all of them of the head; L behind them -/
def headQ (P : Program) (md : Region.Mode) (ops : Array Oper) (C : World → Prop) (n : Nat) (L : Array Bool → Act → Prop) : Nat → Array Bool → Act → Prop
 | 0, listed, a => L listed a
 | f + 1, listed, a => Region.ready md ops listed ≠ [] ∧ ∀ i ∈ Region.ready md ops listed, i < n ∧ qOp P ops C i (headQ P md ops C n L f (listed.setIfInBounds i true)) a
theorem any_of_headQ {n g : Nat} {L : Array Bool → Act → Prop} {Q' : Exit → Act → World → Prop}
 (hL : ∀ listed a w, C w → L listed a → wpAny P md ops Q' g listed a w) :
 ∀ (f : Nat) (listed : Array Bool) (a : Act) (w : World), C w → headQ P md ops C n L f listed a → wpAny P md ops Q' (f + g) listed a w
 | 0, listed, a, w, hw, h => by rw [Nat.zero_add]; exact hL _ _ _ hw h
 | f + 1, listed, a, w, hw, h => by
  rw [show f + 1 + g = (f + g) + 1 by omega]
  exact ⟨fun h0 => absurd h0 h.1, fun i hi => wpOp_of_qOp hw (fun a' w' hw' h' => any_of_headQ hL f _ a' w' hw' h') (h.2 i hi).2⟩
theorem headQ_first {n i : Nat} {oi : Oper} {v : Value} {L : Array Bool → Act → Prop} (hi : ops[i]? = some oi) (hsel : ∀ (j : Nat) (o : Oper) cs b, ops[j]? = some o → o.op ≠ .select cs b)
 (hs : Region.sinkB md ops n = true) (hc : Region.chainB md ops n = true) (hn : n < ops.size) (hin : i < n)
 (hdone : ∀ listed a, L listed a → ∀ j ∈ Region.ready md ops listed, n ≤ j) :
 ∀ (f : Nat) (listed : Array Bool) (a : Act), HeadInv md ops n listed →
  (∀ j oj, ops[j]? = some oj → j ≠ i → listed.getD j true = false → (∀ e ∈ oj.after, Region.binds md e = true → e.on ≠ i) → oi.apart ops oj = true) →
  i ∈ Region.ready md ops listed → YieldsIn P ops C oi v a →
  headQ P md ops C n L f (listed.setIfInBounds i true) (a.put oi.dst v) → headQ P md ops C n L (f + 1) listed a := by
 intro f
 induction f with
 | zero =>
  intro listed a inv _ hr hy H
  have hun := (mem_ready.1 hr).1
  refine ⟨fun h => (by rw [h] at hr; cases hr), fun j hj => ?_⟩
  have hjn : j < n := by
   rcases Nat.lt_or_ge j n with h | h
   · exact h
   · exact absurd hj (tail_waits hs hc hn inv _ i rfl hin hun j h)
  refine ⟨hjn, ?_⟩
  by_cases hji : j = i
  · subst hji; exact hy.qOp hi H
  · have := hdone _ _ H j (ready_mono hj hji)
    omega
 | succ f ih =>
  intro listed a inv hfree hr hy H
  have hun := (mem_ready.1 hr).1
  refine ⟨fun h => (by rw [h] at hr; cases hr), fun j hj => ?_⟩
  have hjn : j < n := by
   rcases Nat.lt_or_ge j n with h | h
   · exact h
   · exact absurd hj (tail_waits hs hc hn inv _ i rfl hin hun j h)
  refine ⟨hjn, ?_⟩
  by_cases hji : j = i
  · subst hji; exact hy.qOp hi H
  · have h1 := (H.2 j (ready_mono hj hji)).2
    obtain ⟨hjun, oj, hoj, hall⟩ := mem_ready.1 hj
    have hnot : ∀ e ∈ oj.after, Region.binds md e = true → e.on ≠ i := fun e he hb heq => by
     have h1 := hall e he hb
     rw [heq, getD_both hun] at h1
     cases h1
    have h2 := qOp_put hoj (hfree j oj hoj hji hjun hnot) (fun cs b => hsel i oi cs b hi) (fun cs b => hsel j oj cs b hoj) hy h1
    have hfree' : ∀ k ok, ops[k]? = some ok → k ≠ i → (listed.setIfInBounds j true).getD k true = false →
     (∀ e ∈ ok.after, Region.binds md e = true → e.on ≠ i) → oi.apart ops ok = true := fun k ok hk hki hun hno => by
     refine hfree k ok hk hki ?_ hno
     by_cases hjk : j = k
     · subst hjk; exact hjun
     · rw [getD_set_ne true hjk] at hun; exact hun
    refine qOp_mono (fun a' h3 => ih (listed.setIfInBounds j true) a' (inv.set hj hjn) hfree' (ready_mono hr (Ne.symm hji)) h3.1 ?_) h2
    rw [Array.setIfInBounds_comm _ _ hji]
    exact h3.2
theorem headQ_lex {n g : Nat} {Lq : Act → Prop} (hsel : Region.noSelect ops = true) (hs : Region.sinkB md ops n = true) (hc : Region.chainB md ops n = true) (hn : n < ops.size) :
 ∀ (l : List Oper) (k : Nat) (listed : Array Bool) (a : Act), (∀ j, j < l.length → l[j]? = ops[k + j]?) → k + l.length = n → HeadInv md ops n listed →
 Region.lexHead md ops g l.length k listed = true → wpQuiet P ops C Lq l a →
 headQ P md ops C n (fun listed' a' => Region.seqB md ops g n listed' = true ∧ Lq a') l.length listed a
 | [], k, listed, a, _, hk, _, hB, h => by
  have : k = n := by simpa using hk
  subst this
  exact ⟨by simpa [Region.lexHead] using hB, h⟩
 | o :: l, k, listed, a, hl, hk, inv, hB, h => by
  have h0 : ops[k]? = some o := by simpa using (hl 0 (by simp)).symm
  simp only [List.length_cons, Region.lexHead, Bool.and_eq_true] at hB
  obtain ⟨⟨hr, hf⟩, hB'⟩ := hB
  have hkn : k < n := by simp only [List.length_cons] at hk; omega
  have hr' : k ∈ Region.ready md ops listed := by simpa using hr
  have hst : qOp P ops C k (wpQuiet P ops C Lq l) a := by unfold qOp; simp only [h0]; exact h
  obtain ⟨v, hy, hK⟩ := yieldsIn_of_qOp h0 hst
  exact headQ_first h0 (Region.noSelect_spec hsel) hs hc hn hkn (fun listed' a' hL => seqB_ready hL.1) l.length listed a inv (Region.free_spec h0 hf) hr' hy
   (headQ_lex hsel hs hc hn l (k + 1) _ _ (fun j hj => by have := hl (j + 1) (by simp; omega); simpa [Nat.add_assoc, Nat.add_comm 1 j] using this) (by simp only [List.length_cons] at hk; omega) (inv.set hr' hkn) hB' hK)
theorem wp_region_class_tail {id : Nat} {Q : Exit → Act → World → Prop} {a : Act} {w : World} {l : List Oper} (n : Nat) (hm : P.follows .mixedOrders = true) (hB : Region.lexTailB .any l.toArray n = true)
 (hC : C { w with drawn := w.drawn + 1 })
 (h : wpQuiet P l.toArray C (fun a' => ∀ w', C w' → wpList P l.toArray Q (l.drop n) a' w') (l.take n) a) : (Code.region id l.toArray true).wp P Q a w := by
 simp only [Region.lexTailB, Bool.and_eq_true, decide_eq_true_eq] at hB
 obtain ⟨⟨⟨⟨hsel, hn⟩, hs⟩, hc⟩, hlex⟩ := hB
 have hn' : n < l.length := by simpa using hn
 have htl : (l.take n).length = n := by simp; omega
 have hdl : (l.drop n).length = l.toArray.size - n := by simp
 have inv0 : HeadInv .any l.toArray n (Array.replicate l.toArray.size false) :=
  ⟨by simp, fun j oj _ hl => (by rw [getD_replicate_false] at hl; cases hl), fun t _ ht => getD_in (by simpa using ht) (getD_replicate_false _ _)⟩
 have H := headQ_lex (md := .any) (g := l.toArray.size - n) hsel hs hc hn (l.take n) 0 _ a (fun j hj => by
  have hj' : j < n := by rw [htl] at hj; exact hj
  simp [hj']) (by simpa using htl) inv0 (by rw [htl]; exact hlex) h
 refine wp_region_any hm ?_
 have := any_of_headQ (Q' := Q) (g := l.toArray.size - n) (fun listed a' w' hw' hL => by
  have := wpAny_of_seq (md := .any) (Q' := Q) (l.drop n) n listed a' w' (fun j => by simp [List.getElem?_drop]) (by rw [hdl]; exact hL.1) (hL.2 w' hw')
  rwa [hdl] at this) _ _ _ _ hC H
 rw [htl, show n + (l.toArray.size - n) = l.toArray.size by omega] at this
 exact this
end
/-- a world in which nothing below B has changed -/
structure Later (B : Nat) (w0 : World) where
 val : World
 is : Below B w0 val
instance (B : Nat) (w : World) : Nonempty (Later B w) := ⟨⟨w, Below.refl B w⟩⟩
theorem Later.cell {B : Nat} {w0 : World} (s : Later B w0) (b o : Nat) (h : b < B) : s.val.cell? ⟨b, o, none⟩ = w0.cell? ⟨b, o, none⟩ := s.is.cell (p := ⟨b, o, none⟩) h
theorem Later.frozen {B : Nat} {w0 : World} (s : Later B w0) (b o : Nat) (h : b < B) : s.val.frozen? ⟨b, o, none⟩ = w0.frozen? ⟨b, o, none⟩ := s.is.frozen (p := ⟨b, o, none⟩) h
theorem Later.cellOf {B : Nat} {E W : World} (hW : E = W) (s : Later B W) (b o : Nat) (h : b < B) : s.val.cell? ⟨b, o, none⟩ = E.cell? ⟨b, o, none⟩ := by rw [hW]; exact s.cell b o h
variable {P : Program}
theorem wp_region_later {id : Nat} {Q : Exit → Act → World → Prop} {a : Act} {w : World} {l : List Oper} (B n : Nat) (hm : P.follows .mixedOrders = true) (hB : Region.lexTailB .any l.toArray n = true)
 (h : wpQuiet P l.toArray (fun w' => ∃ s : Later B w, w' = s.val) (fun a' => ∀ w', (∃ s : Later B w, w' = s.val) → wpList P l.toArray Q (l.drop n) a' w') (l.take n) a) : (Code.region id l.toArray true).wp P Q a w :=
 wp_region_class_tail (C := fun w' => ∃ s : Later B w, w' = s.val) n hm hB ⟨⟨_, Below.drew (Below.refl B w)⟩, rfl⟩ h
theorem wp_region_later_all {id : Nat} {Q : Exit → Act → World → Prop} {a : Act} {w : World} {l : List Oper} (B : Nat) (hm : P.follows .mixedOrders = true) (hB : Region.lexB .any l.toArray = true)
 (h : wpQuiet P l.toArray (fun w' => ∃ s : Later B w, w' = s.val) (fun a' => ∀ w', (∃ s : Later B w, w' = s.val) → Q .normal a' w') l a) : (Code.region id l.toArray true).wp P Q a w :=
 wp_region_quiet (C := fun w' => ∃ s : Later B w, w' = s.val) hm hB ⟨⟨_, Below.drew (Below.refl B w)⟩, rfl⟩ (by simpa using h)
/-- the same from a later world on, the class told of the first world -/
theorem wp_region_from {id : Nat} {Q : Exit → Act → World → Prop} {a : Act} {B : Nat} {W : World} {s : Later B W} {l : List Oper} (n : Nat) (hm : P.follows .mixedOrders = true) (hB : Region.lexTailB .any l.toArray n = true)
 (h : wpQuiet P l.toArray (fun w' => ∃ s : Later B W, w' = s.val) (fun a' => ∀ w', (∃ s : Later B W, w' = s.val) → wpList P l.toArray Q (l.drop n) a' w') (l.take n) a) : (Code.region id l.toArray true).wp P Q a s.val :=
 wp_region_class_tail (C := fun w' => ∃ s : Later B W, w' = s.val) n hm hB ⟨⟨_, Below.drew s.is⟩, rfl⟩ h
theorem wp_region_from_all {id : Nat} {Q : Exit → Act → World → Prop} {a : Act} {B : Nat} {W : World} {s : Later B W} {l : List Oper} (hm : P.follows .mixedOrders = true) (hB : Region.lexB .any l.toArray = true)
 (h : wpQuiet P l.toArray (fun w' => ∃ s : Later B W, w' = s.val) (fun a' => ∀ w', (∃ s : Later B W, w' = s.val) → Q .normal a' w') l a) : (Code.region id l.toArray true).wp P Q a s.val :=
 wp_region_quiet (C := fun w' => ∃ s : Later B W, w' = s.val) hm hB ⟨⟨_, Below.drew s.is⟩, rfl⟩ (by simpa using h)
/-- a whole row (a struct, an array) loaded in a quiet walk: it stays one term -/
theorem quiet_load_row {o : Oper} {a : Act} {C : World → Prop} {K : Act → Prop} (ty : TypeId) (x : Operand) (ho : o.op = .load ty x)
 (g : Nat) (hx : a.eval x = .pointer (some ⟨g, 0, none⟩)) (t : TypeId) (cs : Array Value) (d : TypeDesc) (hg : ∀ w, C w → w.heap[g]? = some (.cells cs t (0, 0)))
 (hu : P.underlying ty = some d) (hd : (match d with | .struct _ | .array _ _ => true | _ => false) = true) (hi : (P.info? ty).map (·.size) = some cs.size)
 (hk : K (a.put o.dst (.agg cs))) : o.quiet P a C K := by
 refine ⟨_, fun w hw => ?_, hk⟩
 unfold Oper.quietAt execOp
 simp only [ho, hx, Instr.loadAt, Instr.sureAddr, Sem.run_bind, Sem.run_pure, Result.andThen_ok, run_loadVar_row w g t ty cs (0, 0) d (hg w hw) hu hd hi]
 exact ⟨rfl, rfl⟩
/-- block b is the row cs -/
def Blk (w : World) (b T : Nat) (cs : Array Value) : Prop := w.heap[b]? = some (.cells cs T (0, 0))
theorem Blk.later {B b T : Nat} {w0 : World} {cs : Array Value} (h : Blk w0 b T cs) (hb : b < B) : ∀ w, (∃ s : Later B w0, w = s.val) → w.heap[b]? = some (.cells cs T (0, 0)) := by
 rintro _ ⟨s, rfl⟩
 rw [s.is.block b hb]; exact h
theorem Blk.cellL {B b T : Nat} {w0 : World} {cs : Array Value} (h : Blk w0 b T cs) (hb : b < B) (j : Nat) {v : Value} (hv : cs[j]? = some v) (s : Later B w0) : s.val.cell? ⟨b, j, none⟩ = some v := by
 rw [s.cell b j hb, cell_of_row w0 b j _ _ _ h, hv]
theorem Blk.cell {b T : Nat} {w0 : World} {cs : Array Value} (h : Blk w0 b T cs) (j : Nat) {v : Value} (hv : cs[j]? = some v) : w0.cell? ⟨b, j, none⟩ = some v := by
 rw [cell_of_row w0 b j _ _ _ h, hv]
theorem Blk.frozen {b T : Nat} {w0 : World} {cs : Array Value} (h : Blk w0 b T cs) (j : Nat) : w0.frozen? ⟨b, j, none⟩ = false := frozen_of_row w0 b j _ _ h
theorem Blk.new (w : World) (cs : Array Value) (T : Nat) : Blk (w.alloc (.cells cs T)) w.heap.size T cs := heap_alloc_new w _
theorem Blk.newAt {w : World} {b : Nat} (h : b = w.heap.size) (cs : Array Value) (T : Nat) : Blk (w.alloc (.cells cs T)) b T cs := h ▸ Blk.new w cs T
theorem Blk.alloc {w : World} {b T : Nat} {cs : Array Value} (h : Blk w b T cs) (o : Obj) : Blk (w.alloc o) b T cs := by
 unfold Blk at *
 rw [Below.heap_alloc w o b (Array.getElem?_eq_some_iff.1 h).1]; exact h
theorem Blk.below {w w' : World} {b T B : Nat} {cs : Array Value} (h : Blk w b T cs) (hb : Below B w w') (hB : b < B) : Blk w' b T cs := by
 unfold Blk at *
 rw [hb.block b hB]; exact h
theorem Blk.lt {w : World} {b T : Nat} {cs : Array Value} (h : Blk w b T cs) : b < w.heap.size := (Array.getElem?_eq_some_iff.1 h).1
theorem below_setRow {B : Nat} {a w : World} (h : Below B a w) {g : Nat} (hg : B ≤ g) (cs : Array Value) : Below B a (w.setRow g cs) :=
 h.trans ⟨rfl, rfl, rfl, by simp, fun k hk => setRow_other w g k cs (by omega)⟩
theorem Blk.setRow {w : World} {b T : Nat} {cs old : Array Value} (h : Blk w b T old) : Blk (w.setRow b cs) b T cs := setRow_heap w b old cs T (0, 0) h
/-- a struct or an array stored whole into the block that was made for it: the world behind it has a name -/
theorem store_fresh {ops : Array Oper} {rest : List Oper} {o : Oper} {a : Act} {w : World} {Q : Exit → Act → World → Prop} (hgd : o.guard = none) (ty : TypeId) (x y : Operand) (ho : o.op = .store ty x y)
 (cs old : Array Value) (T : TypeId) (hx : a.eval x = .pointer (some ⟨w.heap.size, 0, none⟩)) (hy : a.eval y = .agg cs)
 (hi : (P.info? ty).map (·.size) = some cs.size) (hold : old.size = cs.size) (h1 : cs.all (·.oneCell') = true)
 (h : ∀ X, Blk X w.heap.size T cs → Below w.heap.size w X → wpList P ops Q rest (a.put o.dst undef) X) : wpList P ops Q (o :: rest) a (w.alloc (.cells old T)) :=
 wpList_store_row hgd ty x y ho w.heap.size cs hx hy T old (Blk.new w old T) hi hold h1
  (h _ (Blk.new w old T).setRow (below_setRow ((Below.refl _ _).alloc (Nat.le_refl _) _) (Nat.le_refl _) _))
/-- a struct or an array by value, put into a block of its own: the world behind it has a name -/
theorem box_fresh {ops : Array Oper} {rest : List Oper} {o : Oper} {a : Act} {w : World} {Q : Exit → Act → World → Prop} (hgd : o.guard = none) (T : TypeId) (x : Operand) (ho : o.op = .box T x)
 (cs : Array Value) (hx : a.eval x = .agg cs)
 (h : ∀ X, Blk X w.heap.size T cs → Below w.heap.size w X → X.heap.size = w.heap.size + 1 → wpList P ops Q rest (a.put o.dst (.pointer (some ⟨w.heap.size, 0, none⟩))) X) : wpList P ops Q (o :: rest) a w :=
 wpList_plain hgd fun _ hK => by
  have hx' := hx
  simp [go_sem] at hx'
  unfold Oper.wp execOp
  simp [ho, hx', go_sem]
  exact hK _ _ (h _ (Blk.new w cs T) ((Below.refl _ _).alloc (Nat.le_refl _) _) (by simp))
/-- a contract met in a later world -/
theorem later_of {B : Nat} {w0 : World} {s : Later B w0} {f : FuncId} {args : Array Value} {v : Value} (hB : B ≤ w0.heap.size)
 (h : Calls P f args s.val fun e w' => e = .returned v ∧ Below s.val.heap.size s.val w') : Calls P f args s.val fun e w'' => e = .returned v ∧ ∃ s' : Later B w0, w'' = s'.val :=
 h.mono fun _ _ ⟨he, hb⟩ => ⟨he, ⟨_, s.is.trans (hb.mono (Nat.le_trans hB s.is.size))⟩, rfl⟩
theorem later_same {B : Nat} {w0 : World} {s : Later B w0} {f : FuncId} {args : Array Value} {v : Value}
 (h : Calls P f args s.val fun e w' => e = .returned v ∧ s.val = w') : Calls P f args s.val fun e w'' => e = .returned v ∧ ∃ s' : Later B w0, w'' = s'.val :=
 h.mono fun _ _ ⟨he, hb⟩ => ⟨he, s, hb.symm⟩
end Go.Proofs.YtfpcelmekfdafaaGreatDoor.Rg
namespace Go.Proofs.YtfpcelmekfdafaaGreatDoor.Cl
open Go.RowKit
/-- the i-th number, 0 beyond the end: under a name that simp does not open -/
def nth (l : List Nat) (i : Nat) : Nat := l.getD i 0
theorem nth_getD (l : List Nat) (i : Nat) : nth l i = l.getD i 0 := rfl
def u64s (xs : List Nat) : Array Value := (xs.map fun (x : Nat) => Value.int .u64 (x : Int)).toArray
theorem u64s_one (xs : List Nat) : (u64s xs).all (·.oneCell') = true := by
 simp [u64s, Value.oneCell']
/-- block b holds the words xs -/
def Row (w : World) (b T : Nat) (xs : List Nat) : Prop := w.heap[b]? = some (.cells (u64s xs) T (0, 0))
theorem Row.cell {w : World} {b T : Nat} {xs : List Nat} (h : Row w b T xs) (j : Nat) (hj : j < xs.length) : w.cell? ⟨b, j, none⟩ = some (.int .u64 (nth xs j : Nat)) := by
 rw [cell_of_row w b j _ _ _ h]
 simp [u64s, nth, List.getElem?_eq_getElem hj]
theorem Row.frozen {w : World} {b T : Nat} {xs : List Nat} (h : Row w b T xs) (j : Nat) : w.frozen? ⟨b, j, none⟩ = false := frozen_of_row w b j _ _ h
theorem Row.store {w : World} {b T : Nat} {xs : List Nat} (h : Row w b T xs) (j v : Nat) : Row (w.setCell ⟨b, j, none⟩ (.int .u64 (v : Int))) b T (xs.set j v) := by
 unfold Row at *
 rw [heap_setCell_same w b j _ _ _ h]
 simp [u64s, nth, List.map_set]
theorem Row.storeI {w : World} {b T : Nat} {xs : List Nat} (h : Row w b T xs) (j v : Nat) {z : Int} (hz : z = v) : Row (w.setCell ⟨b, j, none⟩ (.int .u64 z)) b T (xs.set j v) := hz ▸ h.store j v
theorem Row.below {w w' : World} {b T B : Nat} {xs : List Nat} (h : Row w b T xs) (hb : Below B w w') (hB : b < B) : Row w' b T xs := by
 unfold Row at *
 rw [hb.block b hB]; exact h
theorem Row.lt {w : World} {b T : Nat} {xs : List Nat} (h : Row w b T xs) : b < w.heap.size := (Array.getElem?_eq_some_iff.1 h).1
theorem grown_setCell (w : World) (b j : Nat) (v : Value) : w.grownBy (w.setCell ⟨b, j, none⟩ v) (some b) :=
 ⟨rfl, rfl, rfl, by simp [World.setCell], fun k _ hk => heap_setCell_other w ⟨b, j, none⟩ k v (fun e => hk (congrArg some e))⟩
/-- a word stored into a block of words: the world behind it has a name -/
theorem store_cell {P : Program} {ops : Array Oper} {rest : List Oper} {o : Oper} {a : Act} {w : World} {Q : Exit → Act → World → Prop} (hgd : o.guard = none) (ty : TypeId) (x y : Operand) (ho : o.op = .store ty x y)
 {b j T v : Nat} {xs : List Nat} (hx : a.eval x = .pointer (some ⟨b, j, none⟩)) (hy : a.eval y = .int .u64 (v : Int)) (hu : P.underlying ty = some (.int .u64)) (hi : (P.info? ty).map (·.size) = some 1) (hR : Row w b T xs) (hj : j < xs.length)
 (h : ∀ w', Row w' b T (xs.set j v) → w.grownBy w' (some b) → wpList P ops Q rest (a.put o.dst undef) w') : wpList P ops Q (o :: rest) a w :=
 wpList_plain hgd fun _ hK => by
  have hx' := hx
  have hy' := hy
  have hc := hR.cell j hj
  have hf := hR.frozen j
  simp [go_sem] at hx' hy'
  unfold Oper.wp execOp
  cases hq : P.info? ty with
  | none => simp [hq] at hi
  | some i =>
  have hs : i.size = 1 := by simpa [hq] using hi
  simp [ho, hx', hy', go_sem, hc, hf, hu, sizeOf, typeInfo, hq, hs]
  have := hK _ _ (h _ (hR.store j v) (grown_setCell w b j _))
  simpa [go_sem] using this
end Go.Proofs.YtfpcelmekfdafaaGreatDoor.Cl
namespace Go.Proofs.YtfpcelmekfdafaaGreatDoor.Cv
open Go.RowKit
variable {P : Program}
/-- bytes als cells -/
@[irreducible] def bytesV (l : List UInt8) : Array Value := (Lib.byteCells l).toArray
theorem bytesV_size (l : List UInt8) : (bytesV l).size = l.length := by unfold bytesV; simp [Lib.byteCells]
theorem bytesV_get (l : List UInt8) (j : Nat) (b : UInt8) (h : l[j]? = some b) : (bytesV l)[j]? = some (.int .u8 b.toNat) := by
 unfold bytesV; simp [Lib.byteCells, h]
theorem bytesV_one (l : List UInt8) : (bytesV l).all (·.oneCell') = true := by unfold bytesV; simp [Lib.byteCells, Value.oneCell']
/-- at block b, from off on, the bytes l -/
def Bytes (w : World) (b off : Nat) (l : List UInt8) : Prop := ∀ j x, l[j]? = some x → w.cell? ⟨b, off + j, none⟩ = some (.int .u8 x.toNat)
theorem Bytes.of_blk {w : World} {b T : Nat} {l : List UInt8} (h : Rg.Blk w b T (bytesV l)) : Bytes w b 0 l := fun j x hx => by
 rw [Nat.zero_add]; exact h.cell j (bytesV_get l j x hx)
theorem Bytes.below {w w' : World} {b off B : Nat} {l : List UInt8} (h : Bytes w b off l) (hb : Below B w w') (hB : b < B) : Bytes w' b off l := fun j x hx =>
 (hb.cell (p := ⟨b, off + j, none⟩) hB).trans (h j x hx)
theorem bytesWorld_below (w : World) (e : TypeId) (s : ByteArray) : Below w.heap.size w (Lib.bytesWorld w e s) := by
 refine ⟨?_, ?_, ?_, by rw [Lib.bytesWorld_size]; omega, fun k hk => Lib.bytesWorld_at_old w e s k hk⟩ <;>
  · unfold Lib.bytesWorld World.freeze; split <;> rfl
/-- []byte(s): the world behind it has a name -/
theorem conv_bytes {ops : Array Oper} {rest : List Oper} {o : Oper} {a : Act} {w : World} {Q : Exit → Act → World → Prop} (hgd : o.guard = none) (src dst e : TypeId) (x : Operand) (ho : o.op = .convert src dst x)
 {s : ByteArray} (hx : a.eval x = .string s) {u : TypeDesc} (hs : P.underlying src = some u) (hd : P.underlying dst = some (.slice e)) (he : P.underlying e = some (.int .u8))
 (h : ∀ X cap, Bytes X w.heap.size 0 s.data.toList → (∀ j, j < s.size → X.frozen? ⟨w.heap.size, j, none⟩ = false) → Below w.heap.size w X → X.heap.size = w.heap.size + 1 → s.size ≤ cap →
  wpList P ops Q rest (a.put o.dst (.slice (some ⟨w.heap.size, 0, none⟩) s.size cap)) X) : wpList P ops Q (o :: rest) a w :=
 wpList_plain hgd fun _ hK => by
  unfold Oper.wp execOp
  simp only [ho, hx, Sem.run_bind, Lib.run_convert_string_bytes w src dst e s hs hd he, Result.andThen_ok, Sem.run_pure]
  have hcap : s.size ≤ grownCap w s.size 0 e := by unfold grownCap; simp [Question.cut]
  refine hK _ _ (h (Lib.bytesWorld w e s) _ ?_ ?_ (bytesWorld_below w e s) (Lib.bytesWorld_size w e s) hcap)
  · intro j b hb
    have hj : j < s.data.toList.length := (List.getElem?_eq_some_iff.1 hb).1
    rw [Nat.zero_add, Lib.bytesWorld_cell w e s j (by simpa using hj), List.getD_eq_getElem?_getD, hb]; rfl
  · intro j hj
    have hb := Lib.bytesWorld_at_new w e s
    have hsz : s.size ≤ (Lib.bytesCells w e s).size := by unfold Lib.bytesCells; rw [Array.size_append, Array.size_map]; show s.data.size ≤ _; omega
    simp [World.frozen?, hb]
    omega
/-- an array loaded whole, its cells known one by one -/
theorem run_loadVar_cells (w : World) (b off : Nat) (ty : TypeId) (cs : Array Value) (d : TypeDesc) (hc : ∀ j v, cs[j]? = some v → w.cell? ⟨b, off + j, none⟩ = some v)
 (hu : P.underlying ty = some d) (hd : (match d with | .struct _ | .array _ _ => true | _ => false) = true) (hi : (P.info? ty).map (·.size) = some cs.size) :
 (loadVar ty ⟨b, off, none⟩).run P w = .ok (.agg cs) w := by
 have hl : (loadCells ⟨b, off, none⟩ cs.toList.length).run P w = .ok cs.toList.toArray w :=
  run_loadCells_list (P := P) w ⟨b, off, none⟩ cs.toList (fun j v hv => by
   have hadd : (⟨b, off, none⟩ : Addr).add j = ⟨b, off + j, none⟩ := by unfold Addr.add; split <;> simp_all
   rw [hadd]; exact hc j v (by simpa using hv))
 cases hq : P.info? ty with
 | none => simp [hq] at hi
 | some i =>
  have hs : i.size = cs.size := by simpa [hq] using hi
  have hagg : (isAgg ty).run P w = .ok true w := by
   unfold isAgg
   rw [Sem.run_bind, run_underlying hu w]
   cases d <;> simp_all
  simp only [Array.length_toList, Array.toArray_toList] at hl
  simp [loadVar, Sem.run_bind, hagg, sizeOf, typeInfo, hq, hs, hl]
theorem load_cells {ops : Array Oper} {rest : List Oper} {o : Oper} {a : Act} {w : World} {Q : Exit → Act → World → Prop} (hgd : o.guard = none) (ty : TypeId) (x : Operand) (ho : o.op = .load ty x)
 (b off : Nat) (hx : a.eval x = .pointer (some ⟨b, off, none⟩)) (cs : Array Value) (d : TypeDesc) (hc : ∀ j v, cs[j]? = some v → w.cell? ⟨b, off + j, none⟩ = some v)
 (hu : P.underlying ty = some d) (hd : (match d with | .struct _ | .array _ _ => true | _ => false) = true) (hi : (P.info? ty).map (·.size) = some cs.size)
 (h : wpList P ops Q rest (a.put o.dst (.agg cs)) w) : wpList P ops Q (o :: rest) a w :=
 wpList_plain hgd fun _ hK => by
  unfold Oper.wp execOp
  simp only [ho, hx, Instr.loadAt, Instr.sureAddr, Sem.run_bind, Sem.run_pure, Result.andThen_ok, run_loadVar_cells w b off ty cs d hc hu hd hi]
  exact hK _ _ h
theorem Bytes.cells {w : World} {b off : Nat} {l : List UInt8} (h : Bytes w b off l) : ∀ j v, (bytesV l)[j]? = some v → w.cell? ⟨b, off + j, none⟩ = some v := by
 intro j v hv
 unfold bytesV Lib.byteCells at hv
 simp only [List.getElem?_toArray, List.getElem?_map, Option.map_eq_some_iff] at hv
 obtain ⟨x, hx, rfl⟩ := hv
 exact h j x hx
/-- an array stored whole into a block that lies there: the world behind it has a name -/
theorem store_blk {ops : Array Oper} {rest : List Oper} {o : Oper} {a : Act} {w : World} {Q : Exit → Act → World → Prop} (hgd : o.guard = none) (ty : TypeId) (x y : Operand) (ho : o.op = .store ty x y)
 (b : Nat) (cs old : Array Value) (T : TypeId) (hx : a.eval x = .pointer (some ⟨b, 0, none⟩)) (hy : a.eval y = .agg cs) (hB : Rg.Blk w b T old)
 (hi : (P.info? ty).map (·.size) = some cs.size) (hold : old.size = cs.size) (h1 : cs.all (·.oneCell') = true)
 (h : ∀ X, Rg.Blk X b T cs → w.grownBy X (some b) → wpList P ops Q rest (a.put o.dst undef) X) : wpList P ops Q (o :: rest) a w :=
 wpList_store_row hgd ty x y ho b cs hx hy T old hB hi hold h1
  (h _ hB.setRow ⟨rfl, rfl, rfl, by simp, fun k _ hk => setRow_other w b k cs (fun e => hk (congrArg some e))⟩)
/-- [n]T(s): the array's address is the slice's -/
theorem slice_to_array {ops : Array Oper} {rest : List Oper} {o : Oper} {a : Act} {w : World} {Q : Exit → Act → World → Prop} (hgd : o.guard = none) (arr e : TypeId) (n : Nat) (x : Operand) (ho : o.op = .sliceToArrayPointer arr x)
 (b off len cap : Nat) (hx : a.eval x = .slice (some ⟨b, off, none⟩) len cap) (hu : P.underlying arr = some (.array n e)) (hl : n ≤ len)
 (h : wpList P ops Q rest (a.put o.dst (.pointer (some ⟨b, off, none⟩))) w) : wpList P ops Q (o :: rest) a w :=
 wpList_plain hgd fun _ hK => by
  unfold Oper.wp execOp
  simp only [ho, hx]
  unfold Instr.arrayAt
  simp only [Sem.run_bind, run_underlying hu w, Result.andThen_ok, if_neg (show ¬ len < n by omega), Sem.run_pure]
  exact hK _ _ h
/-- string(b) -/
theorem run_string_bytes (w : World) (src e dst : TypeId) (hs : P.underlying src = some (.slice e)) (he : P.underlying e = some (.int .u8)) (hd : P.underlying dst = some .string)
 (b off cap : Nat) (l : List UInt8) (h : Bytes w b off l) : (convert src dst (.slice (some ⟨b, off, none⟩) l.length cap)).run P w = .ok (.string ⟨l.toArray⟩) w := by
 have := run_convert_bytes_arg (P := P) (w := w) src e hs he b off l.length cap (l.map fun x => (x.toNat : Int)) (by simp) (fun i hi => by
  rw [h i l[i] (List.getElem?_eq_getElem hi)]; simp [hi]) dst hd
 rw [this]
 congr 2
 simp only [strOfNums, List.map_map]
 congr 1
 have : ((fun n : Int => UInt8.ofNat n.toNat) ∘ fun x : UInt8 => (x.toNat : Int)) = id := by funext x; simp
 rw [this, List.map_id]
theorem run_string_len (w : World) (src e dst : TypeId) (hs : P.underlying src = some (.slice e)) (he : P.underlying e = some (.int .u8)) (hd : P.underlying dst = some .string)
 (b off len cap : Nat) (l : List UInt8) (hl : l.length = len) (h : Bytes w b off l) : (convert src dst (.slice (some ⟨b, off, none⟩) len cap)).run P w = .ok (.string ⟨l.toArray⟩) w :=
 hl ▸ run_string_bytes w src e dst hs he hd b off cap l h
theorem conv_string {ops : Array Oper} {rest : List Oper} {o : Oper} {a : Act} {w : World} {Q : Exit → Act → World → Prop} (hgd : o.guard = none) (src e dst : TypeId) (x : Operand) (ho : o.op = .convert src dst x)
 (hs : P.underlying src = some (.slice e)) (he : P.underlying e = some (.int .u8)) (hd : P.underlying dst = some .string) (b off len cap : Nat) (l : List UInt8)
 (hx : a.eval x = .slice (some ⟨b, off, none⟩) len cap) (hl : l.length = len) (hB : Bytes w b off l)
 (h : wpList P ops Q rest (a.put o.dst (.string ⟨l.toArray⟩)) w) : wpList P ops Q (o :: rest) a w :=
 wpList_plain hgd fun _ hK => by
  subst hl
  unfold Oper.wp execOp
  simp only [ho, hx, Sem.run_bind, run_string_bytes w src e dst hs he hd b off cap l hB, Result.andThen_ok, Sem.run_pure]
  exact hK _ _ h
theorem one_byte (w : World) (T : TypeId) (v : Int) (b : UInt8) (hv : v = b.toNat) : Bytes (w.alloc (.cells #[.int .u8 v] T)) w.heap.size 0 [b] := by
 intro j x hj
 match j, hj with
 | 0, hj =>
  simp at hj
  subst hj hv
  exact (Rg.Blk.new w _ _).cell 0 rfl
end Go.Proofs.YtfpcelmekfdafaaGreatDoor.Cv
namespace Go.Proofs.YtfpcelmekfdafaaGreatDoor.Ow
open Go.RowKit
variable {P : Program}
/-- the slice address A reads als the values xs -/
def Rd (w : World) (A : Option Addr) (xs : List Value) : Prop := ∀ j x, xs[j]? = some x → ∃ b o, A = some ⟨b, o, none⟩ ∧ b < w.heap.size ∧ w.cell? ⟨b, o + j, none⟩ = some x
theorem Rd.nil (w : World) (A : Option Addr) : Rd w A [] := fun j x h => by simp at h
theorem Rd.below {w w' : World} {A : Option Addr} {xs : List Value} (h : Rd w A xs) (hb : Below w.heap.size w w') : Rd w' A xs := fun j x hx => by
 obtain ⟨b, o, hA, hl, hc⟩ := h j x hx
 exact ⟨b, o, hA, Nat.lt_of_lt_of_le hl hb.size, (hb.cell (p := ⟨b, o + j, none⟩) hl).trans hc⟩
theorem Rd.at_ {w : World} {A : Option Addr} {xs : List Value} (h : Rd w A xs) {j : Nat} (hj : j < xs.length) : ∃ b o, A = some ⟨b, o, none⟩ ∧ b < w.heap.size ∧ w.cell? ⟨b, o + j, none⟩ = some xs[j] := h j _ (List.getElem?_eq_getElem hj)
/-- all of it at one place -/
theorem Rd.place {w : World} {A : Option Addr} {xs : List Value} (h : Rd w A xs) (hn : 0 < xs.length) : ∃ b o, A = some ⟨b, o, none⟩ ∧ b < w.heap.size ∧ ∀ j x, xs[j]? = some x → w.cell? ⟨b, o + j, none⟩ = some x := by
 obtain ⟨b, o, hA, hl, _⟩ := h.at_ hn
 refine ⟨b, o, hA, hl, fun j x hx => ?_⟩
 obtain ⟨b', o', hA', _, hc⟩ := h j x hx
 rw [hA] at hA'; cases hA'
 exact hc
/-- v is a slice of the call's own, from block B on, which holds xs -/
def Owns (w : World) (B : Nat) (E : TypeId) (v : Value) (xs : List Value) : Prop := w.ownsRow B E 1 v xs.length xs
theorem Owns.nil (w : World) (B : Nat) (E : TypeId) : Owns w B E (.slice none 0 0) [] := World.ownsRow_nil w B E 1
theorem Owns.new (w : World) (B : Nat) (E : TypeId) (xs : List Value) (hB : B ≤ w.heap.size) (hm : xs.length ≤ maxLen) : Owns (w.alloc (.cells xs.toArray E)) B E (.slice (some ⟨w.heap.size, 0, none⟩) xs.length xs.length) xs := by
 have := World.ownsRow_lit (base := B) (e := E) (size := 1) w xs.toArray xs.length hB hm (by simp)
 exact this
theorem Owns.alloc {w : World} {B : Nat} {E : TypeId} {v : Value} {xs : List Value} (h : Owns w B E v xs) (o : Obj) : Owns (w.alloc o) B E v xs := World.ownsRow.alloc h o
theorem Owns.kept {w w' : World} {B : Nat} {E : TypeId} {v : Value} {xs : List Value} {row : Option Nat} (h : Owns w B E v xs) (hg : w.grownBy w' row) (hne : v.ownBlock = none ∨ v.ownBlock ≠ row) : Owns w' B E v xs := World.ownsRow.kept h hg hne
theorem Owns.below {w w' : World} {B : Nat} {E : TypeId} {v : Value} {xs : List Value} (h : Owns w B E v xs) (hb : Below w.heap.size w w') : Owns w' B E v xs :=
 World.ownsRow.kept h (row := none) ⟨hb.os, hb.tape, hb.output, hb.size, fun k hk _ => hb.block k hk⟩ (by cases hv : v.ownBlock <;> simp)
theorem Owns.lt {w : World} {B : Nat} {E : TypeId} {v : Value} {xs : List Value} (h : Owns w B E v xs) : ∀ k, v.ownBlock = some k → B ≤ k ∧ k < w.heap.size := World.ownsRow.lt h
theorem Owns.ge {w : World} {B : Nat} {E : TypeId} {v : Value} {xs : List Value} (h : Owns w B E v xs) {C : Nat} (hC : C ≤ B) : ∀ k, v.ownBlock = some k → C ≤ k := fun k hk => Nat.le_trans hC (h.lt k hk).1
/-- what it looks like, and what it reads als -/
theorem Owns.form {w : World} {B : Nat} {E : TypeId} {v : Value} {xs : List Value} (h : Owns w B E v xs) : ∃ A c, v = .slice A xs.length c ∧ Rd w A xs ∧ xs.length ≤ c := by
 rcases h.2 with ⟨hv, h0⟩ | ⟨g, cap, cur, hv, _, hg, hc, _⟩
 · have : xs = [] := List.eq_nil_of_length_eq_zero h0
   subst this
   exact ⟨none, 0, hv, Rd.nil _ _, Nat.le_refl _⟩
 · refine ⟨_, cap, hv, fun j x hx => ⟨g, 0, rfl, (Array.getElem?_eq_some_iff.1 hg).1, ?_⟩, hc⟩
   have := World.ownsRow.cells h (g := g) (by rw [hv]; rfl) j x hx
   have hadd : (⟨g, 0, none⟩ : Addr).add j = ⟨g, j, none⟩ := by unfold Addr.add; split <;> simp_all
   rw [hadd] at this
   rw [Nat.zero_add]; exact this
theorem Owns.cast {w : World} {B : Nat} {E : TypeId} {v : Value} {xs ys : List Value} (h : Owns w B E v xs) (e : xs = ys) : Owns w B E v ys := e ▸ h
theorem run_append_none (w : World) (B : Nat) (t ty E : TypeId) (i : TypeInfo) (ht : P.underlying t = some (.slice E)) (hi : P.info? E = some i) (v : Value) (xs : List Value) (h : Owns w B E v xs) (c : Nat) :
 (Builtin.append_ #[t, t] ty #[v, .slice none 0 c]).run P w = .ok v w := by
 rcases h.2 with ⟨rfl, h0⟩ | ⟨g, cap, cur, rfl, _, _, hc, _⟩
 · simp [Builtin.append_, run_underlying ht, sizeOf, typeInfo, hi, Builtin.lenOf, Builtin.firstCells]
 · simp [Builtin.append_, run_underlying ht, sizeOf, typeInfo, hi, Builtin.lenOf, Builtin.firstCells, hc, storeCells]
theorem run_app (w : World) (t ty : TypeId) {E : TypeId} {z : Value} {by' : Nat} (ht : P.underlying t = some (.slice E)) (hI : (P.info? E).map (fun i => (i.zero, i.size, i.bytes)) = some (some z, 1, by')) (hz : z.cells.size = 1) (hby : 0 < by')
 {B : Nat} {v : Value} {xs : List Value} (hO : Owns w B E v xs) {A : Option Addr} {m c : Nat} {ys : List Value} (hm : ys.length = m) (hR : Rd w A ys) (h1 : ∀ u ∈ ys, u.oneCell' = true)
 (hb : (xs.length + m) * by' ≤ 140737488355328) (hB : B ≤ w.heap.size) :
 ∃ v' w', (Builtin.append_ #[t, t] ty #[v, .slice A m c]).run P w = .ok v' w' ∧ Owns w' B E v' (xs ++ ys) ∧ w.grownBy w' v.ownBlock ∧ (v'.ownBlock = v.ownBlock ∨ v'.ownBlock = some w.heap.size) := by
 subst hm
 obtain ⟨i, hi, hz0, hz1, hz2⟩ := info_parts hI
 have hmax : xs.length + ys.length ≤ maxLen := by
  have : xs.length + ys.length ≤ (xs.length + ys.length) * by' := Nat.le_mul_of_pos_right _ hby
  simp only [maxLen]; omega
 have key : ∀ ad : Addr, (∀ j u, ys[j]? = some u → w.cell? (ad.add j) = some u) → A = some ad → ∃ v' w', (Builtin.append_ #[t, t] ty #[v, .slice A ys.length c]).run P w = .ok v' w' ∧ Owns w' B E v' (xs ++ ys) ∧ w.grownBy w' v.ownBlock ∧ (v'.ownBlock = v.ownBlock ∨ v'.ownBlock = some w.heap.size) := by
  intro ad hc hA
  subst hA
  obtain ⟨v', w', hr, ho, hg, _, hat⟩ := run_append_own_at (P := P) w B t ty E i z 1 by' ht hi hz0 hz1 hz2 hz (by decide) v xs.length xs hO ad ys.length c ys (by simp) hc h1 hmax hb hB
  exact ⟨v', w', hr, by unfold Owns; rw [List.length_append]; exact ho, hg, hat⟩
 by_cases hy : ys = []
 · subst hy
   cases A with
   | some ad => exact key ad (fun j u h => by simp at h) rfl
   | none =>
    refine ⟨v, w, run_append_none w B t ty E i ht hi v xs hO c, by simpa using hO, World.grownBy.refl w _, .inl rfl⟩
 · have hpos : 0 < ys.length := List.length_pos_iff.2 hy
   obtain ⟨b, o, rfl, hl, hc⟩ := hR.place hpos
   exact key ⟨b, o, none⟩ (fun j u hu => by
    have hadd : (⟨b, o, none⟩ : Addr).add j = ⟨b, o + j, none⟩ := by unfold Addr.add; split <;> simp_all
    rw [hadd]; exact hc j u hu) rfl
/-- append(v, ys...) -/
theorem app {ops : Array Oper} {rest : List Oper} {o : Oper} {a : Act} {w : World} {Q : Exit → Act → World → Prop} (hgd : o.guard = none) (s x : Operand) (t : TypeId)
 (ho : o.op = .call { callee := .builtin .append, args := #[s, x], argTypes := #[t, t] }) {E : TypeId} {z : Value} {by' : Nat} (ht : P.underlying t = some (.slice E))
 (hI : (P.info? E).map (fun i => (i.zero, i.size, i.bytes)) = some (some z, 1, by')) (hz : z.cells.size = 1) (hby : 0 < by')
 {B : Nat} {v : Value} {xs : List Value} (hO : Owns w B E v xs) (hs : a.eval s = v) {A : Option Addr} {m c : Nat} {ys : List Value} (hx : a.eval x = .slice A m c) (hm : ys.length = m) (hR : Rd w A ys) (h1 : ∀ u ∈ ys, u.oneCell' = true)
 (hb : (xs.length + m) * by' ≤ 140737488355328) (hB : B ≤ w.heap.size)
 (h : ∀ v' w', Owns w' B E v' (xs ++ ys) → w.grownBy w' v.ownBlock → (v'.ownBlock = v.ownBlock ∨ v'.ownBlock = some w.heap.size) → wpList P ops Q rest (a.put o.dst v') w') : wpList P ops Q (o :: rest) a w :=
 wpList_plain hgd fun _ hK => by
  obtain ⟨v', w', hr, h2, h3, h4⟩ := run_app (P := P) w t o.type ht hI hz hby hO (c := c) hm hR h1 hb hB
  unfold Oper.wp execOp
  simp only [ho, resolve, invoke, builtin, Sem.run_bind, Sem.run_pure, Result.andThen_ok, List.map_toArray, List.map_cons, List.map_nil, hs, hx, hr]
  exact hK _ _ (h v' w' h2 h3 h4)
theorem Rd.one (w : World) (T : TypeId) (y : Value) : Rd (w.alloc (.cells #[y] T)) (some ⟨w.heap.size, 0, none⟩) [y] := fun j x hj => by
 match j, hj with
 | 0, hj => simp at hj; subst hj; exact ⟨_, 0, rfl, by simp, (Rg.Blk.new w _ _).cell 0 rfl⟩
/-- append(v, y) -/
theorem app1 {ops : Array Oper} {rest : List Oper} {o : Oper} {a : Act} {w : World} {Q : Exit → Act → World → Prop} (hgd : o.guard = none) (s x : Operand) (t : TypeId)
 (ho : o.op = .call { callee := .builtin .append, args := #[s, x], argTypes := #[t, t] }) {E : TypeId} {z : Value} {by' : Nat} (ht : P.underlying t = some (.slice E))
 (hI : (P.info? E).map (fun i => (i.zero, i.size, i.bytes)) = some (some z, 1, by')) (hz : z.cells.size = 1) (hby : 0 < by')
 {B : Nat} {v : Value} {xs : List Value} (hO : Owns w B E v xs) (hs : a.eval s = v) {y : Value} {T : TypeId} (hx : a.eval x = .slice (some ⟨w.heap.size, 0, none⟩) 1 1) (h1 : y.oneCell' = true)
 (hb : (xs.length + 1) * by' ≤ 140737488355328) (hB : B ≤ w.heap.size)
 (h : ∀ v' w', Owns w' B E v' (xs ++ [y]) → w.grownBy w' v.ownBlock → (v'.ownBlock = v.ownBlock ∨ v'.ownBlock = some (w.heap.size + 1)) → wpList P ops Q rest (a.put o.dst v') w') : wpList P ops Q (o :: rest) a (w.alloc (.cells #[y] T)) := by
 refine app hgd s x t ho ht hI hz hby (hO.alloc _) hs hx rfl (Rd.one w T y) (by intro u hu; simp at hu; subst hu; exact h1) hb (by simp; omega) ?_
 intro v' w' h2 h3 h4
 exact h v' w' h2 ⟨h3.os, h3.tape, h3.output, by have := h3.size; simp at this; omega, fun k hk hne => (h3.block k (by simp; omega) hne).trans (Below.heap_alloc w _ k hk)⟩ (by simpa using h4)
/-- bytes -/
def bv (l : List UInt8) : List Value := Lib.byteCells l
theorem bv_length (l : List UInt8) : (bv l).length = l.length := by simp [bv, Lib.byteCells]
theorem bv_append (a b : List UInt8) : bv (a ++ b) = bv a ++ bv b := by simp [bv, Lib.byteCells]
theorem bv_one (b : UInt8) (x : Int) (h : x = b.toNat) : bv [b] = [.int .u8 x] := by simp [bv, Lib.byteCells, h]
theorem bv_cells (l : List UInt8) : ∀ u ∈ bv l, u.oneCell' = true := by
 intro u hu
 simp only [bv, Lib.byteCells, List.mem_map] at hu
 obtain ⟨x, _, rfl⟩ := hu
 rfl
theorem bv_get (l : List UInt8) (j : Nat) (b : UInt8) (h : l[j]? = some b) : (bv l)[j]? = some (.int .u8 b.toNat) := by simp [bv, Lib.byteCells, h]
theorem Rd.bytes {w : World} {A : Option Addr} {l : List UInt8} (h : Rd w A (bv l)) (hn : 0 < l.length) : ∃ b o, A = some ⟨b, o, none⟩ ∧ b < w.heap.size ∧ Cv.Bytes w b o l := by
 obtain ⟨b, o, hA, hl, hc⟩ := h.place (by rw [bv_length]; exact hn)
 exact ⟨b, o, hA, hl, fun j x hx => hc j _ (bv_get l j x hx)⟩
/-- string(v), v a slice of bytes, nil or not -/
theorem run_str (w : World) (src e dst : TypeId) (hs : P.underlying src = some (.slice e)) (he : P.underlying e = some (.int .u8)) (hd : P.underlying dst = some .string)
 {A : Option Addr} {n c : Nat} {l : List UInt8} (hn : l.length = n) (hR : Rd w A (bv l)) : (convert src dst (.slice A n c)).run P w = .ok (.string ⟨l.toArray⟩) w := by
 subst hn
 by_cases h0 : l = []
 · subst h0
   cases A with
   | none => unfold convert; simp [run_underlying hs, run_underlying he, run_underlying hd, go_sem]; rfl
   | some ad =>
    obtain ⟨b, o, q⟩ := ad
    unfold convert; simp [run_underlying hs, run_underlying he, run_underlying hd, go_sem]; rfl
 · obtain ⟨b, o, rfl, hl, hB⟩ := hR.bytes (List.length_pos_iff.2 h0)
   exact Cv.run_string_bytes w src e dst hs he hd b o c l hB
theorem str {ops : Array Oper} {rest : List Oper} {o : Oper} {a : Act} {w : World} {Q : Exit → Act → World → Prop} (hgd : o.guard = none) (src e dst : TypeId) (x : Operand) (ho : o.op = .convert src dst x)
 (hs : P.underlying src = some (.slice e)) (he : P.underlying e = some (.int .u8)) (hd : P.underlying dst = some .string) {B : Nat} {E : TypeId} {v : Value} {l : List UInt8} (hO : Owns w B E v (bv l)) (hx : a.eval x = v)
 (h : wpList P ops Q rest (a.put o.dst (.string ⟨l.toArray⟩)) w) : wpList P ops Q (o :: rest) a w :=
 wpList_plain hgd fun _ hK => by
  obtain ⟨A, c, hv, hR, _⟩ := hO.form
  rw [hv, bv_length] at hx
  unfold Oper.wp execOp
  simp only [ho, hx, Sem.run_bind, run_str (P := P) w src e dst hs he hd rfl hR, Result.andThen_ok, Sem.run_pure]
  exact hK _ _ h
end Go.Proofs.YtfpcelmekfdafaaGreatDoor.Ow
namespace Go.Proofs.YtfpcelmekfdafaaGreatDoor.Og
open Go.RowKit Go.ChangeShapes Go.WideShapes Go.Proofs.YtfpcelmekfdafaaGreatDoor.Ow
variable {H : Type} {enc : TypeId × Value → H} {P : Program} {W : World}
theorem trodAll_below (hl : laidOutB P = true) {W' : World} (hb : Below W.heap.size W W') : ∀ (ts : List TypeId) (vs : List Value) (ds : List (DataW H)) (ps : List MemPlace), (∀ t ∈ ts, P.readableRec t = true ∧ t < P.types.size) →
 DataW.TrodAll enc P W 0 (fun _ => true) true ts vs ds ps → (∀ x ∈ ps, x.block < W.heap.size) → DataW.TrodAll enc P W' 0 (fun b => decide (b < W.heap.size)) true ts vs ds ps
 | [], [], [], _, _, h, _ => h
 | t :: ts, v :: vs, d :: ds, ps, ht, h, hlt => by
  obtain ⟨p, q, h1, h2, rfl⟩ := h
  exact ⟨p, q, Below.trod hl (ht t (by simp)).1 (ht t (by simp)).2 h1 hb (fun x hx => hlt x (List.mem_append_left _ hx)),
   trodAll_below hl hb ts vs ds q (fun t' h' => ht t' (List.mem_cons_of_mem _ h')) h2 (fun x hx => hlt x (List.mem_append_right _ hx)), rfl⟩
 | [], [], _ :: _, _, _, h, _ => h.elim
 | [], _ :: _, [], _, _, h, _ => h.elim
 | [], _ :: _, _ :: _, _, _, h, _ => h.elim
 | _ :: _, [], [], _, _, h, _ => h.elim
 | _ :: _, [], _ :: _, _, _, h, _ => h.elim
 | _ :: _, _ :: _, [], _, _, h, _ => h.elim
end Go.Proofs.YtfpcelmekfdafaaGreatDoor.Og
namespace Go.Proofs.YtfpcelmekfdafaaGreatDoor.Og
open Go.RowKit Go.ChangeShapes Go.WideShapes Go.Joins Go.Deep Go.Proofs.YtfpcelmekfdafaaGreatDoor.Ow
variable {H : Type} {enc : TypeId × Value → H} {P : Program} {W : World}
theorem map_of {α : Type} {f : α → Value} {p : α → Prop} : ∀ {xs : List Value}, (∀ x ∈ xs, ∃ a, x = f a ∧ p a) → ∃ als : List α, xs = als.map f ∧ ∀ a ∈ als, p a
 | [], _ => ⟨[], rfl, by simp⟩
 | x :: xs, h => by
  obtain ⟨a, rfl, ha⟩ := h x (List.mem_cons_self ..)
  obtain ⟨als, e, hp⟩ := map_of (xs := xs) (fun y hy => h y (List.mem_cons_of_mem _ hy))
  refine ⟨a :: als, by rw [e]; rfl, fun b hb => ?_⟩
  rcases List.mem_cons.1 hb with rfl | hb
  · exact ha
  · exact hp b hb
/-- a field or an element that reads -/
def Reads (enc : TypeId × Value → H) (P : Program) (W : World) (t : TypeId) (v : Value) : Prop := ∃ n y, DataW.trod enc P W 0 (fun _ => true) true n t [v] = some y
theorem open_int1 {t : TypeId} {k : IntKind} {v : Value} (ht : P.underlying t = some (.int k)) (h : Reads enc P W t v) : ∃ n, v = .int k n ∧ (Lit.int k n).wf = true := by
 obtain ⟨fuel, y, hf⟩ := h
 obtain ⟨n, e, _, hw⟩ := DataW.trod_int ht hf
 simp only [List.cons.injEq, and_true] at e
 exact ⟨n, e, hw⟩
theorem open_str1 {t : TypeId} {v : Value} (ht : P.underlying t = some .string) (h : Reads enc P W t v) : ∃ s, v = .string s ∧ s.size ≤ maxLen := by
 obtain ⟨fuel, y, hf⟩ := h
 obtain ⟨s, e, _, hw⟩ := DataW.trod_string ht hf
 simp only [List.cons.injEq, and_true] at e
 exact ⟨s, e, hw⟩
theorem open_bool1 {t : TypeId} {v : Value} (ht : P.underlying t = some .bool) (h : Reads enc P W t v) : ∃ b, v = .bool b := by
 obtain ⟨fuel, y, hf⟩ := h
 obtain ⟨b, e, _⟩ := DataW.trod_bool ht hf
 simp only [List.cons.injEq, and_true] at e
 exact ⟨b, e⟩
end Go.Proofs.YtfpcelmekfdafaaGreatDoor.Og
namespace Go.Proofs.YtfpcelmekfdafaaGreatDoor.RL
open Go.RowKit
section
variable {P : Program} {ops : Array Oper} {Q : Exit → Act → World → Prop} {md : Region.Mode} {S : World → Prop}
/-- all that w held is in w' als it was -/
def Lat (w w' : World) : Prop := Below w.heap.size w w'
theorem Lat.refl (w : World) : Lat w w := Below.refl _ _
theorem Lat.trans {a b c : World} (h : Lat a b) (k : Lat b c) : Lat a c := Below.trans h (k.mono h.size)
/-- in every world of S the operation gives v, and leaves a later world of S -/
def Soft (P : Program) (ops : Array Oper) (S : World → Prop) (o : Oper) (v : Value) (a : Act) : Prop :=
 (Region.wanted o (yielded ops a.tmps) = true ∧ ∀ w, S w → (execOp a.eval o).run P w = .ok (.value v) w) ∨
 (Region.wanted o (yielded ops a.tmps) = true ∧ ∃ f args, ∀ w, S w → (execOp a.eval o).run P w = .ok (.enter f args) w ∧ Calls P f args w fun e w' => e = .returned v ∧ Lat w w' ∧ S w') ∨
 (Region.wanted o (yielded ops a.tmps) = false ∧ v = undef)
theorem Soft.of_same {o : Oper} {v : Value} {a a' : Act} (hy : Soft P ops S o v a) (he : execOp a'.eval o = execOp a.eval o)
 (hw : Region.wanted o (yielded ops a'.tmps) = Region.wanted o (yielded ops a.tmps)) : Soft P ops S o v a' := by
 unfold Soft at *
 rw [he, hw]
 exact hy
theorem Soft.wpOp {i : Nat} {o : Oper} {v : Value} {a : Act} (hi : ops[i]? = some o) (hy : Soft P ops S o v a)
 {K : Act → World → Prop} {w : World} (hS : S w) (h : ∀ w', Lat w w' → S w' → K (a.put o.dst v) w') : wpOp P ops Q i K a w := by
 unfold Go.wpOp
 simp only [hi]
 rcases hy with ⟨hw, hv⟩ | ⟨hw, f, args, hv⟩ | ⟨hw, rfl⟩
 · simp only [hw, if_true, Oper.wp, hv w hS, Oper.upon]; exact .inl (h w (Lat.refl w) hS)
 · simp only [hw, if_true, Oper.wp, (hv w hS).1, Oper.upon]
   refine .inl (Calls.mono (hv w hS).2 fun e w' he => ?_)
   obtain ⟨rfl, hl, hs⟩ := he
   exact h w' hl hs
 · simp only [hw, Bool.false_eq_true, if_false]; exact h w (Lat.refl w) hS
theorem wpOp_putSoft {j : Nat} {oi oj : Oper} {v : Value} (hj : ops[j]? = some oj) (hap : oi.apart ops oj = true)
 (hsi : ∀ cs b, oi.op ≠ .select cs b) (hsj : ∀ cs b, oj.op ≠ .select cs b)
 (hQ : ∀ c a w, Q (.panic c) (a.put oi.dst v) w → Q (.panic c) a w) {K : Act → World → Prop} {a : Act} {w : World}
 (hy : Soft P ops S oi v a) (h : wpOp P ops Q j K (a.put oi.dst v) w) :
 wpOp P ops Q j (fun a' w' => Soft P ops S oi v a' ∧ K (a'.put oi.dst v) w') a w := by
 obtain ⟨h1, h2, h3⟩ := Oper.apart_spec hap
 have keep : ∀ (a : Act), Soft P ops S oi v a → ∀ u, Soft P ops S oi v (a.put oj.dst u) := fun a hy u =>
  hy.of_same (execOp_put oi hsi a oj.dst u h3) (wanted_put oi a oj.dst u h3)
 have keepD : ∀ d, Soft P ops S oi v { a with defers := d :: a.defers } := fun d => hy.of_same rfl rfl
 unfold wpOp at *
 simp only [hj] at *
 rw [wanted_put oj a oi.dst v h1] at h
 split
 · rename_i hw
   simp only [hw, if_true] at h
   rcases h with h | ⟨hasks, hlets⟩
   case inr => exact .inr ⟨by unfold Oper.asks at *; rw [execOp_put oj hsj a oi.dst v h1] at hasks; exact hasks, hlets⟩
   refine .inl ?_
   unfold Oper.wp at *
   rw [execOp_put oj hsj a oi.dst v h1] at h
   generalize (execOp a.eval oj).run P w = r at *
   cases r with
   | ok n w' =>
    cases n <;> simp only [Oper.upon] at h ⊢
    case value u => exact ⟨keep a hy u, by rw [← Act.put_comm a v u h2]; exact h⟩
    case skip => exact ⟨keep a hy _, by rw [← Act.put_comm a v undef h2]; exact h⟩
    case defer d =>
     refine ⟨keep _ (keepD d) _, ?_⟩
     rw [← Act.put_comm _ v undef h2, ← Act.put_defers]
     exact h
    case enter f args =>
     refine Calls.mono h fun e w'' he => ?_
     cases e with
     | returned u => exact ⟨keep a hy u, by rw [← Act.put_comm a v u h2]; exact he⟩
     | panicked c => exact hQ _ _ _ he
     | outgrown => exact he
    case row row args => exact Rows.mono h fun u w'' he => ⟨keep a hy u, by rw [← Act.put_comm a v u h2]; exact he⟩
   | halt x w' =>
    cases x <;> simp only [Oper.upon] at h ⊢
    case panic u => exact hQ _ _ _ h
 · rename_i hw
   simp only [hw] at h
   exact ⟨keep a hy _, by rw [← Act.put_comm a v undef h2]; exact h⟩
/-- whatever order is picked from here on, and behind every operation in whatever later world of S -/
def wpAnyL (P : Program) (md : Region.Mode) (ops : Array Oper) (Q : Exit → Act → World → Prop) (S : World → Prop) : Nat → Array Bool → Act → World → Prop
 | 0, listed, a, w => Region.ready md ops listed = [] ∧ Q .normal a w
 | fuel + 1, listed, a, w =>
  (Region.ready md ops listed = [] → Q .normal a w) ∧
  ∀ i ∈ Region.ready md ops listed, wpOp P ops Q i (fun a' w' => S w' ∧ ∀ w'', Lat w' w'' → S w'' → wpAnyL P md ops Q S fuel (listed.setIfInBounds i true) a' w'') a w
theorem wpAny_of_L : ∀ (fuel : Nat) (listed : Array Bool) (a : Act) (w : World), wpAnyL P md ops Q S fuel listed a w → wpAny P md ops Q fuel listed a w
 | 0, _, _, _, h => h
 | fuel + 1, _, _, _, h => ⟨h.1, fun i hi => wpOp_mono (fun a' w' h' => wpAny_of_L fuel _ a' w' (h'.2 w' (Lat.refl w') h'.1)) (h.2 i hi)⟩
theorem wpAnyL_first {i : Nat} {oi : Oper} {v : Value} (hi : ops[i]? = some oi) (hsel : ∀ (j : Nat) (o : Oper) cs b, ops[j]? = some o → o.op ≠ .select cs b)
 (hQ : ∀ c a w, Q (.panic c) (a.put oi.dst v) w → Q (.panic c) a w) :
 ∀ (fuel : Nat) (listed : Array Bool) (a : Act) (w : World),
  (∀ j oj, ops[j]? = some oj → j ≠ i → listed.getD j true = false → (∀ e ∈ oj.after, Region.binds md e = true → e.on ≠ i) → oi.apart ops oj = true) →
  i ∈ Region.ready md ops listed → Soft P ops S oi v a → S w →
  (∀ w', Lat w w' → S w' → wpAnyL P md ops Q S fuel (listed.setIfInBounds i true) (a.put oi.dst v) w') → wpAnyL P md ops Q S (fuel + 1) listed a w := by
 intro fuel
 induction fuel with
 | zero =>
  intro listed a w _ hr hy hS H
  refine ⟨fun h => (by rw [h] at hr; cases hr), fun j hj => ?_⟩
  by_cases hji : j = i
  · subst hji; exact hy.wpOp hi hS (fun w' hl hs => ⟨hs, fun w'' hl' hs' => H w'' (hl.trans hl') hs'⟩)
  · have := ready_mono hj hji
    rw [(H w (Lat.refl w) hS).1] at this
    cases this
 | succ fuel ih =>
  intro listed a w hfree hr hy hS H
  refine ⟨fun h => (by rw [h] at hr; cases hr), fun j hj => ?_⟩
  by_cases hji : j = i
  · subst hji; exact hy.wpOp hi hS (fun w' hl hs => ⟨hs, fun w'' hl' hs' => H w'' (hl.trans hl') hs'⟩)
  · have h1 := (H w (Lat.refl w) hS).2 j (ready_mono hj hji)
    obtain ⟨hjun, oj, hoj, hall⟩ := mem_ready.1 hj
    have hnot : ∀ e ∈ oj.after, Region.binds md e = true → e.on ≠ i := fun e he hb heq => by
     have h1 := hall e he hb
     have h0 := (mem_ready.1 hr).1
     rw [heq] at h1
     rcases Nat.lt_or_ge i listed.size with h' | h'
     · simp [h'] at h0 h1; rw [h0] at h1; cases h1
     · simp [Array.getElem?_eq_none h'] at h1
    have h2 := wpOp_putSoft hoj (hfree j oj hoj hji hjun hnot) (fun cs b => hsel i oi cs b hi) (fun cs b => hsel j oj cs b hoj) hQ hy h1
    have hfree' : ∀ k ok, ops[k]? = some ok → k ≠ i → (listed.setIfInBounds j true).getD k true = false →
     (∀ e ∈ ok.after, Region.binds md e = true → e.on ≠ i) → oi.apart ops ok = true := fun k ok hk hki hun hno => by
     refine hfree k ok hk hki ?_ hno
     by_cases hjk : j = k
     · subst hjk; exact hjun
     · rw [getD_set_ne true hjk] at hun; exact hun
    refine wpOp_mono (fun a' w' h3 => ⟨h3.2.1, fun w'' hl hs => ih (listed.setIfInBounds j true) a' w'' hfree' (ready_mono hr (Ne.symm hji)) h3.1 hs (fun w3 hl3 hs3 => ?_)⟩) h2
    rw [Array.setIfInBounds_comm _ _ hji]
    exact h3.2.2 w3 (hl.trans hl3) hs3
/-- the same in every later world of S -/
def H (P : Program) (md : Region.Mode) (ops : Array Oper) (Q : Exit → Act → World → Prop) (S : World → Prop) (w : World) (fuel : Nat) (listed : Array Bool) (a : Act) : Prop :=
 ∀ w', Lat w w' → S w' → wpAnyL P md ops Q S fuel listed a w'
/-- a value, taken first -/
theorem take {i : Nat} {oi : Oper} {v : Value} {fuel : Nat} {listed : Array Bool} {a : Act} {w : World} (hi : ops.toList[i]? = some oi)
 (hs : Region.noSelect ops = true) (hf : Region.free md ops listed i = true) (hr : (Region.ready md ops listed).contains i = true)
 (hQ : ∀ c a w, Q (.panic c) (a.put oi.dst v) w → Q (.panic c) a w) (hy : Soft P ops S oi v a)
 (h : H P md ops Q S w fuel (listed.setIfInBounds i true) (a.put oi.dst v)) : H P md ops Q S w (fuel + 1) listed a := fun w' hl hS =>
 wpAnyL_first (by simpa using hi) (Region.noSelect_spec hs) hQ fuel listed a w' (Region.free_spec (by simpa using hi) hf) (by simpa using hr) hy hS (fun w'' hl' hs' => h w'' (hl.trans hl') hs')
theorem takeV {i : Nat} {oi : Oper} {v : Value} {fuel : Nat} {listed : Array Bool} {a : Act} {w : World} (hi : ops.toList[i]? = some oi)
 (hs : Region.noSelect ops = true) (hf : Region.free md ops listed i = true) (hr : (Region.ready md ops listed).contains i = true)
 (hQ : ∀ c a w, Q (.panic c) (a.put oi.dst v) w → Q (.panic c) a w) (hw : Region.wanted oi (yielded ops a.tmps) = true) (hv : ∀ w, S w → (execOp a.eval oi).run P w = .ok (.value v) w)
 (h : H P md ops Q S w fuel (listed.setIfInBounds i true) (a.put oi.dst v)) : H P md ops Q S w (fuel + 1) listed a :=
 take hi hs hf hr hQ (.inl ⟨hw, hv⟩) h
theorem takeU {i : Nat} {oi : Oper} {fuel : Nat} {listed : Array Bool} {a : Act} {w : World} (hi : ops.toList[i]? = some oi)
 (hs : Region.noSelect ops = true) (hf : Region.free md ops listed i = true) (hr : (Region.ready md ops listed).contains i = true)
 (hQ : ∀ c a w, Q (.panic c) (a.put oi.dst undef) w → Q (.panic c) a w) (hw : Region.wanted oi (yielded ops a.tmps) = false)
 (h : H P md ops Q S w fuel (listed.setIfInBounds i true) (a.put oi.dst undef)) : H P md ops Q S w (fuel + 1) listed a :=
 take hi hs hf hr hQ (.inr (.inr ⟨hw, rfl⟩)) h
theorem takeC {i : Nat} {oi : Oper} {v : Value} {fuel : Nat} {listed : Array Bool} {a : Act} {w : World} (f : FuncId) (args : Array Value) (hi : ops.toList[i]? = some oi)
 (hs : Region.noSelect ops = true) (hf : Region.free md ops listed i = true) (hr : (Region.ready md ops listed).contains i = true)
 (hQ : ∀ c a w, Q (.panic c) (a.put oi.dst v) w → Q (.panic c) a w) (hw : Region.wanted oi (yielded ops a.tmps) = true) (hv : ∀ w, (execOp a.eval oi).run P w = .ok (.enter f args) w)
 (hc : ∀ w, S w → Calls P f args w fun e w' => e = .returned v ∧ Lat w w' ∧ S w')
 (h : H P md ops Q S w fuel (listed.setIfInBounds i true) (a.put oi.dst v)) : H P md ops Q S w (fuel + 1) listed a :=
 take hi hs hf hr hQ (.inr (.inl ⟨hw, f, args, fun w hS => ⟨hv w, hc w hS⟩⟩)) h
/-- the only one that may come up, carried out in whatever later world -/
theorem step {i : Nat} {fuel : Nat} {listed : Array Bool} {a : Act} {w : World} (hr : Region.ready md ops listed = [i])
 (h : ∀ w', Lat w w' → S w' → wpOp P ops Q i (fun a' w'' => S w'' ∧ H P md ops Q S w'' fuel (listed.setIfInBounds i true) a') a w') : H P md ops Q S w (fuel + 1) listed a := by
 intro w' hl hS
 refine ⟨fun h0 => ?_, fun j hj => ?_⟩
 · rw [h0] at hr
   cases hr
 · rw [hr] at hj
   rw [List.mem_singleton.1 hj]
   exact h w' hl hS
/-- kept shut till it is opened -/
def Shut (p : Prop) : Prop := p
theorem Shut.out {p : Prop} (h : Shut p) : p := h
theorem stepK {i : Nat} {o : Oper} {fuel : Nat} {listed : Array Bool} {a : Act} {w : World} (ho : ops.toList[i]? = some o) (hr : Region.ready md ops listed = [i]) (hw : Region.wanted o (yielded ops a.tmps) = true)
 (h : ∀ w', Lat w w' → S w' → ∀ K : Act → World → Prop, Shut (∀ a' w'', S w'' → H P md ops Q S w'' fuel (listed.setIfInBounds i true) a' → K a' w'') → Oper.wp P o a w' K Q) : H P md ops Q S w (fuel + 1) listed a :=
 step hr fun w' hl hS => wpOp_step (by simpa using ho) fun K hK => by
  rw [if_pos hw]
  exact h w' hl hS K (fun a' w'' hs hh => hK a' w'' ⟨hs, hh⟩)
theorem done {fuel : Nat} {listed : Array Bool} {a : Act} {w : World} (hr : Region.ready md ops listed = [])
 (h : ∀ w', Lat w w' → S w' → Q .normal a w') : H P md ops Q S w fuel listed a := fun w' hl hS => by
 cases fuel with
 | zero => exact ⟨hr, h w' hl hS⟩
 | succ f => exact ⟨fun _ => h w' hl hS, fun i hi => by rw [hr] at hi; cases hi⟩
theorem start {id : Nat} {a : Act} {w : World} (S : World → Prop) (hm : P.follows .mixedOrders = true) (hS : S w.drew)
 (h : H P .any ops Q S w.drew ops.size (Array.replicate ops.size false) a) : (Code.region id ops true).wp P Q a w :=
 wp_region_any hm (wpAny_of_L _ _ _ _ (h w.drew (Lat.refl _) hS))
end
/-- all that X held is in w als it was -/
def Aft (X w : World) : Prop := Below X.heap.size X w
theorem Aft.refl (X : World) : Aft X X := Below.refl _ _
theorem Aft.drew {X W : World} (h : Aft X W) : Aft X W.drew := Below.drew h
theorem Aft.alloc {X W : World} (h : Aft X W) (o : Obj) : Aft X (W.alloc o) := Below.alloc h h.size o
theorem Aft.lat {X W W' : World} (h : Aft X W) (hb : Lat W W') : Aft X W' := Below.trans h (Below.mono hb h.size)
end Go.Proofs.YtfpcelmekfdafaaGreatDoor.RL
namespace Go.Proofs.YtfpcelmekfdafaaGreatDoor.RT
open Go.RowKit Go.Proofs.YtfpcelmekfdafaaGreatDoor.RL
section
variable {P : Program} {ops : Array Oper} {Q : Exit → Act → World → Prop} {md : Region.Mode} {S : World → Prop} {n g : Nat}
/-- whatever order is picked from here on, the head's operations first -/
def wpAnyT (P : Program) (md : Region.Mode) (ops : Array Oper) (Q : Exit → Act → World → Prop) (S : World → Prop) (n g : Nat) : Nat → Array Bool → Act → World → Prop
 | 0, listed, a, w => Region.seqB md ops g n listed = true ∧ wpAny P md ops Q g listed a w
 | fuel + 1, listed, a, w =>
  Region.ready md ops listed ≠ [] ∧
  ∀ i ∈ Region.ready md ops listed, i < n ∧ wpOp P ops Q i (fun a' w' => S w' ∧ ∀ w'', Lat w' w'' → S w'' → wpAnyT P md ops Q S n g fuel (listed.setIfInBounds i true) a' w'') a w
theorem wpAny_of_T : ∀ (fuel : Nat) (listed : Array Bool) (a : Act) (w : World), wpAnyT P md ops Q S n g fuel listed a w → wpAny P md ops Q (fuel + g) listed a w
 | 0, _, _, _, h => by rw [Nat.zero_add]; exact h.2
 | fuel + 1, listed, a, w, h => by
  rw [show fuel + 1 + g = (fuel + g) + 1 by omega]
  exact ⟨fun h0 => absurd h0 h.1, fun i hi => wpOp_mono (fun a' w' h' => wpAny_of_T fuel _ a' w' (h'.2 w' (Lat.refl w') h'.1)) (h.2 i hi).2⟩
structure Hd (md : Region.Mode) (ops : Array Oper) (n : Nat) (listed : Array Bool) : Prop where
 s : Region.sinkB md ops n = true
 c : Region.chainB md ops n = true
 lt0 : n < ops.size
 inv : HeadInv md ops n listed
theorem Hd.set {listed : Array Bool} (h : Hd md ops n listed) {i : Nat} (hi : i ∈ Region.ready md ops listed) (hin : i < n) : Hd md ops n (listed.setIfInBounds i true) := ⟨h.s, h.c, h.lt0, h.inv.set hi hin⟩
theorem Hd.lt {listed : Array Bool} (h : Hd md ops n listed) {i : Nat} (hin : i < n) (hun : listed.getD i true = false) {j : Nat} (hj : j ∈ Region.ready md ops listed) : j < n := by
 rcases Nat.lt_or_ge j n with h' | h'
 · exact h'
 · exact absurd hj (tail_waits h.s h.c h.lt0 h.inv _ i rfl hin hun j h')
theorem wpAnyT_first {i : Nat} {oi : Oper} {v : Value} (hi : ops[i]? = some oi) (hsel : ∀ (j : Nat) (o : Oper) cs b, ops[j]? = some o → o.op ≠ .select cs b)
 (hQ : ∀ c a w, Q (.panic c) (a.put oi.dst v) w → Q (.panic c) a w) (hin : i < n) :
 ∀ (fuel : Nat) (listed : Array Bool) (a : Act) (w : World), Hd md ops n listed →
  (∀ j oj, ops[j]? = some oj → j ≠ i → listed.getD j true = false → (∀ e ∈ oj.after, Region.binds md e = true → e.on ≠ i) → oi.apart ops oj = true) →
  i ∈ Region.ready md ops listed → Soft P ops S oi v a → S w →
  (∀ w', Lat w w' → S w' → wpAnyT P md ops Q S n g fuel (listed.setIfInBounds i true) (a.put oi.dst v) w') → wpAnyT P md ops Q S n g (fuel + 1) listed a w := by
 intro fuel
 induction fuel with
 | zero =>
  intro listed a w hd _ hr hy hS H
  have hun := (mem_ready.1 hr).1
  refine ⟨fun h => (by rw [h] at hr; cases hr), fun j hj => ⟨hd.lt hin hun hj, ?_⟩⟩
  by_cases hji : j = i
  · subst hji; exact hy.wpOp hi hS (fun w' hl hs => ⟨hs, fun w'' hl' hs' => H w'' (hl.trans hl') hs'⟩)
  · have h1 := seqB_ready (H w (Lat.refl w) hS).1 j (ready_mono hj hji)
    have h2 := hd.lt hin hun hj
    omega
 | succ fuel ih =>
  intro listed a w hd hfree hr hy hS H
  have hun := (mem_ready.1 hr).1
  refine ⟨fun h => (by rw [h] at hr; cases hr), fun j hj => ⟨hd.lt hin hun hj, ?_⟩⟩
  by_cases hji : j = i
  · subst hji; exact hy.wpOp hi hS (fun w' hl hs => ⟨hs, fun w'' hl' hs' => H w'' (hl.trans hl') hs'⟩)
  · have h1 := ((H w (Lat.refl w) hS).2 j (ready_mono hj hji)).2
    obtain ⟨hjun, oj, hoj, hall⟩ := mem_ready.1 hj
    have hnot : ∀ e ∈ oj.after, Region.binds md e = true → e.on ≠ i := fun e he hb heq => by
     have h1 := hall e he hb
     have h0 := (mem_ready.1 hr).1
     rw [heq] at h1
     rcases Nat.lt_or_ge i listed.size with h' | h'
     · simp [h'] at h0 h1; rw [h0] at h1; cases h1
     · simp [Array.getElem?_eq_none h'] at h1
    have h2 := wpOp_putSoft hoj (hfree j oj hoj hji hjun hnot) (fun cs b => hsel i oi cs b hi) (fun cs b => hsel j oj cs b hoj) hQ hy h1
    have hfree' : ∀ k ok, ops[k]? = some ok → k ≠ i → (listed.setIfInBounds j true).getD k true = false →
     (∀ e ∈ ok.after, Region.binds md e = true → e.on ≠ i) → oi.apart ops ok = true := fun k ok hk hki hun hno => by
     refine hfree k ok hk hki ?_ hno
     by_cases hjk : j = k
     · subst hjk; exact hjun
     · rw [getD_set_ne true hjk] at hun; exact hun
    refine wpOp_mono (fun a' w' h3 => ⟨h3.2.1, fun w'' hl hs => ih (listed.setIfInBounds j true) a' w'' (hd.set hj (hd.lt hin hun hj)) hfree' (ready_mono hr (Ne.symm hji)) h3.1 hs (fun w3 hl3 hs3 => ?_)⟩) h2
    rw [Array.setIfInBounds_comm _ _ hji]
    exact h3.2.2 w3 (hl.trans hl3) hs3
/-- the same in every later world of S -/
def H (P : Program) (md : Region.Mode) (ops : Array Oper) (Q : Exit → Act → World → Prop) (S : World → Prop) (n g : Nat) (w : World) (fuel : Nat) (listed : Array Bool) (a : Act) : Prop :=
 Hd md ops n listed → ∀ w', Lat w w' → S w' → wpAnyT P md ops Q S n g fuel listed a w'
theorem take {i : Nat} {oi : Oper} {v : Value} {fuel : Nat} {listed : Array Bool} {a : Act} {w : World} (hi : ops.toList[i]? = some oi)
 (hs : Region.noSelect ops = true) (hf : Region.free md ops listed i = true) (hr : (Region.ready md ops listed).contains i = true) (hin : i < n)
 (hQ : ∀ c a w, Q (.panic c) (a.put oi.dst v) w → Q (.panic c) a w) (hy : Soft P ops S oi v a)
 (h : H P md ops Q S n g w fuel (listed.setIfInBounds i true) (a.put oi.dst v)) : H P md ops Q S n g w (fuel + 1) listed a := fun hd w' hl hS =>
 wpAnyT_first (by simpa using hi) (Region.noSelect_spec hs) hQ hin fuel listed a w' hd (Region.free_spec (by simpa using hi) hf) (by simpa using hr) hy hS (fun w'' hl' hs' => h (hd.set (by simpa using hr) hin) w'' (hl.trans hl') hs')
theorem takeV {i : Nat} {oi : Oper} {v : Value} {fuel : Nat} {listed : Array Bool} {a : Act} {w : World} (hi : ops.toList[i]? = some oi)
 (hs : Region.noSelect ops = true) (hf : Region.free md ops listed i = true) (hr : (Region.ready md ops listed).contains i = true) (hin : i < n)
 (hQ : ∀ c a w, Q (.panic c) (a.put oi.dst v) w → Q (.panic c) a w) (hw : Region.wanted oi (yielded ops a.tmps) = true) (hv : ∀ w, S w → (execOp a.eval oi).run P w = .ok (.value v) w)
 (h : H P md ops Q S n g w fuel (listed.setIfInBounds i true) (a.put oi.dst v)) : H P md ops Q S n g w (fuel + 1) listed a :=
 take hi hs hf hr hin hQ (.inl ⟨hw, hv⟩) h
theorem takeU {i : Nat} {oi : Oper} {fuel : Nat} {listed : Array Bool} {a : Act} {w : World} (hi : ops.toList[i]? = some oi)
 (hs : Region.noSelect ops = true) (hf : Region.free md ops listed i = true) (hr : (Region.ready md ops listed).contains i = true) (hin : i < n)
 (hQ : ∀ c a w, Q (.panic c) (a.put oi.dst undef) w → Q (.panic c) a w) (hw : Region.wanted oi (yielded ops a.tmps) = false)
 (h : H P md ops Q S n g w fuel (listed.setIfInBounds i true) (a.put oi.dst undef)) : H P md ops Q S n g w (fuel + 1) listed a :=
 take hi hs hf hr hin hQ (.inr (.inr ⟨hw, rfl⟩)) h
theorem takeC {i : Nat} {oi : Oper} {v : Value} {fuel : Nat} {listed : Array Bool} {a : Act} {w : World} (f : FuncId) (args : Array Value) (hi : ops.toList[i]? = some oi)
 (hs : Region.noSelect ops = true) (hf : Region.free md ops listed i = true) (hr : (Region.ready md ops listed).contains i = true) (hin : i < n)
 (hQ : ∀ c a w, Q (.panic c) (a.put oi.dst v) w → Q (.panic c) a w) (hw : Region.wanted oi (yielded ops a.tmps) = true) (hv : ∀ w, S w → (execOp a.eval oi).run P w = .ok (.enter f args) w)
 (hc : ∀ w, S w → Calls P f args w fun e w' => e = .returned v ∧ Lat w w' ∧ S w')
 (h : H P md ops Q S n g w fuel (listed.setIfInBounds i true) (a.put oi.dst v)) : H P md ops Q S n g w (fuel + 1) listed a :=
 take hi hs hf hr hin hQ (.inr (.inl ⟨hw, f, args, fun w hS => ⟨hv w hS, hc w hS⟩⟩)) h
theorem stepK {i : Nat} {o : Oper} {fuel : Nat} {listed : Array Bool} {a : Act} {w : World} (ho : ops.toList[i]? = some o) (hr : Region.ready md ops listed = [i]) (hin : i < n) (hw : Region.wanted o (yielded ops a.tmps) = true)
 (h : ∀ w', Lat w w' → S w' → ∀ K : Act → World → Prop, Shut (∀ a' w'', S w'' → H P md ops Q S n g w'' fuel (listed.setIfInBounds i true) a' → K a' w'') → Oper.wp P o a w' K Q) : H P md ops Q S n g w (fuel + 1) listed a := by
 intro hd w' hl hS
 refine ⟨fun h0 => (by rw [h0] at hr; cases hr), fun j hj => ?_⟩
 rw [hr] at hj
 obtain rfl := List.mem_singleton.1 hj
 refine ⟨hin, wpOp_step (by simpa using ho) fun K hK => ?_⟩
 rw [if_pos hw]
 exact h w' hl hS K (fun a' w'' hs hh => hK a' w'' ⟨hs, fun w3 hl3 hs3 => hh (hd.set (by rw [hr]; exact List.mem_singleton.2 rfl) hin) w3 hl3 hs3⟩)
/-- the head is done: the tail in its order -/
theorem tail {l : List Oper} {listed : Array Bool} {a : Act} {w : World} (hB : Region.seqB md ops g n listed = true) (hl : ops.toList.drop n = l) (hg : l.length = g)
 (h : ∀ w', Lat w w' → S w' → wpList P ops Q l a w') : H P md ops Q S n g w 0 listed a := fun _ w' hl' hS => by
 subst hg
 exact ⟨hB, wpAny_of_seq l n listed a w' (fun j => by rw [← hl]; simp [List.getElem?_drop]) hB (h w' hl' hS)⟩
theorem start {id : Nat} {a : Act} {w : World} {l : List Oper} (S : World → Prop) (n g : Nat) (hm : P.follows .mixedOrders = true) (hn : n < l.length) (hg : n + g = l.length) (hs : Region.sinkB .any l.toArray n = true) (hc : Region.chainB .any l.toArray n = true) (hS : S w.drew)
 (h : H P .any l.toArray Q S n g w.drew n (Array.replicate l.toArray.size false) a) : (Code.region id l.toArray true).wp P Q a w := by
 refine wp_region_any hm ?_
 have inv0 : HeadInv .any l.toArray n (Array.replicate l.toArray.size false) :=
  ⟨by simp, fun j oj _ hl => (by rw [getD_replicate_false] at hl; cases hl), fun t _ ht => getD_in (by simpa using ht) (getD_replicate_false _ _)⟩
 have := wpAny_of_T _ _ _ _ (h ⟨hs, hc, by simpa using hn, inv0⟩ w.drew (Lat.refl _) hS)
 rw [hg] at this
 simpa using this
end
/-- a whole row loaded -/
theorem run_row {P : Program} {o : Oper} {a : Act} {w : World} (ty : TypeId) (x : Operand) (ho : o.op = .load ty x) (g : Nat) (hx : a.eval x = .pointer (some ⟨g, 0, none⟩)) (t : TypeId) (cs : Array Value) (hB : Rg.Blk w g t cs) {d : TypeDesc}
 (hu : P.underlying ty = some d) (hd : (match d with | .struct _ | .array _ _ => true | _ => false) = true) (hi : (P.info? ty).map (·.size) = some cs.size) : (execOp a.eval o).run P w = .ok (.value (.agg cs)) w := by
 unfold execOp
 simp only [ho, hx, Instr.loadAt, Instr.sureAddr, Sem.run_bind, Sem.run_pure, Result.andThen_ok, run_loadVar_row w g t ty cs (0, 0) d hB hu hd hi]
end Go.Proofs.YtfpcelmekfdafaaGreatDoor.RT
namespace Go.Proofs.YtfpcelmekfdafaaGreatDoor.Sp
open Go.RowKit
/-- of what was there nothing has turned, save in the blocks s -/
structure Upd (w w' : World) (s : List Nat) : Prop where
 os : w'.os = w.os
 tape : w'.tape = w.tape
 output : w'.output = w.output
 size : w.heap.size ≤ w'.heap.size
 block : ∀ k, k < w.heap.size → k ∉ s → w'.heap[k]? = w.heap[k]?
theorem Upd.refl (w : World) (s : List Nat) : Upd w w s := ⟨rfl, rfl, rfl, Nat.le_refl _, fun _ _ _ => rfl⟩
theorem Upd.trans {a b c : World} {s t : List Nat} (h : Upd a b s) (k : Upd b c t) (ht : ∀ x ∈ t, x ∈ s ∨ a.heap.size ≤ x) : Upd a c s :=
 ⟨k.os.trans h.os, k.tape.trans h.tape, k.output.trans h.output, Nat.le_trans h.size k.size, fun x hx hs => by
  rw [k.block x (Nat.lt_of_lt_of_le hx h.size) (fun hxt => by rcases ht x hxt with h1 | h1; exact hs h1; omega)]
  exact h.block x hx hs⟩
theorem Upd.of_below {w w' : World} (h : Below w.heap.size w w') : Upd w w' [] := ⟨h.os, h.tape, h.output, h.size, fun k hk _ => h.block k hk⟩
theorem Upd.below {w w' : World} (h : Upd w w' []) : Below w.heap.size w w' := ⟨h.os, h.tape, h.output, h.size, fun k hk => h.block k hk (by simp)⟩
theorem Upd.of_grown {w w' : World} {row : Option Nat} (h : w.grownBy w' row) : Upd w w' row.toList :=
 ⟨h.os, h.tape, h.output, h.size, fun k hk hs => h.block k hk (fun e => hs (by rw [← e]; simp))⟩
theorem Upd.of_grown1 {w w' : World} {b : Nat} (h : w.grownBy w' (some b)) : Upd w w' [b] := Upd.of_grown h
theorem Upd.of_grown0 {w w' : World} (h : w.grownBy w' none) : Upd w w' [] := Upd.of_grown h
theorem Upd.grown1 {w w' : World} {b : Nat} (h : Upd w w' [b]) : w.grownBy w' (some b) := ⟨h.os, h.tape, h.output, h.size, fun k hk hs => h.block k hk (by intro e; exact hs (by simpa using e))⟩
/-- a piece: what it says of the world, and the blocks that it stands in -/
structure Asn where
 at_ : World → List Nat → Prop
 nd : ∀ {w s}, at_ w s → s.Nodup
 lt : ∀ {w s}, at_ w s → ∀ k ∈ s, k < w.heap.size
 keep : ∀ {w w' : World} {s}, at_ w s → (∀ k ∈ s, w'.heap[k]? = w.heap[k]?) → at_ w' s
def Holds (w : World) : List Asn → List (List Nat) → Prop
 | [], [] => True
 | P :: L, s :: ss => P.at_ w s ∧ Holds w L ss
 | _, _ => False
theorem Holds.get {w : World} : ∀ {L : List Asn} {ss : List (List Nat)}, Holds w L ss → ∀ {i : Nat} {P : Asn}, L[i]? = some P → ∃ s, ss[i]? = some s ∧ P.at_ w s
 | [], [], _, i, P, hi => by simp at hi
 | P :: L, s :: ss, h, 0, Q, hi => by simp at hi; subst hi; exact ⟨s, rfl, h.1⟩
 | P :: L, s :: ss, h, i + 1, Q, hi => by obtain ⟨t, ht, hQ⟩ := Holds.get h.2 (i := i) (by simpa using hi); exact ⟨t, by simpa using ht, hQ⟩
 | [], _ :: _, h, _, _, _ => by cases h
 | _ :: _, [], h, _, _, _ => by cases h
theorem Holds.keep {w w' : World} : ∀ {L : List Asn} {ss : List (List Nat)}, Holds w L ss → (∀ k ∈ ss.flatten, w'.heap[k]? = w.heap[k]?) → Holds w' L ss
 | [], [], _, _ => trivial
 | P :: L, s :: ss, h, hk => ⟨P.keep h.1 (fun k hs => hk k (by simp [hs])), Holds.keep h.2 (fun k hs => hk k (by rw [List.flatten_cons]; exact List.mem_append_right _ hs))⟩
 | [], _ :: _, h, _ => by cases h
 | _ :: _, [], h, _ => by cases h
theorem Holds.lt {w : World} : ∀ {L : List Asn} {ss : List (List Nat)}, Holds w L ss → ∀ k ∈ ss.flatten, k < w.heap.size
 | [], [], _, k, hk => by simp at hk
 | P :: L, s :: ss, h, k, hk => by
  rw [List.flatten_cons, List.mem_append] at hk
  rcases hk with hk | hk
  · exact P.lt h.1 k hk
  · exact Holds.lt h.2 k hk
 | [], _ :: _, h, _, _ => by cases h
 | _ :: _, [], h, _, _ => by cases h
theorem Holds.append {w : World} : ∀ {L M : List Asn} {ss tt : List (List Nat)}, Holds w L ss → Holds w M tt → Holds w (L ++ M) (ss ++ tt)
 | [], _, [], _, _, h => h
 | _ :: _, _, _ :: _, _, h, k => ⟨h.1, Holds.append h.2 k⟩
 | [], _, _ :: _, _, h, _ => by cases h
 | _ :: _, _, [], _, h, _ => by cases h
theorem Holds.set {w w' : World} {Q : Asn} {t : List Nat} (hQ : Q.at_ w' t) : ∀ {L : List Asn} {ss : List (List Nat)}, Holds w L ss → ∀ {i : Nat} {s : List Nat}, ss[i]? = some s → ss.flatten.Nodup → (∀ k ∈ ss.flatten, k ∉ s → w'.heap[k]? = w.heap[k]?) → Holds w' (L.set i Q) (ss.set i t)
 | [], [], _, i, s, hi, _, _ => by simp at hi
 | P :: L, s :: ss, h, 0, s', hi, hn, hk => by
  simp at hi; subst hi
  rw [List.flatten_cons, List.nodup_append] at hn
  exact ⟨hQ, Holds.keep h.2 (fun k hs => hk k (by rw [List.flatten_cons]; exact List.mem_append_right _ hs) (fun h1 => hn.2.2 k h1 k hs rfl))⟩
 | P :: L, s :: ss, h, i + 1, s', hi, hn, hk => by
  rw [List.flatten_cons, List.nodup_append] at hn
  have hi' : ss[i]? = some s' := by simpa using hi
  refine ⟨P.keep h.1 (fun k hs => hk k (by simp [hs]) (fun h1 => hn.2.2 k hs k ?_ rfl)), Holds.set hQ h.2 hi' hn.2.1 (fun k hs => hk k (by rw [List.flatten_cons]; exact List.mem_append_right _ hs))⟩
  exact List.mem_flatten.2 ⟨s', List.mem_of_getElem? hi', h1⟩
 | [], _ :: _, h, _, _, _, _, _ => by cases h
 | _ :: _, [], h, _, _, _, _, _ => by cases h
theorem flat_set_mem {ss : List (List Nat)} {i : Nat} {t : List Nat} {k : Nat} (h : k ∈ (ss.set i t).flatten) : k ∈ t ∨ k ∈ ss.flatten := by
 obtain ⟨u, hu, hk⟩ := List.mem_flatten.1 h
 rcases List.mem_or_eq_of_mem_set hu with h1 | h1
 · exact .inr (List.mem_flatten.2 ⟨u, h1, hk⟩)
 · subst h1; exact .inl hk
theorem flat_set_nodup {t : List Nat} (ht : t.Nodup) : ∀ {ss : List (List Nat)} {i : Nat} {s : List Nat}, ss[i]? = some s → ss.flatten.Nodup → (∀ k ∈ t, k ∈ s ∨ k ∉ ss.flatten) → (ss.set i t).flatten.Nodup
 | [], i, s, hi, _, _ => by simp at hi
 | s :: ss, 0, s', hi, hn, hk => by
  simp at hi; subst hi
  rw [List.flatten_cons, List.nodup_append] at hn
  simp only [List.set_cons_zero, List.flatten_cons]
  rw [List.nodup_append]
  refine ⟨ht, hn.2.1, fun a ha b hb e => ?_⟩
  subst e
  rcases hk a ha with h1 | h1
  · exact hn.2.2 a h1 a hb rfl
  · exact h1 (by rw [List.flatten_cons]; exact List.mem_append_right _ hb)
 | s :: ss, i + 1, s', hi, hn, hk => by
  have hi' : ss[i]? = some s' := by simpa using hi
  rw [List.flatten_cons, List.nodup_append] at hn
  simp only [List.set_cons_succ, List.flatten_cons]
  rw [List.nodup_append]
  refine ⟨hn.1, flat_set_nodup ht hi' hn.2.1 (fun k hkt => ?_), fun a ha b hb e => ?_⟩
  · rcases hk k hkt with h1 | h1
    · exact .inl h1
    · exact .inr (fun h2 => h1 (by rw [List.flatten_cons]; exact List.mem_append_right _ h2))
  · subst e
    rcases flat_set_mem hb with h1 | h1
    · rcases hk a h1 with h2 | h2
      · exact hn.2.2 a ha a (List.mem_flatten.2 ⟨s', List.mem_of_getElem? hi', h2⟩) rfl
      · exact h2 (by rw [List.flatten_cons]; exact List.mem_append_left _ ha)
    · exact hn.2.2 a ha a h1 rfl
/-- from w0 on only the blocks s0 and new ones were written; w holds the pieces L, apart, in such blocks -/
structure Mem (w0 : World) (s0 : List Nat) (w : World) (L : List Asn) : Prop where
 upd : Upd w0 w s0
 ex : ∃ ss, Holds w L ss ∧ ss.flatten.Nodup ∧ ∀ k ∈ ss.flatten, k ∈ s0 ∨ w0.heap.size ≤ k
theorem Mem.start (w : World) : Mem w [] w [] := ⟨Upd.refl w [], [], trivial, by simp, by simp⟩
theorem Mem.enter {w : World} {s : List Nat} {P : Asn} (h : P.at_ w s) : Mem w s w [P] := ⟨Upd.refl w s, [s], ⟨h, trivial⟩, by simpa using P.nd h, fun k hk => .inl (by simpa using hk)⟩
theorem Mem.bel {w0 w : World} {L : List Asn} (h : Mem w0 [] w L) : Below w0.heap.size w0 w := h.upd.below
theorem Mem.size {w0 w : World} {s0 : List Nat} {L : List Asn} (h : Mem w0 s0 w L) : w0.heap.size ≤ w.heap.size := h.upd.size
theorem Mem.of_below {w0 w : World} (h : Below w0.heap.size w0 w) : Mem w0 [] w [] := ⟨Upd.of_below h, [], trivial, by simp, by simp⟩
theorem Mem.get {w0 w : World} {s0 : List Nat} {L : List Asn} (h : Mem w0 s0 w L) (i : Nat) {P : Asn} (hi : L[i]? = some P) : ∃ s, P.at_ w s ∧ ∀ k ∈ s, k ∈ s0 ∨ w0.heap.size ≤ k := by
 obtain ⟨ss, hH, _, hs⟩ := h.ex
 obtain ⟨s, hsi, hP⟩ := hH.get hi
 exact ⟨s, hP, fun k hk => hs k (List.mem_flatten.2 ⟨s, List.mem_of_getElem? hsi, hk⟩)⟩
theorem Mem.below {w0 w w' : World} {s0 : List Nat} {L : List Asn} (h : Mem w0 s0 w L) (hb : Below w.heap.size w w') : Mem w0 s0 w' L := by
 obtain ⟨ss, hH, hn, hs⟩ := h.ex
 exact ⟨h.upd.trans (Upd.of_below hb) (by simp), ss, hH.keep (fun k hk => hb.block k (hH.lt k hk)), hn, hs⟩
/-- a call that made pieces of its own -/
theorem Mem.call0 {w0 w w' : World} {s0 : List Nat} {L N : List Asn} (h : Mem w0 s0 w L) (hc : Mem w [] w' N) : Mem w0 s0 w' (L ++ N) := by
 obtain ⟨ss, hH, hn, hs⟩ := h.ex
 obtain ⟨tt, hT, hm, ht⟩ := hc.ex
 have hlt := hH.lt
 have hge : ∀ k ∈ tt.flatten, w.heap.size ≤ k := fun k hk => by
  rcases ht k hk with h1 | h1
  · simp at h1
  · exact h1
 refine ⟨h.upd.trans hc.upd (by simp), ss ++ tt, (hH.keep (fun k hk => hc.bel.block k (hlt k hk))).append hT, ?_, ?_⟩
 · rw [List.flatten_append, List.nodup_append]
   exact ⟨hn, hm, fun a ha b hb e => by subst e; have := hlt a ha; have := hge a hb; omega⟩
 · intro k hk
   rw [List.flatten_append, List.mem_append] at hk
   rcases hk with hk | hk
   · exact hs k hk
   · exact .inr (Nat.le_trans h.size (hge k hk))
theorem flat_set_out {t : List Nat} {k : Nat} : ∀ {ss : List (List Nat)} {i : Nat} {s : List Nat}, ss[i]? = some s → ss.flatten.Nodup → k ∈ (ss.set i t).flatten → k ∈ t ∨ (k ∈ ss.flatten ∧ k ∉ s)
 | [], i, s, hi, _, _ => by simp at hi
 | s :: ss, 0, s', hi, hn, hk => by
  simp at hi; subst hi
  rw [List.flatten_cons, List.nodup_append] at hn
  rw [List.set_cons_zero, List.flatten_cons, List.mem_append] at hk
  rcases hk with h1 | h1
  · exact .inl h1
  · exact .inr ⟨by rw [List.flatten_cons]; exact List.mem_append_right _ h1, fun h2 => hn.2.2 k h2 k h1 rfl⟩
 | s :: ss, i + 1, s', hi, hn, hk => by
  have hi' : ss[i]? = some s' := by simpa using hi
  rw [List.flatten_cons, List.nodup_append] at hn
  rw [List.set_cons_succ, List.flatten_cons, List.mem_append] at hk
  rcases hk with h1 | h1
  · exact .inr ⟨by rw [List.flatten_cons]; exact List.mem_append_left _ h1, fun h2 => hn.2.2 k h1 k (List.mem_flatten.2 ⟨s', List.mem_of_getElem? hi', h2⟩) rfl⟩
  · rcases flat_set_out hi' hn.2.1 h1 with h2 | h2
    · exact .inl h2
    · exact .inr ⟨by rw [List.flatten_cons]; exact List.mem_append_right _ h2.1, h2.2⟩
/-- one piece, handed to what writes in its blocks alone -/
theorem Mem.at_ {w0 w : World} {s0 : List Nat} {L : List Asn} (h : Mem w0 s0 w L) (i : Nat) {P : Asn} (hi : L[i]? = some P) :
 ∃ s, P.at_ w s ∧ ∀ {w' : World} {Q : Asn} {N : List Asn}, Mem w s w' (Q :: N) → Mem w0 s0 w' (L.set i Q ++ N) := by
 obtain ⟨ss, hH, hn, hs⟩ := h.ex
 obtain ⟨s, hsi, hP⟩ := hH.get hi
 have hlt := hH.lt
 have hmem : ∀ k ∈ s, k ∈ ss.flatten := fun k hk => List.mem_flatten.2 ⟨s, List.mem_of_getElem? hsi, hk⟩
 refine ⟨s, hP, fun {w' Q N} hc => ?_⟩
 obtain ⟨tt, hT, hm, ht⟩ := hc.ex
 cases tt with
 | nil => cases hT
 | cons t tt =>
  rw [List.flatten_cons, List.nodup_append] at hm
  have htin : ∀ k ∈ t, k ∈ s ∨ w.heap.size ≤ k := fun k hk => ht k (by rw [List.flatten_cons]; exact List.mem_append_left _ hk)
  have httin : ∀ k ∈ tt.flatten, k ∈ s ∨ w.heap.size ≤ k := fun k hk => ht k (by rw [List.flatten_cons]; exact List.mem_append_right _ hk)
  refine ⟨h.upd.trans hc.upd (fun k hk => hs k (hmem k hk)), ss.set i t ++ tt, (hH.set hT.1 hsi hn (fun k hk hns => hc.upd.block k (hlt k hk) hns)).append hT.2, ?_, ?_⟩
  · rw [List.flatten_append, List.nodup_append]
    refine ⟨flat_set_nodup hm.1 hsi hn (fun k hk => ?_), hm.2.1, fun a ha b hb e => ?_⟩
    · rcases htin k hk with h1 | h1
      · exact .inl h1
      · exact .inr (fun h2 => by have := hlt k h2; omega)
    · subst e
      rcases flat_set_out hsi hn ha with h1 | h1
      · exact hm.2.2 a h1 a hb rfl
      · rcases httin a hb with h2 | h2
        · exact h1.2 h2
        · have := hlt a h1.1; omega
  · intro k hk
    rw [List.flatten_append, List.mem_append] at hk
    have up : k ∈ s ∨ w.heap.size ≤ k → k ∈ s0 ∨ w0.heap.size ≤ k := fun h1 => by
     rcases h1 with h1 | h1
     · exact hs k (hmem k h1)
     · exact .inr (Nat.le_trans h.size h1)
    rcases hk with hk | hk
    · rcases flat_set_out hsi hn hk with h1 | h1
      · exact up (htin k h1)
      · exact hs k h1.1
    · exact up (httin k hk)
theorem Mem.set1 {w0 w : World} {s0 : List Nat} {L : List Asn} (h : Mem w0 s0 w L) (i : Nat) {P : Asn} (hi : L[i]? = some P) :
 ∃ s, P.at_ w s ∧ ∀ {w' : World} {Q : Asn}, Mem w s w' [Q] → Mem w0 s0 w' (L.set i Q) := by
 obtain ⟨s, hP, hK⟩ := h.at_ i hi
 exact ⟨s, hP, fun {w' Q} hc => by simpa using hK hc⟩
/-- a piece is let go -/
theorem Mem.drop {w0 w : World} {s0 : List Nat} {P : Asn} {L : List Asn} (h : Mem w0 s0 w (P :: L)) : Mem w0 s0 w L := by
 obtain ⟨ss, hH, hn, hs⟩ := h.ex
 cases ss with
 | nil => cases hH
 | cons s ss =>
  rw [List.flatten_cons, List.nodup_append] at hn
  exact ⟨h.upd, ss, hH.2, hn.2.1, fun k hk => hs k (by rw [List.flatten_cons]; exact List.mem_append_right _ hk)⟩
theorem Mem.nil {w0 w : World} {s0 : List Nat} {L : List Asn} (h : Mem w0 s0 w L) : Mem w0 s0 w [] := ⟨h.upd, [], trivial, by simp, by simp⟩
/-- a piece under a quantifier -/
def ex {α : Type} (P : α → Asn) : Asn where
 at_ w s := ∃ x, (P x).at_ w s
 nd := by rintro w s ⟨x, h⟩; exact (P x).nd h
 lt := by rintro w s ⟨x, h⟩; exact (P x).lt h
 keep := by rintro w w' s ⟨x, h⟩ hk; exact ⟨x, (P x).keep h hk⟩
/-- a piece with a plain condition -/
def wh (p : Prop) (P : Asn) : Asn where
 at_ w s := p ∧ P.at_ w s
 nd := by rintro w s ⟨_, h⟩; exact P.nd h
 lt := by rintro w s ⟨_, h⟩; exact P.lt h
 keep := by rintro w w' s ⟨hp, h⟩ hk; exact ⟨hp, P.keep h hk⟩
/-- block b is the row cs -/
def blk (b T : Nat) (cs : Array Value) : Asn where
 at_ w s := s = [b] ∧ Rg.Blk w b T cs
 nd := by rintro _ _ ⟨rfl, _⟩; simp
 lt := by rintro _ _ ⟨rfl, h⟩ k hk; simp at hk; subst hk; exact h.lt
 keep := by rintro w w' _ ⟨rfl, h⟩ hk; exact ⟨rfl, by unfold Rg.Blk; rw [hk b (by simp)]; exact h⟩
theorem ownsRow_keep {w w' : World} {B : Nat} {E size : Nat} {v : Value} {n : Nat} {xs : List Value} (h : w.ownsRow B E size v n xs) (hk : ∀ k, v.ownBlock = some k → w'.heap[k]? = w.heap[k]?) : w'.ownsRow B E size v n xs := by
 refine ⟨h.1, ?_⟩
 rcases h.2 with h0 | ⟨g, cap, cur, hv, hb, hg, rest⟩
 · exact .inl h0
 · exact .inr ⟨g, cap, cur, hv, hb, (hk g (by rw [hv]; rfl)).trans hg, rest⟩
/-- v is a slice of n elements of size cells, xs, in a block of its own -/
def ownR (E size : Nat) (v : Value) (n : Nat) (xs : List Value) : Asn where
 at_ w s := s = v.ownBlock.toList ∧ w.ownsRow 0 E size v n xs
 nd := by rintro _ _ ⟨rfl, _⟩; cases v.ownBlock <;> simp
 lt := by rintro w _ ⟨rfl, h⟩ k hk; exact (World.ownsRow.lt h k (by simpa using hk)).2
 keep := by rintro w w' _ ⟨rfl, h⟩ hk; exact ⟨rfl, ownsRow_keep h (fun k hk' => hk k (by rw [hk']; simp))⟩
/-- v is a slice that holds xs, in a block of its own -/
def own (E : TypeId) (v : Value) (xs : List Value) : Asn := ownR E 1 v xs.length xs
theorem own_mk {w : World} {B : Nat} {E : TypeId} {v : Value} {xs : List Value} (h : Ow.Owns w B E v xs) : (own E v xs).at_ w v.ownBlock.toList := ⟨rfl, ⟨h.1, h.2.imp id (fun ⟨g, cap, cur, hv, hb, rest⟩ => ⟨g, cap, cur, hv, Nat.zero_le _, rest⟩)⟩⟩
section
variable {w0 w w' : World} {s0 : List Nat} {L : List Asn}
theorem Mem.blk (h : Mem w0 s0 w L) (i : Nat) {b T : Nat} {cs : Array Value} (hi : L[i]? = some (blk b T cs)) : Rg.Blk w b T cs := by
 obtain ⟨s, hP, _⟩ := h.get i hi
 exact hP.2
theorem Mem.own (h : Mem w0 s0 w L) (i : Nat) {E : Nat} {v : Value} {xs : List Value} (hi : L[i]? = some (own E v xs)) : Ow.Owns w 0 E v xs := by
 obtain ⟨s, hP, _⟩ := h.get i hi
 exact hP.2
/-- a new block -/
theorem Mem.alloc (h : Mem w0 s0 w L) (cs : Array Value) (T : Nat) : Mem w0 s0 (w.alloc (.cells cs T)) (L ++ [Sp.blk w.heap.size T cs]) :=
 h.call0 ⟨Upd.of_below ((Below.refl _ _).alloc (Nat.le_refl _) _), [[w.heap.size]], ⟨⟨rfl, Rg.Blk.new w _ _⟩, trivial⟩, by simp, by simp⟩
theorem Mem.drew (h : Mem w0 s0 w L) : Mem w0 s0 w.drew L := h.below (Below.drew (Below.refl _ _))
/-- block b was written -/
theorem Mem.store (h : Mem w0 s0 w L) (i : Nat) {b T T' : Nat} {cs cs' : Array Value} (hi : L[i]? = some (Sp.blk b T cs)) (hb : Rg.Blk w' b T' cs') (hg : w.grownBy w' (some b)) : Mem w0 s0 w' (L.set i (Sp.blk b T' cs')) := by
 obtain ⟨s, ⟨rfl, _⟩, hK⟩ := h.set1 i hi
 exact hK ⟨Upd.of_grown1 hg, [[b]], ⟨⟨rfl, hb⟩, trivial⟩, by simp, by simp⟩
/-- a slice was written, or carried over into a new block -/
theorem Mem.app (h : Mem w0 s0 w L) (i : Nat) {E : Nat} {v v' : Value} {xs ys : List Value} (hi : L[i]? = some (Sp.own E v xs)) (ho : Ow.Owns w' 0 E v' ys) (hg : w.grownBy w' v.ownBlock) (hat : v'.ownBlock = v.ownBlock ∨ ∃ k, v'.ownBlock = some k ∧ w.heap.size ≤ k) : Mem w0 s0 w' (L.set i (Sp.own E v' ys)) := by
 obtain ⟨s, ⟨rfl, _⟩, hK⟩ := h.set1 i hi
 refine hK ⟨Upd.of_grown hg, [v'.ownBlock.toList], ⟨own_mk ho, trivial⟩, by cases v'.ownBlock <;> simp, fun k hk => ?_⟩
 rcases hat with e | ⟨k', e, hk'⟩
 · exact .inl (by rw [← e]; simpa using hk)
 · exact .inr (by rw [e] at hk; simp at hk; omega)
/-- what was there at the start reads als it did -/
theorem Mem.rd (h : Mem w0 [] w L) {A : Option Addr} {xs : List Value} (hR : Ow.Rd w0 A xs) : Ow.Rd w A xs := hR.below h.bel
end
theorem Holds.owns {w : World} {L : List Asn} {ss : List (List Nat)} (h : Holds w L ss) (i : Nat) {E : Nat} {v : Value} {xs : List Value} (hi : L[i]? = some (own E v xs)) : Ow.Owns w 0 E v xs := by
 obtain ⟨s, _, hP⟩ := h.get hi
 exact hP.2
/-- V is als w, save in the blocks from a to b -/
structure Out (a b : Nat) (w V : World) : Prop where
 size : w.heap.size ≤ V.heap.size
 keep : ∀ k, k < w.heap.size → (k < a ∨ b ≤ k) → V.heap[k]? = w.heap[k]?
theorem Out.refl (a b : Nat) (w : World) : Out a b w w := ⟨Nat.le_refl _, fun _ _ _ => rfl⟩
theorem Out.below {a b : Nat} {w V V' : World} (h : Out a b w V) (hb : Below V.heap.size V V') : Out a b w V' :=
 ⟨Nat.le_trans h.size hb.size, fun k hk ho => (hb.block k (Nat.lt_of_lt_of_le hk h.size)).trans (h.keep k hk ho)⟩
theorem Out.grown {a b g : Nat} {w V V' : World} (h : Out a b w V) (hb : V.grownBy V' (some g)) (hg : a ≤ g) (hg2 : g < b) : Out a b w V' :=
 ⟨Nat.le_trans h.size hb.size, fun k hk ho => (hb.block k (Nat.lt_of_lt_of_le hk h.size) (fun e => by injection e with e; omega)).trans (h.keep k hk ho)⟩
end Go.Proofs.YtfpcelmekfdafaaGreatDoor.Sp
namespace Go.Proofs.YtfpcelmekfdafaaGreatDoor.RL
open Go.RowKit
section
variable {P : Program} {md : Region.Mode} {ops : Array Oper} {Q : Exit → Act → World → Prop} {S : World → Prop}
theorem tv (i : Nat) {oi : Oper} {v : Value} {fuel : Nat} {listed : Array Bool} {a : Act} {w : World} (hv : ∀ w, S w → (execOp a.eval oi).run P w = .ok (.value v) w)
    (h : H P md ops Q S w fuel (listed.setIfInBounds i true) (a.put oi.dst v)) (hi : ops.toList[i]? = some oi := by rfl)
    (hB : (Region.noSelect ops && (Region.free md ops listed i && (Region.ready md ops listed).contains i)) = true := by kernel_rfl)
    (hQ : ∀ c a w, Q (.panic c) (a.put oi.dst v) w → Q (.panic c) a w := by exact fun _ _ _ h => h) (hw : Region.wanted oi (yielded ops a.tmps) = true := by rfl) : H P md ops Q S w (fuel + 1) listed a := by
  rw [Bool.and_eq_true, Bool.and_eq_true] at hB
  exact takeV hi hB.1 hB.2.1 hB.2.2 hQ hw hv h
theorem tw (i : Nat) {oi : Oper} {v : Value} {fuel : Nat} {listed : Array Bool} {a : Act} {w : World} (hi : ops.toList[i]? = some oi) (hv : ∀ w, S w → (execOp a.eval oi).run P w = .ok (.value v) w)
    (h : H P md ops Q S w fuel (listed.setIfInBounds i true) (a.put oi.dst v))
    (hB : (Region.noSelect ops && (Region.free md ops listed i && (Region.ready md ops listed).contains i)) = true := by kernel_rfl)
    (hQ : ∀ c a w, Q (.panic c) (a.put oi.dst v) w → Q (.panic c) a w := by exact fun _ _ _ h => h) (hw : Region.wanted oi (yielded ops a.tmps) = true := by rfl) : H P md ops Q S w (fuel + 1) listed a := by
  rw [Bool.and_eq_true, Bool.and_eq_true] at hB
  exact takeV hi hB.1 hB.2.1 hB.2.2 hQ hw hv h
theorem tc (i : Nat) {oi : Oper} {v : Value} {fuel : Nat} {listed : Array Bool} {a : Act} {w : World} (f : FuncId) (args : Array Value) (hv : ∀ w, (execOp a.eval oi).run P w = .ok (.enter f args) w)
    (hc : ∀ w, S w → Calls P f args w fun e w' => e = .returned v ∧ Lat w w' ∧ S w')
    (h : H P md ops Q S w fuel (listed.setIfInBounds i true) (a.put oi.dst v)) (hi : ops.toList[i]? = some oi := by rfl)
    (hB : (Region.noSelect ops && (Region.free md ops listed i && (Region.ready md ops listed).contains i)) = true := by kernel_rfl)
    (hQ : ∀ c a w, Q (.panic c) (a.put oi.dst v) w → Q (.panic c) a w := by exact fun _ _ _ h => h) (hw : Region.wanted oi (yielded ops a.tmps) = true := by rfl) : H P md ops Q S w (fuel + 1) listed a := by
  rw [Bool.and_eq_true, Bool.and_eq_true] at hB
  exact takeC f args hi hB.1 hB.2.1 hB.2.2 hQ hw hv hc h
theorem sk (i : Nat) {o : Oper} {fuel : Nat} {listed : Array Bool} {a : Act} {w : World} (h : ∀ w', Lat w w' → S w' → ∀ K : Act → World → Prop, Shut (∀ a' w'', S w'' → H P md ops Q S w'' fuel (listed.setIfInBounds i true) a' → K a' w'') → Oper.wp P o a w' K Q)
    (ho : ops.toList[i]? = some o := by rfl) (hr : Region.ready md ops listed = [i] := by kernel_rfl) (hw : Region.wanted o (yielded ops a.tmps) = true := by rfl) : H P md ops Q S w (fuel + 1) listed a := stepK ho hr hw h
end
end Go.Proofs.YtfpcelmekfdafaaGreatDoor.RL
namespace Go.Proofs.YtfpcelmekfdafaaGreatDoor
open Go.RowKit
theorem ϕ {p : Prop} (h : p) : RowKit.Hid p := h
theorem tm {w w1 w2 : World} (h : RowKit.Hid (Below w.heap.size w w1)) (hb : Below w1.heap.size w1 w2) : RowKit.Hid (Below w.heap.size w w2) := h.out.trans (hb.mono h.out.size)
theorem bl {w w1 : World} {b T : Nat} {cs : Array Value} (h : RowKit.Hid (Rg.Blk w b T cs)) (hb : Below w.heap.size w w1) : RowKit.Hid (Rg.Blk w1 b T cs) := h.out.below hb h.out.lt
abbrev z32 : Array Value := #[.int .u8 0, .int .u8 0, .int .u8 0, .int .u8 0, .int .u8 0, .int .u8 0, .int .u8 0, .int .u8 0, .int .u8 0, .int .u8 0, .int .u8 0, .int .u8 0, .int .u8 0, .int .u8 0, .int .u8 0, .int .u8 0, .int .u8 0, .int .u8 0, .int .u8 0, .int .u8 0, .int .u8 0, .int .u8 0, .int .u8 0, .int .u8 0, .int .u8 0, .int .u8 0, .int .u8 0, .int .u8 0, .int .u8 0, .int .u8 0, .int .u8 0, .int .u8 0]
abbrev q20 : Array Value := #[.int .u64 0, .int .u64 0, .int .u64 0, .int .u64 0, .int .u64 0, .int .u64 0, .int .u64 0, .int .u64 0, .int .u64 0, .int .u64 0, .int .u64 0, .int .u64 0, .int .u64 0, .int .u64 0, .int .u64 0, .int .u64 0, .int .u64 0, .int .u64 0, .int .u64 0, .int .u64 0]
end Go.Proofs.YtfpcelmekfdafaaGreatDoor
namespace Go.Proofs
open Go.Shelf
open Go.RowKit in
def Tryz.lays169_ren : Go.Shelf.Ren := ⟨fun | 169 => 102 | n => n, fun | 70 => 127 | 9 => 9 | 0 => 0 | 72 => 129 | 37 => 25 | 127 => 146 | 3 => 3 | 5 => 5 | n => n, fun | n => n⟩
theorem Tryz.lays169 : Go.Proofs.Lays.n169 Tryz.prog Tryz.lays169_ren := {
 mixed := by kernel_rfl
 f169 := Tryz.func102.trans (congrArg some (by kernel_rfl))
 t0 := Tryz.underlying0
 a0 := Tryz.isAgg0
 z0 := Tryz.sizeOf0
 v0 := Tryz.zeroValue0
 t3 := Tryz.underlying3
 a3 := Tryz.isAgg3
 z3 := Tryz.sizeOf3
 v3 := Tryz.zeroValue3
 t9 := Tryz.underlying9
 a9 := Tryz.isAgg9
 z9 := Tryz.sizeOf9
 v9 := Tryz.zeroValue9
 t37 := Tryz.underlying25
 a37 := Tryz.isAgg25
 z37 := Tryz.sizeOf25
 v37 := Tryz.zeroValue25
 t70 := Tryz.underlying127
 a70 := Tryz.isAgg127
 z70 := Tryz.sizeOf127
 v70 := Tryz.zeroValue127
 t72 := Tryz.underlying129
 a72 := Tryz.isAgg129
 z72 := Tryz.sizeOf129
 v72 := Tryz.zeroValue129
 t127 := Tryz.underlying146
 a127 := Tryz.isAgg146
 z127 := Tryz.sizeOf146
 v127 := Tryz.zeroValue146 }
theorem Tryz.Builder_Extra_169 : Builder.Extra Tryz.prog Tryz.lays169_ren := {
 sizeBuilder := by kernel_rfl
 liesBuilder := by kernel_rfl
 t5 := Tryz.underlying5
 a5 := Tryz.isAgg5
 z5 := Tryz.sizeOf5
 v5 := Tryz.zeroValue5
 infoByte := by kernel_rfl
 cellsByte := by kernel_rfl
 sizeByte := by kernel_rfl
 neB5 := by decide }
open Go.RowKit in
open Go.RowKit in
open Go.RowKit in
/-- (*strings.Builder).String: "String returns the accumulated string.": WHATEVER THE BUILDER HOLDS. (LAID: no walk: one application.) -/
theorem Tryz.Builder_String_any (B b : Nat) (l : List UInt8) (w : World) (h : Lib.IsBuilder 129 5 B b (Lib.byteCells l) w) (hBw : B ≤ w.heap.size) :
 Calls Tryz.prog 102 #[.pointer (some ⟨b, 0, none⟩)] w fun e w' => e = .returned (.string ⟨l.toArray⟩) ∧ Below B w w' := Any.Builder_String_any Tryz.lays169 Tryz.Builder_Extra_169 B b l w h hBw
open Go.RowKit in
open Go.RowKit in
def Tryz.lays156_ren : Go.Shelf.Ren := ⟨fun | 156 => 99 | 165 => 108 | 166 => 109 | 169 => 102 | 240 => 113 | 241 => 118 | 276 => 121 | 277 => 124 | n => n, fun | 31 => 90 | 9 => 9 | 3 => 3 | 4 => 4 | 0 => 0 | 20 => 20 | 72 => 129 | 76 => 140 | 70 => 127 | 37 => 25 | 75 => 131 | 127 => 146 | 164 => 153 | 5 => 5 | 80 => 133 | n => n, fun | n => n⟩
theorem Tryz.lays156 : Go.Proofs.Lays.n156 Tryz.prog Tryz.lays156_ren := {
 mixed := by kernel_rfl
 f156 := Tryz.func99.trans (congrArg some (by kernel_rfl))
 f165 := Tryz.func108.trans (congrArg some (by kernel_rfl))
 f166 := Tryz.func109.trans (congrArg some (by kernel_rfl))
 f169 := Tryz.func102.trans (congrArg some (by kernel_rfl))
 f240 := Tryz.func113.trans (congrArg some (by kernel_rfl))
 f241 := Tryz.func118.trans (congrArg some (by kernel_rfl))
 f276 := Tryz.func121.trans (congrArg some (by kernel_rfl))
 f277 := Tryz.func124.trans (congrArg some (by kernel_rfl))
 t0 := Tryz.underlying0
 a0 := Tryz.isAgg0
 z0 := Tryz.sizeOf0
 v0 := Tryz.zeroValue0
 t3 := Tryz.underlying3
 a3 := Tryz.isAgg3
 z3 := Tryz.sizeOf3
 v3 := Tryz.zeroValue3
 t4 := Tryz.underlying4
 a4 := Tryz.isAgg4
 z4 := Tryz.sizeOf4
 v4 := Tryz.zeroValue4
 t9 := Tryz.underlying9
 a9 := Tryz.isAgg9
 z9 := Tryz.sizeOf9
 v9 := Tryz.zeroValue9
 t20 := Tryz.underlying20
 a20 := Tryz.isAgg20
 z20 := Tryz.sizeOf20
 v20 := Tryz.zeroValue20
 t31 := Tryz.underlying90
 a31 := Tryz.isAgg90
 z31 := Tryz.sizeOf90
 v31 := Tryz.zeroValue90
 t37 := Tryz.underlying25
 a37 := Tryz.isAgg25
 z37 := Tryz.sizeOf25
 v37 := Tryz.zeroValue25
 t70 := Tryz.underlying127
 a70 := Tryz.isAgg127
 z70 := Tryz.sizeOf127
 v70 := Tryz.zeroValue127
 t72 := Tryz.underlying129
 a72 := Tryz.isAgg129
 z72 := Tryz.sizeOf129
 v72 := Tryz.zeroValue129
 t75 := Tryz.underlying131
 a75 := Tryz.isAgg131
 z75 := Tryz.sizeOf131
 v75 := Tryz.zeroValue131
 t76 := Tryz.underlying140
 a76 := Tryz.isAgg140
 z76 := Tryz.sizeOf140
 v76 := Tryz.zeroValue140
 t127 := Tryz.underlying146
 a127 := Tryz.isAgg146
 z127 := Tryz.sizeOf146
 v127 := Tryz.zeroValue146
 t164 := Tryz.underlying153
 a164 := Tryz.isAgg153
 z164 := Tryz.sizeOf153
 v164 := Tryz.zeroValue153 }
theorem Tryz.Builder_Extra_156 : Builder.Extra Tryz.prog Tryz.lays156_ren := {
 sizeBuilder := by kernel_rfl
 liesBuilder := by kernel_rfl
 t5 := Tryz.underlying5
 a5 := Tryz.isAgg5
 z5 := Tryz.sizeOf5
 v5 := Tryz.zeroValue5
 infoByte := by kernel_rfl
 cellsByte := by kernel_rfl
 sizeByte := by kernel_rfl
 neB5 := by decide }
open Go.RowKit in
/-- No element: the empty string; the world is as it was. (Whatever the slice's address and capacity: a nil slice too.) (LAID: no walk: one application.) -/
theorem Tryz.strings_Join_none (a : Option Addr) (c : Nat) (sep : ByteArray) (w : World) :
 Calls Tryz.prog 99 #[.slice a 0 c, .string sep] w fun e w' => e = .returned (.string ⟨#[]⟩) ∧ w' = w := Any.strings_Join_none Tryz.lays156 Tryz.Builder_Extra_156 a c sep w
open Go.RowKit in
/-- strings.Join: "Join concatenates the elements of its first argument to create a single string. The separator string sep is placed between elements in the resulting string.": HOWEVER MANY ELEMENTS. Below the heap's end the world is as it was. (LAID: no walk: one application.) -/
theorem Tryz.strings_Join (bk o c : Nat) (xs : List ByteArray) (sep : ByteArray) (w : World) (hcells : ∀ (j : Nat) x, xs[j]? = some x → w.cell? ⟨bk, o + j, none⟩ = some (.string x)) (hbk : bk < w.heap.size) (hN : xs.length ≤ 140737488355328) (hcap : xs.length ≤ c) (hlen : (Lib.join (xs.map (·.data.toList)) sep.data.toList).length ≤ 140737488355328) :
 Calls Tryz.prog 99 #[.slice (some ⟨bk, o, none⟩) xs.length c, .string sep] w fun e w' => e = .returned (.string ⟨(Lib.join (xs.map (·.data.toList)) sep.data.toList).toArray⟩) ∧ Below w.heap.size w w' := Any.strings_Join Tryz.lays156 Tryz.Builder_Extra_156 bk o c xs sep w hcells hbk hN hcap hlen
open Go.RowKit in
open Go.RowKit in
open Go.RowKit in
open Go.RowKit in
open Go.RowKit in
open Go.RowKit in
open Go.RowKit in
open Go.RowKit in
open Go.RowKit in
open Go.RowKit Go.Lib in
open Go.RowKit Go.Lib in
def Tryz.lays264_ren : Go.Shelf.Ren := ⟨fun | 264 => 82 | n => n, fun | 53 => 46 | 46 => 94 | n => n, fun | n => n⟩
theorem Tryz.lays264 : Go.Proofs.Lays.n264 Tryz.prog Tryz.lays264_ren := {
 mixed := by kernel_rfl
 f264 := Tryz.func82.trans (congrArg some (by kernel_rfl))
 t46 := Tryz.underlying94
 a46 := Tryz.isAgg94
 z46 := Tryz.sizeOf94
 v46 := Tryz.zeroValue94
 t53 := Tryz.underlying46
 a53 := Tryz.isAgg46
 z53 := Tryz.sizeOf46
 v53 := Tryz.zeroValue46 }
open Go.RowKit Go.Lib in
theorem Tryz.bits_Mul64 (x y : Nat) (hx : x < 18446744073709551616) (hy : y < 18446744073709551616) (w : World) :
 Calls Tryz.prog 82 #[.int .u64 x, .int .u64 y] w fun e w' => e = .returned (.tuple #[.int .u64 ((x * y / 18446744073709551616 : Nat) : Int), .int .u64 ((x * y % 18446744073709551616 : Nat) : Int)]) ∧ w' = w := Any.bits_Mul64 Tryz.lays264 x y hx hy w
open Go.RowKit Go.Lib in
def Tryz.lays105_ren : Go.Shelf.Ren := ⟨fun | 105 => 100 | 212 => 110 | 99 => 111 | 165 => 108 | 166 => 109 | 170 => 112 | 169 => 102 | 263 => 119 | 264 => 82 | 206 => 120 | 240 => 113 | 241 => 118 | 276 => 121 | 277 => 124 | n => n, fun | 9 => 9 | 3 => 3 | 4 => 4 | 20 => 20 | 0 => 0 | 46 => 94 | 109 => 142 | 5 => 5 | 72 => 129 | 76 => 140 | 51 => 97 | 146 => 151 | 53 => 46 | 148 => 106 | 70 => 127 | 37 => 25 | 75 => 131 | 127 => 146 | 164 => 153 | 80 => 133 | n => n, fun | n => n⟩
theorem Tryz.lays105 : Go.Proofs.Lays.n105 Tryz.prog Tryz.lays105_ren := {
 mixed := by kernel_rfl
 f99 := Tryz.func111.trans (congrArg some (by kernel_rfl))
 f105 := Tryz.func100.trans (congrArg some (by kernel_rfl))
 f165 := Tryz.func108.trans (congrArg some (by kernel_rfl))
 f166 := Tryz.func109.trans (congrArg some (by kernel_rfl))
 f169 := Tryz.func102.trans (congrArg some (by kernel_rfl))
 f170 := Tryz.func112.trans (congrArg some (by kernel_rfl))
 f206 := Tryz.func120.trans (congrArg some (by kernel_rfl))
 f212 := Tryz.func110.trans (congrArg some (by kernel_rfl))
 f240 := Tryz.func113.trans (congrArg some (by kernel_rfl))
 f241 := Tryz.func118.trans (congrArg some (by kernel_rfl))
 f263 := Tryz.func119.trans (congrArg some (by kernel_rfl))
 f264 := Tryz.func82.trans (congrArg some (by kernel_rfl))
 f276 := Tryz.func121.trans (congrArg some (by kernel_rfl))
 f277 := Tryz.func124.trans (congrArg some (by kernel_rfl))
 t0 := Tryz.underlying0
 a0 := Tryz.isAgg0
 z0 := Tryz.sizeOf0
 v0 := Tryz.zeroValue0
 t3 := Tryz.underlying3
 a3 := Tryz.isAgg3
 z3 := Tryz.sizeOf3
 v3 := Tryz.zeroValue3
 t4 := Tryz.underlying4
 a4 := Tryz.isAgg4
 z4 := Tryz.sizeOf4
 v4 := Tryz.zeroValue4
 t5 := Tryz.underlying5
 a5 := Tryz.isAgg5
 z5 := Tryz.sizeOf5
 v5 := Tryz.zeroValue5
 t9 := Tryz.underlying9
 a9 := Tryz.isAgg9
 z9 := Tryz.sizeOf9
 v9 := Tryz.zeroValue9
 t20 := Tryz.underlying20
 a20 := Tryz.isAgg20
 z20 := Tryz.sizeOf20
 v20 := Tryz.zeroValue20
 t37 := Tryz.underlying25
 a37 := Tryz.isAgg25
 z37 := Tryz.sizeOf25
 v37 := Tryz.zeroValue25
 t46 := Tryz.underlying94
 a46 := Tryz.isAgg94
 z46 := Tryz.sizeOf94
 v46 := Tryz.zeroValue94
 t51 := Tryz.underlying97
 a51 := Tryz.isAgg97
 z51 := Tryz.sizeOf97
 v51 := Tryz.zeroValue97
 t53 := Tryz.underlying46
 a53 := Tryz.isAgg46
 z53 := Tryz.sizeOf46
 v53 := Tryz.zeroValue46
 t70 := Tryz.underlying127
 a70 := Tryz.isAgg127
 z70 := Tryz.sizeOf127
 v70 := Tryz.zeroValue127
 t72 := Tryz.underlying129
 a72 := Tryz.isAgg129
 z72 := Tryz.sizeOf129
 v72 := Tryz.zeroValue129
 t75 := Tryz.underlying131
 a75 := Tryz.isAgg131
 z75 := Tryz.sizeOf131
 v75 := Tryz.zeroValue131
 t76 := Tryz.underlying140
 a76 := Tryz.isAgg140
 z76 := Tryz.sizeOf140
 v76 := Tryz.zeroValue140
 t109 := Tryz.underlying142
 a109 := Tryz.isAgg142
 z109 := Tryz.sizeOf142
 v109 := Tryz.zeroValue142
 t127 := Tryz.underlying146
 a127 := Tryz.isAgg146
 z127 := Tryz.sizeOf146
 v127 := Tryz.zeroValue146
 t146 := Tryz.underlying151
 a146 := Tryz.isAgg151
 z146 := Tryz.sizeOf151
 v146 := Tryz.zeroValue151
 t148 := Tryz.underlying106
 a148 := Tryz.isAgg106
 z148 := Tryz.sizeOf106
 v148 := Tryz.zeroValue106
 t164 := Tryz.underlying153
 a164 := Tryz.isAgg153
 z164 := Tryz.sizeOf153
 v164 := Tryz.zeroValue153 }
theorem Tryz.Builder_Extra_105 : Builder.Extra Tryz.prog Tryz.lays105_ren := {
 sizeBuilder := by kernel_rfl
 liesBuilder := by kernel_rfl
 t5 := Tryz.underlying5
 a5 := Tryz.isAgg5
 z5 := Tryz.sizeOf5
 v5 := Tryz.zeroValue5
 infoByte := by kernel_rfl
 cellsByte := by kernel_rfl
 sizeByte := by kernel_rfl
 neB5 := by decide }
open Go.RowKit Go.Lib in
open Go.RowKit Go.Lib in
open Go.RowKit Go.Lib in
open Go.RowKit Go.Lib in
open Go.RowKit Go.Lib in
open Go.RowKit Go.Lib in
open Go.RowKit Go.Lib in
/-- **strings.Repeat: count ≥ 0, the result within one allocation: count copies of s.** (LAID: no walk: one application.) -/
theorem Tryz.strings_Repeat (s : ByteArray) (c : Nat) (w : World) (hc : c ≤ 9223372036854775807) (hlen : s.size * c ≤ 140737488355328) :
 Calls Tryz.prog 100 #[.string s, .int .i64 c] w fun e w' => e = .returned (.string ⟨(Lib.repeatL s.data.toList c).toArray⟩) ∧ Below w.heap.size w w' := Any.strings_Repeat Tryz.lays105 Tryz.Builder_Extra_105 s c w hc hlen
end Go.Proofs
namespace Go.Proofs.YtfpcelmekfdafaaGreatDoor.Kx
open Go.RowKit Go.Proofs.YtfpcelmekfdafaaGreatDoor.Cl
def M : Nat := 18446744073709551616
def M2 : Nat := 340282366920938463463374607431768211456
def W : Nat := 2251799813685248
/-- five limbs -/
structure E where
 a : Nat
 b : Nat
 c : Nat
 d : Nat
 e : Nat
deriving DecidableEq
def E.l (x : E) : List Nat := [x.a, x.b, x.c, x.d, x.e]
theorem E.len (x : E) : x.l.length = 5 := rfl
/-- each fits in a word -/
def E.ok (x : E) : Prop := ∀ j, nth x.l j < M
def it {S : Type} (f : Nat → S → S) : Nat → S → S
 | 0, s => s
 | n + 1, s => f n (it f n s)
def carry : E → E
 | ⟨a, b, c, d, e⟩ =>
  let a1 := a % M
  let b1 := (b + a1 / W) % M
  let c1 := (c + b1 / W) % M
  let d1 := (d + c1 / W) % M
  let e1 := (e + d1 / W) % M
  ⟨(a1 % W + e1 / W * 19 % M) % M, b1 % W, c1 % W, d1 % W, e1 % W⟩
/-- a round of carry -/
def cr (i : Nat) (s : Nat × List Nat) : Nat × List Nat := ((nth s.2 i + s.1) % M / W, s.2.set i ((nth s.2 i + s.1) % M % W))
theorem carry_it (x : E) : (it cr 5 (0, x.l)).2.set 0 ((nth (it cr 5 (0, x.l)).2 0 + (it cr 5 (0, x.l)).1 * 19 % M) % M) = (carry x).l := by
 cases x
 simp [it, cr, nth, E.l, carry]
theorem cr_len (i : Nat) (s : Nat × List Nat) : (cr i s).2.length = s.2.length := by unfold cr; simp
theorem it_cr_len (n : Nat) (s : Nat × List Nat) : (it cr n s).2.length = s.2.length := by
 induction n with
 | zero => rfl
 | succ n ih => unfold it; rw [cr_len, ih]
theorem nth_set_ne {l : List Nat} {i j v : Nat} (h : i ≠ j) : nth (l.set i v) j = nth l j := by unfold nth; simp [List.getElem?_set, h]
theorem nth_set {l : List Nat} {i : Nat} (h : i < l.length) (v : Nat) : nth (l.set i v) i = v := by unfold nth; simp [h]
theorem mod_lt_M (x : Nat) : x % M < M := Nat.mod_lt _ (by decide)
theorem mod_lt_W (x : Nat) : x % W < W := Nat.mod_lt _ (by decide)
theorem W_lt_M : W < M := by decide
theorem E.ok5 {a b c d e : Nat} (ha : a < M) (hb : b < M) (hc : c < M) (hd : d < M) (he : e < M) : E.ok ⟨a, b, c, d, e⟩ := fun j => by
 match j with
 | 0 => exact ha
 | 1 => exact hb
 | 2 => exact hc
 | 3 => exact hd
 | 4 => exact he
 | j + 5 => simp [E.l, nth, M]
theorem carry_ok (x : E) : (carry x).ok := by
 cases x
 exact E.ok5 (mod_lt_M _) (Nat.lt_trans (mod_lt_W _) W_lt_M) (Nat.lt_trans (mod_lt_W _) W_lt_M) (Nat.lt_trans (mod_lt_W _) W_lt_M) (Nat.lt_trans (mod_lt_W _) W_lt_M)
def small (n : Nat) : E := ⟨n % W, n / W, 0, 0, 0⟩
/-- limb by limb -/
def zip2 (f : Nat → Nat → Nat) (ys : List Nat) (i : Nat) (l : List Nat) : List Nat := l.set i (f (nth l i) (nth ys i))
theorem it_zip_len (f : Nat → Nat → Nat) (ys : List Nat) (n : Nat) (l : List Nat) : (it (zip2 f ys) n l).length = l.length := by
 induction n with
 | zero => rfl
 | succ n ih => unfold it zip2; rw [List.length_set]; exact ih
def addF (x y : Nat) : Nat := (x + y) % M
def subF (x y : Nat) : Nat := (x + (M - y)) % M
def add1 : E → E → E
 | ⟨a, b, c, d, e⟩, ⟨a', b', c', d', e'⟩ => ⟨(a + a') % M, (b + b') % M, (c + c') % M, (d + d') % M, (e + e') % M⟩
def add (x y : E) : E := carry (add1 x y)
theorem add_it (x y : E) : it (zip2 addF y.l) 5 x.l = (add1 x y).l := by
 cases x; cases y
 simp [it, zip2, addF, nth, E.l, add1]
def tw : Nat := 4503599627370494
def tw0 : Nat := 4503599627370458
def subM (m x y : Nat) : Nat := (x + (m - y)) % m
def sub1g (m t0 t : Nat) : E → E → E
 | ⟨a, b, c, d, e⟩, ⟨a', b', c', d', e'⟩ => ⟨((a + t0) % m + (m - a')) % m, ((b + t) % m + (m - b')) % m, ((c + t) % m + (m - c')) % m, ((d + t) % m + (m - d')) % m, ((e + t) % m + (m - e')) % m⟩
def twG (m t : Nat) (j : Nat) (l : List Nat) : List Nat := l.set (j + 1) ((nth l (j + 1) + t) % m)
theorem sub_itg (m t0 t : Nat) (x y : E) : it (zip2 (subM m) y.l) 5 (it (twG m t) 4 (x.l.set 0 ((nth x.l 0 + t0) % m))) = (sub1g m t0 t x y).l := by
 cases x; cases y
 simp [it, zip2, twG, subM, nth, E.l, sub1g]
def sub1 (x y : E) : E := sub1g M tw0 tw x y
def sub (x y : E) : E := carry (sub1 x (carry y))
def twR (j : Nat) (l : List Nat) : List Nat := twG M tw j l
theorem it_tw_len (n : Nat) (l : List Nat) : (it twR n l).length = l.length := by
 induction n with
 | zero => rfl
 | succ n ih => unfold it twR twG; rw [List.length_set]; exact ih
theorem sub_it (x y : E) : it (zip2 subF y.l) 5 (it twR 4 (x.l.set 0 ((nth x.l 0 + tw0) % M))) = (sub1 x y).l := sub_itg M tw0 tw x y
def mulT (xs ys : List Nat) (i k : Nat) (ts : List Nat) : List Nat :=
 if i + k < 5 then ts.set (i + k) (nth ts (i + k) + nth xs i * nth ys k) else ts.set (i + k - 5) (nth ts (i + k - 5) + nth xs i * 19 % M * nth ys k)
def mulR (xs ys : List Nat) (i : Nat) (ts : List Nat) : List Nat := it (mulT xs ys i) 5 ts
def mulS (xs ys : List Nat) : List Nat := it (mulR xs ys) 5 [0, 0, 0, 0, 0]
theorem mulT_len (xs ys : List Nat) (i k : Nat) (ts : List Nat) : (mulT xs ys i k ts).length = ts.length := by unfold mulT; split <;> simp
theorem it_mulT_len (xs ys : List Nat) (i n : Nat) (ts : List Nat) : (it (mulT xs ys i) n ts).length = ts.length := by
 induction n with
 | zero => rfl
 | succ n ih => unfold it; rw [mulT_len, ih]
theorem it_mulR_len (xs ys : List Nat) (n : Nat) (ts : List Nat) : (it (mulR xs ys) n ts).length = ts.length := by
 induction n with
 | zero => rfl
 | succ n ih => rw [show it (mulR xs ys) (n + 1) ts = it (mulT xs ys n) 5 (it (mulR xs ys) n ts) from rfl, it_mulT_len, ih]
/-- a round of what Mul does with the sums -/
def rd (ts : List Nat) (i : Nat) (s : Nat × List Nat) : Nat × List Nat := ((nth ts i + s.1) % M2 / W % M, s.2.set i ((nth ts i + s.1) % M2 % W))
theorem it_rd_len (ts : List Nat) (n : Nat) (s : Nat × List Nat) : (it (rd ts) n s).2.length = s.2.length := by
 induction n with
 | zero => rfl
 | succ n ih => unfold it rd; rw [List.length_set]; exact ih
theorem it_rd_c (ts : List Nat) (n : Nat) : (it (rd ts) n (0, [0, 0, 0, 0, 0])).1 < M := by
 cases n with
 | zero => show (0 : Nat) < M; decide
 | succ n => unfold it rd; exact mod_lt_M _
def mul : E → E → E
 | ⟨a0, a1, a2, a3, a4⟩, ⟨b0, b1, b2, b3, b4⟩ =>
  let c1 := a1 * 19 % M
  let c2 := a2 * 19 % M
  let c3 := a3 * 19 % M
  let c4 := a4 * 19 % M
  let s0 := (a0 * b0 + c1 * b4 + c2 * b3 + c3 * b2 + c4 * b1) % M2
  let s1 := (a0 * b1 + a1 * b0 + c2 * b4 + c3 * b3 + c4 * b2 + s0 / W % M) % M2
  let s2 := (a0 * b2 + a1 * b1 + a2 * b0 + c3 * b4 + c4 * b3 + s1 / W % M) % M2
  let s3 := (a0 * b3 + a1 * b2 + a2 * b1 + a3 * b0 + c4 * b4 + s2 / W % M) % M2
  let s4 := (a0 * b4 + a1 * b3 + a2 * b2 + a3 * b1 + a4 * b0 + s3 / W % M) % M2
  let t := (s4 / W % M * 19 + s0 % W)
  carry ⟨t % W, (s1 % W + t / W % M) % M, s2 % W, s3 % W, s4 % W⟩
theorem mulS_eq (a0 a1 a2 a3 a4 b0 b1 b2 b3 b4 : Nat) : mulS [a0, a1, a2, a3, a4] [b0, b1, b2, b3, b4] =
 [a0 * b0 + a1 * 19 % M * b4 + a2 * 19 % M * b3 + a3 * 19 % M * b2 + a4 * 19 % M * b1,
  a0 * b1 + a1 * b0 + a2 * 19 % M * b4 + a3 * 19 % M * b3 + a4 * 19 % M * b2,
  a0 * b2 + a1 * b1 + a2 * b0 + a3 * 19 % M * b4 + a4 * 19 % M * b3,
  a0 * b3 + a1 * b2 + a2 * b1 + a3 * b0 + a4 * 19 % M * b4,
  a0 * b4 + a1 * b3 + a2 * b2 + a3 * b1 + a4 * b0] := by
 simp [mulS, mulR, mulT, it, nth]
/-- what Mul makes of the sums -/
def mulE (x y : E) : E :=
 let s := it (rd (mulS x.l y.l)) 5 (0, [0, 0, 0, 0, 0])
 let t := s.1 * 19 + nth s.2 0
 carry ⟨t % W, (nth s.2 1 + t / W % M) % M, nth s.2 2, nth s.2 3, nth s.2 4⟩
theorem mulE_eq (x y : E) : mulE x y = mul x y := by
 cases x; cases y
 simp only [mulE, E.l, mulS_eq]
 simp [it, rd, nth, mul]
theorem mul_ok (x y : E) : (mul x y).ok := by rw [← mulE_eq]; unfold mulE; exact carry_ok _
def sq (x : E) : E := mul x x
def least1 : E → E
 | ⟨a, b, c, d, e⟩ =>
  let k := (e + (d + (c + (b + (a + 19) % M / W) % M / W) % M / W) % M / W) % M / W
  let a1 := (a + k * 19 % M) % M
  let b1 := (b + a1 / W) % M
  let c1 := (c + b1 / W) % M
  let d1 := (d + c1 / W) % M
  let e1 := (e + d1 / W) % M
  ⟨a1 % W, b1 % W, c1 % W, d1 % W, e1 % W⟩
def least (x : E) : E := least1 (carry (carry x))
def lc (l : List Nat) (i : Nat) (c : Nat) : Nat := (nth l i + c) % M / W
theorem least_it (x : E) : (it cr 5 (0, x.l.set 0 ((nth x.l 0 + it (lc x.l) 5 19 * 19 % M) % M))).2 = (least1 x).l := by
 cases x
 simp [it, cr, lc, nth, E.l, least1]
theorem least_fit (x : E) : ∀ j, nth (least x).l j < W := by
 unfold least
 cases carry (carry x)
 intro j
 match j with
 | 0 => exact mod_lt_W _
 | 1 => exact mod_lt_W _
 | 2 => exact mod_lt_W _
 | 3 => exact mod_lt_W _
 | 4 => exact mod_lt_W _
 | j + 5 => simp [E.l, nth, W]
def zero (x : E) : Bool := least x == ⟨0, 0, 0, 0, 0⟩
/-- a to the power: k squarings done -/
def pw (low : Nat) (x : E) : Nat → E
 | 0 => small 1
 | k + 1 => let o := sq (pw low x k); if (decide (8 ≤ 254 - k) || low / 2 ^ (254 - k) % 2 == 1) = true then mul o x else o
theorem wrapM (x : Nat) : IntKind.u64.wrap (x : Int) = ((x % M : Nat) : Int) := by rw [IntKind.wrap_u64]; unfold M; omega
theorem wrap_add (x y : Nat) : IntKind.u64.wrap ((x : Int) + (y : Int)) = (((x + y) % M : Nat) : Int) := by rw [← wrapM]; congr 1
theorem wrap_mul (x y : Nat) : IntKind.u64.wrap ((x : Int) * (y : Int)) = ((x * y % M : Nat) : Int) := by rw [← wrapM]; congr 1
theorem and_mask (x : Nat) (hx : x < M) : bits .and .u64 (x : Int) 2251799813685247 = ((x % W : Nat) : Int) := by
 have h := u64_and_nat x 2251799813685247 hx (by decide)
 rw [show ((2251799813685247 : Nat) : Int) = 2251799813685247 from rfl] at h
 rw [h]
 have h2 := Nat.and_two_pow_sub_one_eq_mod x 51
 rw [show (2 ^ 51 - 1 : Nat) = 2251799813685247 from rfl, show (2 ^ 51 : Nat) = W from rfl] at h2
 rw [h2]
theorem gate_ {P : Program} {ops : Array Oper} {rest : List Oper} {o : Oper} {a : Act} {w : World} {Q : Exit → Act → World → Prop} (h : wpList P ops Q (o :: rest) a w) : wpList P ops Q (o :: rest) a w := h
theorem row_blk {w : World} {b T : Nat} {xs : List Nat} (h : Row w b T xs) : Rg.Blk w b T (u64s xs) := h
theorem blk_other {w w' : World} {b g T : Nat} {cs : Array Value} (h : Rg.Blk w b T cs) (hg : w.grownBy w' (some g)) (hn : g ≠ b) : Rg.Blk w' b T cs := by
 have hl := h.lt
 unfold Rg.Blk at *
 rw [hg.block b hl (fun e => hn (Option.some.inj e).symm)]; exact h
theorem _root_.Go.RowKit.Below.size_le {B : Nat} {w w' : World} (h : Below B w w') (hB : w.heap.size = B) : B ≤ w'.heap.size := hB ▸ h.size
theorem row_set_cell {w : World} {b T j v : Nat} {l : List Nat} (h : Row w b T (l.set j v)) (hj : j < l.length) : w.cell? ⟨b, j, none⟩ = some (.int .u64 (v : Nat)) := by
 have h1 := h.cell j (by rw [List.length_set]; exact hj)
 rw [nth_set hj] at h1
 exact h1
def Z5 : Array Value := #[.int .u64 0, .int .u64 0, .int .u64 0, .int .u64 0, .int .u64 0]
theorem cr_eq (i : Nat) (s : Nat × List Nat) : cr i s = ((nth s.2 i + s.1) % M / W, s.2.set i ((nth s.2 i + s.1) % M % W)) := rfl
theorem u64s_size (x : E) : (u64s x.l).size = 5 := rfl
theorem carry_any (w : World) (x : E) : Calls Tryz.prog 83 #[.agg (u64s x.l)] w fun e w' => e = .returned (.agg (u64s (carry x).l)) ∧ Below w.heap.size w w' := by
 go_enter Tryz.func83, Tryz.ntmps83
 go_upto_region 1 with (refine Rg.box_fresh rfl 49 _ rfl (u64s x.l) rfl ?_; intro X hX hbX hnX; have HX := ϕ hX; have HBX := ϕ hbX; clear hX hbX hnX)
 obtain ⟨xb, hxb⟩ : ∃ xb, w.heap.size = xb := ⟨_, rfl⟩
 obtain ⟨rb, hrb⟩ : ∃ rb, X.heap.size = rb := ⟨_, rfl⟩
 have HR := ϕ (show Row (X.alloc (.cells Z5 49)) xb 49 x.l from (hxb ▸ HX.out).alloc _)
 have HZ := ϕ (show Rg.Blk (X.alloc (.cells Z5 49)) rb 49 Z5 from Rg.Blk.newAt hrb.symm _ _)
 have HB := ϕ (show Below xb w (X.alloc (.cells Z5 49)) from hxb ▸ HBX.out.alloc HBX.out.size _)
 have HNE := ϕ (show xb ≠ rb ∧ xb ≤ rb from by have h1 := HX.out.lt; constructor <;> omega)
 have HXB := ϕ hxb
 rw [hxb, hrb, show (#[.int .u64 0, .int .u64 0, .int .u64 0, .int .u64 0, .int .u64 0] : Array Value) = Z5 from rfl]
 generalize X.alloc (.cells Z5 49) = Y at *
 clear HX HBX hxb hrb
 go_upto_region 3 with fail
 go_loopw [3, 5] (fun c i wr => ∃ k : Nat, k ≤ 5 ∧ i = .int .i64 k ∧ c = .int .u64 ((it cr k (0, x.l)).1 : Nat) ∧ Row wr xb 49 (it cr k (0, x.l)).2 ∧ Rg.Blk wr rb 49 Z5 ∧ Below xb w wr) (fun _ i _ => 5 - (intOf i).toNat)
 case atStart => exact ⟨0, Nat.zero_le _, rfl, rfl, HR.out, HZ.out, HB.out⟩
 case round =>
  obtain ⟨k, hk, rfl, rfl, hr, hz, hb⟩ := hrel
  clear HR HZ HB
  have HR := ϕ hr
  have HZ := ϕ hz
  have HB := ϕ hb
  have HL := ϕ (show (it cr k (0, x.l)).2.length = 5 by rw [it_cr_len]; rfl)
  by_cases hk5 : k < 5
  · have hd : decide (k < 5) = true := by simp; exact hk5
    have hki : (k : Int) < 5 := by omega
    have hk0 : (0 : Int) ≤ k := by omega
    have c1 := hr.cell k (by rw [HL.out]; exact hk5)
    have hst : it cr (k + 1) (0, x.l) = cr k (it cr k (0, x.l)) := rfl
    rw [cr_eq] at hst
    clear hr hz hb
    obtain ⟨n1, hn1⟩ : ∃ n1, nth (it cr k (0, x.l)).2 k = n1 := ⟨_, rfl⟩
    obtain ⟨q1, hq1⟩ : ∃ q1, (it cr k (0, x.l)).1 = q1 := ⟨_, rfl⟩
    obtain ⟨v1, hv1⟩ : ∃ v1, (n1 + q1) % M = v1 := ⟨_, rfl⟩
    have e1 : IntKind.u64.wrap ((n1 : Int) + (q1 : Int)) = (v1 : Int) := by rw [wrap_add, hv1]
    have e2 : bits .and .u64 (v1 : Int) 2251799813685247 = ((v1 % W : Nat) : Int) := and_mask v1 (hv1 ▸ mod_lt_M _)
    have HN1 := ϕ hn1
    have HQ1 := ϕ hq1
    have HV1 := ϕ hv1
    rw [hn1] at c1
    rw [hn1, hq1, hv1] at hst
    have HST := ϕ hst
    rw [hq1]
    clear hn1 hq1 hv1 hst
    have HLK := ϕ (show k < (it cr k (0, x.l)).2.length by rw [HL.out]; exact hk5)
    have HLK2 := ϕ (show k < ((it cr k (0, x.l)).2.set k v1).length by rw [List.length_set, HL.out]; exact hk5)
    have tok1 := True.intro
    go_wp2_with (first
     | (have _t := tok1; (with_reducible refine gate_ ?_); refine store_cell rfl 46 _ _ rfl (b := xb) (j := k) (v := v1) rfl rfl Tryz.underlying46 (by kernel_rfl) HR.out HLK.out ?_; intro V hV hgV; have HRV := ϕ hV; have HZV := ϕ (blk_other HZ.out hgV HNE.out.1); have HBV := ϕ (HB.out.grown hgV (HB.out.size_le HXB.out) (fun j e => by cases e; exact Nat.le_refl _)); have c2 := row_set_cell hV HLK.out; clear hV hgV c1; have tok2 := True.intro; clear _t tok1)
     | (have _t := tok2; (with_reducible refine gate_ ?_); refine store_cell rfl 46 _ _ rfl (b := xb) (j := k) (v := v1 % W) rfl rfl Tryz.underlying46 (by kernel_rfl) HRV.out HLK2.out ?_; intro V2 hV hgV; rw [List.set_set] at hV; have HRW := ϕ hV; have HZW := ϕ (blk_other HZV.out hgV HNE.out.1); have HBW := ϕ (HBV.out.grown hgV (HBV.out.size_le HXB.out) (fun j e => by cases e; exact Nat.le_refl _)); clear hV hgV c2 _t tok2))
    go_roundw
    case rel =>
     have REL := ϕ (show ∃ k' : Nat, k' ≤ 5 ∧ Value.int .i64 ((k : Int) + 1) = .int .i64 k' ∧ Value.int .u64 ((v1 : Int) / 2251799813685248) = .int .u64 ((it cr k' (0, x.l)).1 : Nat) ∧ Row V2 xb 49 (it cr k' (0, x.l)).2 ∧ Rg.Blk V2 rb 49 Z5 ∧ Below xb w V2 from ⟨k + 1, hk5, rfl, by rw [HST.out]; rfl, by rw [HST.out]; exact HRW.out, HZW.out, HBW.out⟩)
     first
      | exact REL.out
      | ((repeat apply Exists.intro); refine ⟨?_, rfl⟩; exact REL.out)
    case measure => (first | (simp [intOf]; done) | (simp [intOf]; omega))
  · obtain rfl : k = 5 := by omega
    have hd : decide ((5 : Nat) < 5) = false := by simp
    have c1 := hr.cell 0 (by rw [HL.out]; decide)
    have HCI := ϕ (carry_it x)
    clear hr hz hb
    obtain ⟨q1, hq1⟩ : ∃ q1, (it cr 5 (0, x.l)).1 = q1 := ⟨_, rfl⟩
    obtain ⟨l1, hl1⟩ : ∃ l1, (it cr 5 (0, x.l)).2 = l1 := ⟨_, rfl⟩
    rw [hq1, hl1] at HCI
    rw [hl1] at c1 HR HL
    rw [hq1]
    obtain ⟨n1, hn1⟩ : ∃ n1, nth l1 0 = n1 := ⟨_, rfl⟩
    rw [hn1] at c1 HCI
    have e1 : IntKind.u64.wrap ((q1 : Int) * 19) = ((q1 * 19 % M : Nat) : Int) := wrap_mul q1 19
    have e2 : IntKind.u64.wrap ((n1 : Int) + ((q1 * 19 % M : Nat) : Int)) = (((n1 + q1 * 19 % M) % M : Nat) : Int) := wrap_add _ _
    have HLK := ϕ (show 0 < l1.length by rw [HL.out]; decide)
    clear hq1 hl1 hn1
    generalize hp1 : q1 * 19 % M = p1 at *
    generalize hv1 : (n1 + p1) % M = v1 at *
    clear hp1 hv1
    have tok1 := True.intro
    go_wp2_with (first
     | (have _t := tok1; (with_reducible refine gate_ ?_); refine store_cell rfl 46 _ _ rfl (b := xb) (j := 0) (v := v1) rfl rfl Tryz.underlying46 (by kernel_rfl) HR.out HLK.out ?_; intro V hV hgV; have HRV := ϕ hV; have HZV := ϕ (blk_other HZ.out hgV HNE.out.1); have HBV := ϕ (HB.out.grown hgV (HB.out.size_le HXB.out) (fun j e => by cases e; exact Nat.le_refl _)); rw [HCI.out] at HRV; clear hV hgV c1; clear _t tok1)
     | ((with_reducible refine gate_ ?_); refine Cv.load_cells rfl 49 _ rfl xb 0 rfl (u64s (carry x).l) _ (fun j v hv => by rw [Nat.zero_add]; exact Rg.Blk.cell (row_blk HRV.out) j hv) Tryz.underlying49 rfl (by rw [u64s_size]; kernel_rfl) ?_; skip)
     | ((with_reducible refine gate_ ?_); refine Cv.store_blk rfl 49 _ _ rfl rb (u64s (carry x).l) Z5 49 rfl rfl HZV.out (by rw [u64s_size]; kernel_rfl) rfl (u64s_one _) ?_; intro V3 hV hgV; have HZZ := ϕ hV; have HBZ := ϕ (HBV.out.grown hgV (HBV.out.size_le HXB.out) (fun j e => by cases e; exact HNE.out.2)); clear hV hgV))
    refine bodyPost_ret (v := .agg (u64s (carry x).l))
     (results_cell_row Tryz.results83 _ _ rb 49 _ (0, 0) _ rfl HZZ.out Tryz.underlying49 rfl (by rw [u64s_size]; kernel_rfl)) rfl ?_
    exact ⟨rfl, HXB.out ▸ HBZ.out⟩
theorem it_zero {S : Type} (f : Nat → S → S) (s : S) : it f 0 s = s := rfl
theorem it_zip_succ (f : Nat → Nat → Nat) (ys : List Nat) (k : Nat) (l : List Nat) : it (zip2 f ys) (k + 1) l = (it (zip2 f ys) k l).set k (f (nth (it (zip2 f ys) k l) k) (nth ys k)) := rfl
theorem row_other {w w' : World} {b g T : Nat} {xs : List Nat} (h : Row w b T xs) (hg : w.grownBy w' (some g)) (hn : g ≠ b) : Row w' b T xs := blk_other (row_blk h) hg hn
theorem Add_any (w : World) (x y : E) : Calls Tryz.prog 49 #[.agg (u64s x.l), .agg (u64s y.l)] w fun e w' => e = .returned (.agg (u64s (add x y).l)) ∧ Below w.heap.size w w' := by
 go_enter Tryz.func49, Tryz.ntmps49
 have tok1 := True.intro
 go_upto_region 1 with (first
  | (have _t := tok1; (with_reducible refine gate_ ?_); refine Rg.box_fresh rfl 49 _ rfl (u64s x.l) rfl ?_; intro X hX hbX hnX; have HX := ϕ hX; have HBX := ϕ hbX; have HNX := ϕ hnX; clear hX hbX hnX; have tok2 := True.intro; clear _t tok1)
  | (have _t := tok2; (with_reducible refine gate_ ?_); refine Rg.box_fresh rfl 49 _ rfl (u64s y.l) rfl ?_; intro X2 hX hbX hnX; have HY2 := ϕ hX; have HBY := ϕ hbX; have HNY := ϕ hnX; clear hX hbX hnX; clear _t tok2))
 obtain ⟨xb, hxb⟩ : ∃ xb, w.heap.size = xb := ⟨_, rfl⟩
 obtain ⟨yb, hyb⟩ : ∃ yb, X.heap.size = yb := ⟨_, rfl⟩
 obtain ⟨rb, hrb⟩ : ∃ rb, X2.heap.size = rb := ⟨_, rfl⟩
 have HR := ϕ (show Row (X2.alloc (.cells Z5 49)) xb 49 x.l from ((hxb ▸ HX.out).below HBY.out (hxb ▸ HX.out.lt)).alloc _)
 have HY := ϕ (show Row (X2.alloc (.cells Z5 49)) yb 49 y.l from (hyb ▸ HY2.out).alloc _)
 have HZ := ϕ (show Rg.Blk (X2.alloc (.cells Z5 49)) rb 49 Z5 from Rg.Blk.newAt hrb.symm _ _)
 have HB := ϕ (show Below xb w (X2.alloc (.cells Z5 49)) from hxb ▸ (HBX.out.trans (HBY.out.mono HBX.out.size)).alloc (Nat.le_trans HBX.out.size HBY.out.size) _)
 have HNE := ϕ (show xb ≠ yb ∧ xb ≠ rb ∧ xb ≤ rb from by have h1 := HNX.out; have h2 := HNY.out; refine ⟨?_, ?_, ?_⟩ <;> omega)
 have HN2 := ϕ (show yb ≠ rb ∧ xb ≤ yb from by have h1 := HNX.out; have h2 := HNY.out; refine ⟨?_, ?_⟩ <;> omega)
 have HXB := ϕ hxb
 rw [hxb, hyb, hrb, show (#[.int .u64 0, .int .u64 0, .int .u64 0, .int .u64 0, .int .u64 0] : Array Value) = Z5 from rfl]
 generalize X2.alloc (.cells Z5 49) = Z at *
 clear HX HBX HY2 HBY HNX HNY hxb hyb hrb
 go_upto_region 2 with fail
 go_loopw [6] (fun i wr => ∃ k : Nat, k ≤ 5 ∧ i = .int .i64 k ∧ Row wr xb 49 (it (zip2 addF y.l) k x.l) ∧ Row wr yb 49 y.l ∧ Rg.Blk wr rb 49 Z5 ∧ Below xb w wr) (fun i _ => 5 - (intOf i).toNat)
 case atStart => exact ⟨0, Nat.zero_le _, rfl, by rw [it_zero]; exact HR.out, HY.out, HZ.out, HB.out⟩
 case round =>
  obtain ⟨k, hk, rfl, hr, hy, hz, hb⟩ := hrel
  clear HR HY HZ HB
  have HR := ϕ hr
  have HY := ϕ hy
  have HZ := ϕ hz
  have HB := ϕ hb
  have HL := ϕ (show (it (zip2 addF y.l) k x.l).length = 5 by rw [it_zip_len]; rfl)
  clear hr hy hz hb
  by_cases hk5 : k < 5
  · have hd : decide (k < 5) = true := by simp; exact hk5
    have hki : (k : Int) < 5 := by omega
    have hk0 : (0 : Int) ≤ k := by omega
    have HLK := ϕ (show k < (it (zip2 addF y.l) k x.l).length by rw [HL.out]; exact hk5)
    have HLY := ϕ (show k < (y.l).length from hk5)
    have hst := it_zip_succ addF y.l k x.l
    obtain ⟨n1, hn1⟩ : ∃ n1, nth (it (zip2 addF y.l) k x.l) k = n1 := ⟨_, rfl⟩
    obtain ⟨n2, hn2⟩ : ∃ n2, nth y.l k = n2 := ⟨_, rfl⟩
    have e3 : IntKind.u64.wrap ((n1 : Int) + (n2 : Int)) = ((addF n1 n2 : Nat) : Int) := wrap_add n1 n2
    rw [hn1, hn2] at hst
    obtain ⟨v1, hv1⟩ : ∃ v1, addF n1 n2 = v1 := ⟨_, rfl⟩
    rw [hv1] at hst e3
    have HST := ϕ hst
    have HN1 := ϕ hn1
    have HN2 := ϕ hn2
    clear hst hn1 hn2 hv1
    go_upto_region 4 with fail
    refine RT.start (fun W => Below wr.heap.size wr W) 11 1 (by kernel_rfl) (by decide) rfl (by kernel_rfl) (by kernel_rfl) (Below.drew (Below.refl _ _)) ?_
    refine' RT.takeV (i := 0) (v := _) rfl (by kernel_rfl) (by kernel_rfl) (by kernel_rfl) (by decide) (fun _ _ _ h => h) (by rfl) ?hk1 ?_
    case hk1 => (intro W hSW; go_simp; try with_reducible rfl)
    try go_frame
    refine' RT.takeV (i := 1) (v := _) rfl (by kernel_rfl) (by kernel_rfl) (by kernel_rfl) (by decide) (fun _ _ _ h => h) (by rfl) ?hk2 ?_
    case hk2 => (intro W hSW; go_simp; try with_reducible rfl)
    try go_frame
    refine' RT.takeV (i := 2) (v := _) rfl (by kernel_rfl) (by kernel_rfl) (by kernel_rfl) (by decide) (fun _ _ _ h => h) (by rfl) ?hk3 ?_
    case hk3 => (intro W hSW; go_simp; try with_reducible rfl)
    try go_frame
    refine' RT.takeV (i := 3) (v := _) rfl (by kernel_rfl) (by kernel_rfl) (by kernel_rfl) (by decide) (fun _ _ _ h => h) (by rfl) ?hk4 ?_
    case hk4 => (intro W hSW; have k1 := (HR.out.below hSW HR.out.lt).cell k HLK.out; rw [HN1.out] at k1; go_simp; try with_reducible rfl)
    try go_frame
    refine' RT.takeV (i := 4) (v := _) rfl (by kernel_rfl) (by kernel_rfl) (by kernel_rfl) (by decide) (fun _ _ _ h => h) (by rfl) ?hk5 ?_
    case hk5 => (intro W hSW; go_simp; try with_reducible rfl)
    try go_frame
    refine' RT.takeV (i := 5) (v := _) rfl (by kernel_rfl) (by kernel_rfl) (by kernel_rfl) (by decide) (fun _ _ _ h => h) (by rfl) ?hk6 ?_
    case hk6 => (intro W hSW; go_simp; try with_reducible rfl)
    try go_frame
    refine' RT.takeV (i := 6) (v := _) rfl (by kernel_rfl) (by kernel_rfl) (by kernel_rfl) (by decide) (fun _ _ _ h => h) (by rfl) ?hk7 ?_
    case hk7 => (intro W hSW; go_simp; try with_reducible rfl)
    try go_frame
    refine' RT.takeV (i := 7) (v := _) rfl (by kernel_rfl) (by kernel_rfl) (by kernel_rfl) (by decide) (fun _ _ _ h => h) (by rfl) ?hk8 ?_
    case hk8 => (intro W hSW; have k2 := (HY.out.below hSW HY.out.lt).cell k HLY.out; rw [HN2.out] at k2; go_simp; try with_reducible rfl)
    try go_frame
    refine' RT.takeV (i := 8) (v := _) rfl (by kernel_rfl) (by kernel_rfl) (by kernel_rfl) (by decide) (fun _ _ _ h => h) (by rfl) ?hk9 ?_
    case hk9 => (intro W hSW; have e3x := e3; go_simp; try with_reducible rfl)
    try go_frame
    refine' RT.takeV (i := 9) (v := _) rfl (by kernel_rfl) (by kernel_rfl) (by kernel_rfl) (by decide) (fun _ _ _ h => h) (by rfl) ?hk10 ?_
    case hk10 => (intro W hSW; go_simp; try with_reducible rfl)
    try go_frame
    refine' RT.takeV (i := 10) (v := _) rfl (by kernel_rfl) (by kernel_rfl) (by kernel_rfl) (by decide) (fun _ _ _ h => h) (by rfl) ?hk11 ?_
    case hk11 => (intro W hSW; go_simp; try with_reducible rfl)
    try go_frame
    refine RT.tail (by kernel_rfl) rfl rfl ?_
    intro wd hlwd hswd
    have hlx : Below wr.heap.size wr wd := (Below.drew (Below.refl _ _)).trans hlwd
    have HRd := ϕ (HR.out.below hlx HR.out.lt)
    have HYd := ϕ (HY.out.below hlx HY.out.lt)
    have HZd := ϕ (HZ.out.below hlx HZ.out.lt)
    have HBd := ϕ (HB.out.trans (hlx.mono (HB.out.size_le HXB.out)))
    clear hlwd hswd hlx
    refine store_cell rfl 46 _ _ rfl (b := xb) (j := k) (v := v1) rfl rfl Tryz.underlying46 (by kernel_rfl) HRd.out HLK.out ?_
    intro V hV hgV
    have HRV := ϕ hV
    have HYV := ϕ (row_other HYd.out hgV HNE.out.1)
    have HZV := ϕ (blk_other HZd.out hgV HNE.out.2.1)
    have HBV := ϕ (HBd.out.grown hgV (HBd.out.size_le HXB.out) (fun j e => by cases e; exact Nat.le_refl _))
    clear hV hgV
    go_wp2_with fail
    go_roundw
    case rel =>
     have REL := ϕ (show ∃ k' : Nat, k' ≤ 5 ∧ Value.int .i64 ((k : Int) + 1) = .int .i64 k' ∧ Row V xb 49 (it (zip2 addF y.l) k' x.l) ∧ Row V yb 49 y.l ∧ Rg.Blk V rb 49 Z5 ∧ Below xb w V from ⟨k + 1, hk5, rfl, by rw [HST.out]; exact HRV.out, HYV.out, HZV.out, HBV.out⟩)
     first
      | exact REL.out
      | ((repeat apply Exists.intro); refine ⟨?_, rfl⟩; exact REL.out)
    case measure => (first | (simp [intOf]; done) | (simp [intOf]; omega))
  · obtain rfl : k = 5 := by omega
    have hd : decide ((5 : Nat) < 5) = false := by simp
    have HRC := ϕ (show Row wr xb 49 (add1 x y).l from by rw [← add_it x y]; exact HR.out)
    go_wp2_with (first
     | ((with_reducible refine gate_ ?_); refine Cv.load_cells rfl 49 _ rfl xb 0 rfl (u64s (add1 x y).l) _ (fun j v hv => by rw [Nat.zero_add]; exact Rg.Blk.cell (row_blk HRC.out) j hv) Tryz.underlying49 rfl (by rw [u64s_size]; kernel_rfl) ?_; skip)
     | (go_at_call 83; refine (carry_any _ (add1 x y)).mono ?_; rintro e w9 ⟨rfl, hb9⟩; have HZ9 := ϕ (HZ.out.below hb9 HZ.out.lt); have HB9 := ϕ (HB.out.trans (hb9.mono (HB.out.size_le HXB.out))); clear hb9)
     | ((with_reducible refine gate_ ?_); refine Cv.store_blk rfl 49 _ _ rfl rb (u64s (carry (add1 x y)).l) Z5 49 rfl rfl HZ9.out (by rw [u64s_size]; kernel_rfl) (by rw [u64s_size]; rfl) (u64s_one _) ?_; intro V3 hV hgV; have HZZ := ϕ hV; have HBZ := ϕ (HB9.out.grown hgV (HB9.out.size_le HXB.out) (fun j e => by cases e; exact HNE.out.2.2)); clear hV hgV))
    refine bodyPost_ret (v := .agg (u64s (carry (add1 x y)).l))
     (results_cell_row Tryz.results49 _ _ rb 49 _ (0, 0) _ rfl HZZ.out Tryz.underlying49 rfl (by rw [u64s_size]; kernel_rfl)) rfl ?_
    exact ⟨rfl, HXB.out ▸ HBZ.out⟩
theorem wrap_sub (x y : Nat) (h : y ≤ M) : IntKind.u64.wrap ((x : Int) - (y : Int)) = (((x + (M - y)) % M : Nat) : Int) := by rw [IntKind.wrap_u64]; unfold M at *; omega
theorem wrap_subF (x y : Nat) (h : y < M) : IntKind.u64.wrap ((x : Int) - (y : Int)) = ((subF x y : Nat) : Int) := by unfold subF; exact wrap_sub x y (Nat.le_of_lt h)
theorem carry_lt (y : E) (k : Nat) : nth (carry y).l k < M := carry_ok y k
theorem it_tw_succ (k : Nat) (l : List Nat) : it twR (k + 1) l = (it twR k l).set (k + 1) ((nth (it twR k l) (k + 1) + tw) % M) := rfl
theorem wrap_tw0 (n : Nat) : IntKind.u64.wrap ((n : Int) + 4503599627370458) = (((n + tw0) % M : Nat) : Int) := by rw [IntKind.wrap_u64]; unfold tw0 M; omega
theorem wrap_tw (n : Nat) : IntKind.u64.wrap ((n : Int) + 4503599627370494) = (((n + tw) % M : Nat) : Int) := by rw [IntKind.wrap_u64]; unfold tw M; omega
theorem Sub_any (w : World) (x y : E) : Calls Tryz.prog 70 #[.agg (u64s x.l), .agg (u64s y.l)] w fun e w' => e = .returned (.agg (u64s (sub x y).l)) ∧ Below w.heap.size w w' := by
 go_enter Tryz.func70, Tryz.ntmps70
 have tok1 := True.intro
 go_upto_region 1 with (first
  | (have _t := tok1; (with_reducible refine gate_ ?_); refine Rg.box_fresh rfl 49 _ rfl (u64s x.l) rfl ?_; intro X hX hbX hnX; have HX := ϕ hX; have HBX := ϕ hbX; have HNX := ϕ hnX; clear hX hbX hnX; have tok2 := True.intro; clear _t tok1)
  | (have _t := tok2; (with_reducible refine gate_ ?_); refine Rg.box_fresh rfl 49 _ rfl (u64s y.l) rfl ?_; intro X2 hX hbX hnX; have HY2 := ϕ hX; have HBY := ϕ hbX; have HNY := ϕ hnX; clear hX hbX hnX; clear _t tok2))
 obtain ⟨xb, hxb⟩ : ∃ xb, w.heap.size = xb := ⟨_, rfl⟩
 obtain ⟨yb, hyb⟩ : ∃ yb, X.heap.size = yb := ⟨_, rfl⟩
 obtain ⟨rb, hrb⟩ : ∃ rb, X2.heap.size = rb := ⟨_, rfl⟩
 have HR := ϕ (show Row (X2.alloc (.cells Z5 49)) xb 49 x.l from ((hxb ▸ HX.out).below HBY.out (hxb ▸ HX.out.lt)).alloc _)
 have HY := ϕ (show Row (X2.alloc (.cells Z5 49)) yb 49 y.l from (hyb ▸ HY2.out).alloc _)
 have HZ := ϕ (show Rg.Blk (X2.alloc (.cells Z5 49)) rb 49 Z5 from Rg.Blk.newAt hrb.symm _ _)
 have HB := ϕ (show Below xb w (X2.alloc (.cells Z5 49)) from hxb ▸ (HBX.out.trans (HBY.out.mono HBX.out.size)).alloc (Nat.le_trans HBX.out.size HBY.out.size) _)
 have HNE := ϕ (show xb ≠ yb ∧ xb ≠ rb ∧ xb ≤ rb from by have h1 := HNX.out; have h2 := HNY.out; refine ⟨?_, ?_, ?_⟩ <;> omega)
 have HN2 := ϕ (show yb ≠ rb ∧ xb ≤ yb from by have h1 := HNX.out; have h2 := HNY.out; refine ⟨?_, ?_⟩ <;> omega)
 have HXB := ϕ hxb
 rw [hxb, hyb, hrb, show (#[.int .u64 0, .int .u64 0, .int .u64 0, .int .u64 0, .int .u64 0] : Array Value) = Z5 from rfl]
 generalize X2.alloc (.cells Z5 49) = Z at *
 clear HX HBX HY2 HBY HNX HNY hxb hyb hrb
 go_upto_region 2 with (first
  | ((with_reducible refine gate_ ?_); refine Cv.load_cells rfl 49 _ rfl yb 0 rfl (u64s y.l) _ (fun j v hv => by rw [Nat.zero_add]; exact Rg.Blk.cell (row_blk HY.out) j hv) Tryz.underlying49 rfl (by rw [u64s_size]; kernel_rfl) ?_; skip)
  | (go_at_call 83; refine (carry_any _ y).mono ?_; rintro e w9 ⟨rfl, hb9⟩; have HR9 := ϕ (HR.out.below hb9 HR.out.lt); have HY9 := ϕ (HY.out.below hb9 HY.out.lt); have HZ9 := ϕ (HZ.out.below hb9 HZ.out.lt); have HB9 := ϕ (HB.out.trans (hb9.mono (HB.out.size_le HXB.out))); clear hb9)
  | ((with_reducible refine gate_ ?_); refine Cv.store_blk rfl 49 _ _ rfl yb (u64s (carry y).l) (u64s y.l) 49 rfl rfl (row_blk HY9.out) (by rw [u64s_size]; kernel_rfl) (by rw [u64s_size, u64s_size]) (u64s_one _) ?_; intro V1 hV hgV; have HY1 := ϕ (show Row V1 yb 49 (carry y).l from hV); have HR1 := ϕ (row_other HR9.out hgV HNE.out.1.symm); have HZ1 := ϕ (blk_other HZ9.out hgV HN2.out.1); have HB1 := ϕ (HB9.out.grown hgV (HB9.out.size_le HXB.out) (fun j e => by cases e; exact HN2.out.2)); clear hV hgV))
 clear HR HY HZ HB HR9 HY9 HZ9 HB9
 have c0 := HR1.out.cell 0 (by rw [E.len]; decide)
 obtain ⟨n0, hn0⟩ : ∃ n0, nth x.l 0 = n0 := ⟨_, rfl⟩
 have e0 : IntKind.u64.wrap ((n0 : Int) + 4503599627370458) = (((n0 + tw0) % M : Nat) : Int) := wrap_tw0 n0
 rw [hn0] at c0
 obtain ⟨m0, hm0⟩ : ∃ m0, (n0 + tw0) % M = m0 := ⟨_, rfl⟩
 rw [hm0] at e0
 have HM0 := ϕ (show (nth x.l 0 + tw0) % M = m0 by rw [hn0]; exact hm0)
 clear hn0 hm0
 go_upto_region 3 with ((with_reducible refine gate_ ?_); refine store_cell rfl 46 _ _ rfl (b := xb) (j := 0) (v := m0) rfl rfl Tryz.underlying46 (by kernel_rfl) HR1.out (by rw [E.len]; decide) ?_; intro V2 hV hgV; rw [← HM0.out] at hV; have HR0 := ϕ hV; have HY := ϕ (row_other HY1.out hgV HNE.out.1); have HZ := ϕ (blk_other HZ1.out hgV HNE.out.2.1); have HB := ϕ (HB1.out.grown hgV (HB1.out.size_le HXB.out) (fun j e => by cases e; exact Nat.le_refl _)); clear hV hgV)
 clear c0 e0 HR1 HY1 HZ1 HB1 HM0
 obtain ⟨l1, hl1⟩ : ∃ l1, x.l.set 0 ((nth x.l 0 + tw0) % M) = l1 := ⟨_, rfl⟩
 have HR := ϕ (show Row V2 xb 49 l1 from by rw [← hl1]; exact HR0.out)
 have HL1 := ϕ (show l1.length = 5 by rw [← hl1, List.length_set]; rfl)
 have HSE0 := ϕ (show ∀ l2, it twR 4 l1 = l2 → it (zip2 subF (carry y).l) 5 l2 = (sub1 x (carry y)).l from fun l2 e => by rw [← e, ← hl1]; exact sub_it x (carry y))
 clear HR0 hl1
 go_upto_region 4 with fail
 go_loopw [5] (fun i wr => ∃ k : Nat, k ≤ 4 ∧ i = .int .i64 ((k : Int) + 1) ∧ Row wr xb 49 (it twR k l1) ∧ Row wr yb 49 (carry y).l ∧ Rg.Blk wr rb 49 Z5 ∧ Below xb w wr) (fun i _ => 5 - (intOf i).toNat)
 case atStart => exact ⟨0, Nat.zero_le _, rfl, by rw [it_zero]; exact HR.out, HY.out, HZ.out, HB.out⟩
 case round =>
  obtain ⟨k, hk, rfl, hr, hy, hz, hb⟩ := hrel
  clear HR HY HZ HB
  have HR := ϕ hr
  have HY := ϕ hy
  have HZ := ϕ hz
  have HB := ϕ hb
  have HL := ϕ (show (it twR k l1).length = 5 by rw [it_tw_len]; exact HL1.out)
  clear hr hy hz hb
  by_cases hk4 : k < 4
  · have hd : decide ((k : Int) + 1 < 5) = true := by simp; omega
    have hki : (k : Int) + 1 < 5 := by omega
    have hk0 : (0 : Int) ≤ (k : Int) + 1 := by omega
    have c1 := HR.out.cell (k + 1) (by rw [HL.out]; omega)
    have HLK := ϕ (show k + 1 < (it twR k l1).length by rw [HL.out]; omega)
    have hst := it_tw_succ k l1
    obtain ⟨n1, hn1⟩ : ∃ n1, nth (it twR k l1) (k + 1) = n1 := ⟨_, rfl⟩
    have e1 : IntKind.u64.wrap ((n1 : Int) + 4503599627370494) = (((n1 + tw) % M : Nat) : Int) := wrap_tw n1
    rw [hn1] at hst c1
    obtain ⟨v1, hv1⟩ : ∃ v1, (n1 + tw) % M = v1 := ⟨_, rfl⟩
    rw [hv1] at hst e1
    have HST := ϕ hst
    clear hst hn1 hv1
    have hnt : ((k : Int) + 1).toNat = k + 1 := by omega
    go_wp2_with ((with_reducible refine gate_ ?_); refine store_cell rfl 46 _ _ rfl (b := xb) (j := k + 1) (v := v1) rfl rfl Tryz.underlying46 (by kernel_rfl) HR.out HLK.out ?_; intro V hV hgV; have HRV := ϕ hV; have HYV := ϕ (row_other HY.out hgV HNE.out.1); have HZV := ϕ (blk_other HZ.out hgV HNE.out.2.1); have HBV := ϕ (HB.out.grown hgV (HB.out.size_le HXB.out) (fun j e => by cases e; exact Nat.le_refl _)); clear hV hgV)
    go_roundw
    case rel =>
     have REL := ϕ (show ∃ k' : Nat, k' ≤ 4 ∧ Value.int .i64 ((k : Int) + 1 + 1) = .int .i64 ((k' : Int) + 1) ∧ Row V xb 49 (it twR k' l1) ∧ Row V yb 49 (carry y).l ∧ Rg.Blk V rb 49 Z5 ∧ Below xb w V from ⟨k + 1, hk4, rfl, by rw [HST.out]; exact HRV.out, HYV.out, HZV.out, HBV.out⟩)
     first
      | exact REL.out
      | ((repeat apply Exists.intro); refine ⟨?_, rfl⟩; exact REL.out)
    case measure => (first | (simp [intOf]; done) | (simp [intOf]; omega))
  · obtain rfl : k = 4 := by omega
    have hd : decide (((4 : Nat) : Int) + 1 < 5) = false := by simp
    obtain ⟨l2, hl2⟩ : ∃ l2, it twR 4 l1 = l2 := ⟨_, rfl⟩
    rw [hl2] at HR HL
    have HSE := ϕ (HSE0.out l2 hl2)
    clear hl2 HSE0
    have HL2 := HL
    go_upto_region 8 with fail
    go_loopw [26] (fun i wr => ∃ k : Nat, k ≤ 5 ∧ i = .int .i64 k ∧ Row wr xb 49 (it (zip2 subF (carry y).l) k l2) ∧ Row wr yb 49 (carry y).l ∧ Rg.Blk wr rb 49 Z5 ∧ Below xb w wr) (fun i _ => 5 - (intOf i).toNat)
    case atStart => exact ⟨0, Nat.zero_le _, rfl, by rw [it_zero]; exact HR.out, HY.out, HZ.out, HB.out⟩
    case round =>
     obtain ⟨k, hk, rfl, hr, hy, hz, hb⟩ := hrel
     clear HR HY HZ HB
     have HR := ϕ hr
     have HY := ϕ hy
     have HZ := ϕ hz
     have HB := ϕ hb
     have HL := ϕ (show (it (zip2 subF (carry y).l) k l2).length = 5 by rw [it_zip_len]; exact HL2.out)
     clear hr hy hz hb
     by_cases hk5 : k < 5
     · have hd : decide (k < 5) = true := by simp; exact hk5
       have hki : (k : Int) < 5 := by omega
       have hk0 : (0 : Int) ≤ k := by omega
       have HLK := ϕ (show k < (it (zip2 subF (carry y).l) k l2).length by rw [HL.out]; exact hk5)
       have HLY := ϕ (show k < ((carry y).l).length from hk5)
       have hst := it_zip_succ subF (carry y).l k l2
       obtain ⟨n1, hn1⟩ : ∃ n1, nth (it (zip2 subF (carry y).l) k l2) k = n1 := ⟨_, rfl⟩
       obtain ⟨n2, hn2⟩ : ∃ n2, nth (carry y).l k = n2 := ⟨_, rfl⟩
       have HLE := ϕ (carry_lt y k)
       rw [hn2] at HLE
       have e3 : IntKind.u64.wrap ((n1 : Int) - (n2 : Int)) = ((subF n1 n2 : Nat) : Int) := wrap_subF n1 n2 HLE.out
       rw [hn1, hn2] at hst
       obtain ⟨v1, hv1⟩ : ∃ v1, subF n1 n2 = v1 := ⟨_, rfl⟩
       rw [hv1] at hst e3
       have HST := ϕ hst
       have HN1 := ϕ hn1
       have HN2 := ϕ hn2
       clear hst hn1 hn2 hv1
       go_upto_region 10 with fail
       refine RT.start (fun W => Below wr.heap.size wr W) 11 1 (by kernel_rfl) (by decide) rfl (by kernel_rfl) (by kernel_rfl) (Below.drew (Below.refl _ _)) ?_
       refine' RT.takeV (i := 0) (v := _) rfl (by kernel_rfl) (by kernel_rfl) (by kernel_rfl) (by decide) (fun _ _ _ h => h) (by rfl) ?hk1 ?_
       case hk1 => (intro W hSW; go_simp; try with_reducible rfl)
       try go_frame
       refine' RT.takeV (i := 1) (v := _) rfl (by kernel_rfl) (by kernel_rfl) (by kernel_rfl) (by decide) (fun _ _ _ h => h) (by rfl) ?hk2 ?_
       case hk2 => (intro W hSW; go_simp; try with_reducible rfl)
       try go_frame
       refine' RT.takeV (i := 2) (v := _) rfl (by kernel_rfl) (by kernel_rfl) (by kernel_rfl) (by decide) (fun _ _ _ h => h) (by rfl) ?hk3 ?_
       case hk3 => (intro W hSW; go_simp; try with_reducible rfl)
       try go_frame
       refine' RT.takeV (i := 3) (v := _) rfl (by kernel_rfl) (by kernel_rfl) (by kernel_rfl) (by decide) (fun _ _ _ h => h) (by rfl) ?hk4 ?_
       case hk4 => (intro W hSW; have k1 := (HR.out.below hSW HR.out.lt).cell k HLK.out; rw [HN1.out] at k1; go_simp; try with_reducible rfl)
       try go_frame
       refine' RT.takeV (i := 4) (v := _) rfl (by kernel_rfl) (by kernel_rfl) (by kernel_rfl) (by decide) (fun _ _ _ h => h) (by rfl) ?hk5 ?_
       case hk5 => (intro W hSW; go_simp; try with_reducible rfl)
       try go_frame
       refine' RT.takeV (i := 5) (v := _) rfl (by kernel_rfl) (by kernel_rfl) (by kernel_rfl) (by decide) (fun _ _ _ h => h) (by rfl) ?hk6 ?_
       case hk6 => (intro W hSW; go_simp; try with_reducible rfl)
       try go_frame
       refine' RT.takeV (i := 6) (v := _) rfl (by kernel_rfl) (by kernel_rfl) (by kernel_rfl) (by decide) (fun _ _ _ h => h) (by rfl) ?hk7 ?_
       case hk7 => (intro W hSW; go_simp; try with_reducible rfl)
       try go_frame
       refine' RT.takeV (i := 7) (v := _) rfl (by kernel_rfl) (by kernel_rfl) (by kernel_rfl) (by decide) (fun _ _ _ h => h) (by rfl) ?hk8 ?_
       case hk8 => (intro W hSW; have k2 := (HY.out.below hSW HY.out.lt).cell k HLY.out; rw [HN2.out] at k2; go_simp; try with_reducible rfl)
       try go_frame
       refine' RT.takeV (i := 8) (v := _) rfl (by kernel_rfl) (by kernel_rfl) (by kernel_rfl) (by decide) (fun _ _ _ h => h) (by rfl) ?hk9 ?_
       case hk9 => (intro W hSW; have e3x := e3; go_simp; try with_reducible rfl)
       try go_frame
       refine' RT.takeV (i := 9) (v := _) rfl (by kernel_rfl) (by kernel_rfl) (by kernel_rfl) (by decide) (fun _ _ _ h => h) (by rfl) ?hk10 ?_
       case hk10 => (intro W hSW; go_simp; try with_reducible rfl)
       try go_frame
       refine' RT.takeV (i := 10) (v := _) rfl (by kernel_rfl) (by kernel_rfl) (by kernel_rfl) (by decide) (fun _ _ _ h => h) (by rfl) ?hk11 ?_
       case hk11 => (intro W hSW; go_simp; try with_reducible rfl)
       try go_frame
       refine RT.tail (by kernel_rfl) rfl rfl ?_
       intro wd hlwd hswd
       have hlx : Below wr.heap.size wr wd := (Below.drew (Below.refl _ _)).trans hlwd
       have HRd := ϕ (HR.out.below hlx HR.out.lt)
       have HYd := ϕ (HY.out.below hlx HY.out.lt)
       have HZd := ϕ (HZ.out.below hlx HZ.out.lt)
       have HBd := ϕ (HB.out.trans (hlx.mono (HB.out.size_le HXB.out)))
       clear hlwd hswd hlx
       refine store_cell rfl 46 _ _ rfl (b := xb) (j := k) (v := v1) rfl rfl Tryz.underlying46 (by kernel_rfl) HRd.out HLK.out ?_
       intro V hV hgV
       have HRV := ϕ hV
       have HYV := ϕ (row_other HYd.out hgV HNE.out.1)
       have HZV := ϕ (blk_other HZd.out hgV HNE.out.2.1)
       have HBV := ϕ (HBd.out.grown hgV (HBd.out.size_le HXB.out) (fun j e => by cases e; exact Nat.le_refl _))
       clear hV hgV
       go_wp2_with fail
       go_roundw
       case rel =>
        have REL := ϕ (show ∃ k' : Nat, k' ≤ 5 ∧ Value.int .i64 ((k : Int) + 1) = .int .i64 k' ∧ Row V xb 49 (it (zip2 subF (carry y).l) k' l2) ∧ Row V yb 49 (carry y).l ∧ Rg.Blk V rb 49 Z5 ∧ Below xb w V from ⟨k + 1, hk5, rfl, by rw [HST.out]; exact HRV.out, HYV.out, HZV.out, HBV.out⟩)
        first
         | exact REL.out
         | ((repeat apply Exists.intro); refine ⟨?_, rfl⟩; exact REL.out)
       case measure => (first | (simp [intOf]; done) | (simp [intOf]; omega))
     · obtain rfl : k = 5 := by omega
       have hd : decide ((5 : Nat) < 5) = false := by simp
       have HRC := ϕ (show Row wr xb 49 (sub1 x (carry y)).l from by rw [← HSE.out]; exact HR.out)
       go_wp2_with (first
        | ((with_reducible refine gate_ ?_); refine Cv.load_cells rfl 49 _ rfl xb 0 rfl (u64s (sub1 x (carry y)).l) _ (fun j v hv => by rw [Nat.zero_add]; exact Rg.Blk.cell (row_blk HRC.out) j hv) Tryz.underlying49 rfl (by rw [u64s_size]; kernel_rfl) ?_; skip)
        | (go_at_call 83; refine (carry_any _ (sub1 x (carry y))).mono ?_; rintro e w9 ⟨rfl, hb9⟩; have HZ9 := ϕ (HZ.out.below hb9 HZ.out.lt); have HB9 := ϕ (HB.out.trans (hb9.mono (HB.out.size_le HXB.out))); clear hb9)
        | ((with_reducible refine gate_ ?_); refine Cv.store_blk rfl 49 _ _ rfl rb (u64s (carry (sub1 x (carry y))).l) Z5 49 rfl rfl HZ9.out (by rw [u64s_size]; kernel_rfl) (by rw [u64s_size]; rfl) (u64s_one _) ?_; intro V3 hV hgV; have HZZ := ϕ hV; have HBZ := ϕ (HB9.out.grown hgV (HB9.out.size_le HXB.out) (fun j e => by cases e; exact HNE.out.2.2)); clear hV hgV))
       refine bodyPost_ret (v := .agg (u64s (carry (sub1 x (carry y))).l))
        (results_cell_row Tryz.results70 _ _ rb 49 _ (0, 0) _ rfl HZZ.out Tryz.underlying49 rfl (by rw [u64s_size]; kernel_rfl)) rfl ?_
       exact ⟨rfl, HXB.out ▸ HBZ.out⟩
/-- each sum in two words -/
def fl : List Nat → List Nat
 | [] => []
 | t :: ts => t % M :: t / M % M :: fl ts
theorem fl_len : ∀ ts : List Nat, (fl ts).length = 2 * ts.length
 | [] => rfl
 | t :: ts => by simp [fl, fl_len ts]; omega
theorem fl_lo : ∀ (ts : List Nat) (j : Nat), nth (fl ts) (2 * j) = nth ts j % M
 | [], j => by simp [fl, nth]
 | t :: ts, 0 => rfl
 | t :: ts, j + 1 => by
  have h := fl_lo ts j
  rw [show 2 * (j + 1) = 2 * j + 2 by omega]
  exact h
theorem fl_hi : ∀ (ts : List Nat) (j : Nat), nth (fl ts) (2 * j + 1) = nth ts j / M % M
 | [], j => by simp [fl, nth]
 | t :: ts, 0 => rfl
 | t :: ts, j + 1 => by
  have h := fl_hi ts j
  rw [show 2 * (j + 1) + 1 = 2 * j + 1 + 2 by omega]
  exact h
theorem fl_set : ∀ (ts : List Nat) (j t : Nat), ((fl ts).set (2 * j) (t % M)).set (2 * j + 1) (t / M % M) = fl (ts.set j t)
 | [], j, t => by simp [fl]
 | u :: ts, 0, t => rfl
 | u :: ts, j + 1, t => by
  have h := fl_set ts j t
  rw [show 2 * (j + 1) = 2 * j + 2 by omega, show 2 * j + 2 + 1 = 2 * j + 1 + 2 by omega]
  simp only [fl, List.set_cons_succ, h]
theorem sum_lo (t p : Nat) : (t % M + p % M) % M = (t + p) % M := (Nat.add_mod t p M).symm
theorem sum_hi (t p : Nat) : (t / M % M + p / M + (t % M + p % M) / M) % M = (t + p) / M % M := by
 unfold M
 omega
theorem add64_run (x y c : Nat) (hc : c ≤ 1) (w : World) :
 (callFunc 81 #[.int .u64 (x : Int), .int .u64 (y : Int), .int .u64 (c : Int)]).run Tryz.prog w =
  .ok (.value (.tuple #[.int .u64 (((x + y + c) % M : Nat) : Int), .int .u64 (((x + y + c) / M : Nat) : Int)])) w := by
 rw [run_callFunc_extern Tryz.func81 (by kernel_rfl) (by kernel_rfl) (by kernel_rfl) (e := add64Entry) (by kernel_rfl), run_add64 x y c (by omega) (by omega) (by omega) (by omega)]
 simp only [Result.andThen]
 unfold M
 congr 5 <;> omega
theorem add64_0 (x y : Nat) (w : World) :
 (callFunc 81 #[.int .u64 (x : Int), .int .u64 (y : Int), .int .u64 0]).run Tryz.prog w =
  .ok (.value (.tuple #[.int .u64 (((x + y) % M : Nat) : Int), .int .u64 (((x + y) / M : Nat) : Int)])) w := add64_run x y 0 (by decide) w
theorem fl_cell_hi {w : World} {b T j v t h0 : Nat} {ts : List Nat} (h : Row w b T ((fl ts).set (2 * j) v)) (hj : 2 * j + 1 < (fl ts).length) (ht : nth ts j = t) (hh : t / M % M = h0) : w.cell? ⟨b, 2 * j + 1, none⟩ = some (.int .u64 (h0 : Nat)) := by
 have h1 := h.cell (2 * j + 1) (by rw [List.length_set]; exact hj)
 rw [nth_set_ne (show 2 * j ≠ 2 * j + 1 by omega), fl_hi, ht, hh] at h1
 exact h1
theorem sumadd_any (w : World) (b T j : Nat) (ts : List Nat) (hj : j < ts.length) (a c : Nat) (ha : a < M) (hc : c < M) (hB : Row w b T (fl ts)) :
 Calls Tryz.prog 80 #[.pointer (some ⟨b, 2 * j, none⟩), .int .u64 a, .int .u64 c] w fun e w' => (∃ v, e = .returned v) ∧ Row w' b T (fl (ts.set j (nth ts j + a * c))) ∧ w.grownBy w' (some b) := by
 have HR := ϕ hB
 have HLK := ϕ (show 2 * j < (fl ts).length by rw [fl_len]; omega)
 have HLK2 := ϕ (show 2 * j + 1 < (fl ts).length by rw [fl_len]; omega)
 have HLK3 := ϕ (show ∀ v, 2 * j + 1 < ((fl ts).set (2 * j) v).length from fun v => by rw [List.length_set]; exact HLK2.out)
 have c0 := hB.cell (2 * j) HLK.out
 have HMU := ϕ (fun W => Tryz.bits_Mul64 a c ha hc W)
 rw [fl_lo] at c0
 obtain ⟨t, ht⟩ : ∃ t, nth ts j = t := ⟨_, rfl⟩
 have h1 := sum_lo t (a * c)
 have h2 := sum_hi t (a * c)
 have HT := ϕ ht
 rw [ht] at c0 ⊢
 have HPQ := ϕ (show t % M < M ∧ a * c % M < M from ⟨mod_lt_M _, mod_lt_M _⟩)
 obtain ⟨l0, hl0⟩ : ∃ l0, t % M = l0 := ⟨_, rfl⟩
 obtain ⟨h0, hh0⟩ : ∃ h0, t / M % M = h0 := ⟨_, rfl⟩
 obtain ⟨p1, hp1⟩ : ∃ p1, a * c / M = p1 := ⟨_, rfl⟩
 obtain ⟨p2, hp2⟩ : ∃ p2, a * c % M = p2 := ⟨_, rfl⟩
 rw [hl0, hp2] at h1 h2 HPQ
 rw [hp1, hh0] at h2
 rw [hl0] at c0
 rw [show (18446744073709551616 : Nat) = M from rfl, hp1, hp2] at HMU
 obtain ⟨q, hq⟩ : ∃ q, (l0 + p2) / M = q := ⟨_, rfl⟩
 rw [hq] at h2
 have HQ := ϕ (show q ≤ 1 by have := HPQ.out; unfold M at *; omega)
 have HSET := ϕ (show ((fl ts).set (2 * j) ((l0 + p2) % M)).set (2 * j + 1) ((h0 + p1 + q) % M) = fl (ts.set j (t + a * c)) from by rw [h1, h2, fl_set])
 have HA0 := ϕ (fun W => add64_0 l0 p2 W)
 have HA1 := ϕ (fun W => add64_run h0 p1 q HQ.out W)
 rw [hq] at HA0
 obtain ⟨v1, hv1⟩ : ∃ v1, (l0 + p2) % M = v1 := ⟨_, rfl⟩
 obtain ⟨v2, hv2⟩ : ∃ v2, (h0 + p1 + q) % M = v2 := ⟨_, rfl⟩
 rw [hv1] at HA0 HSET
 rw [hv2] at HA1 HSET
 have HH0 := ϕ hh0
 clear hB ha hc ht h1 h2 hl0 hh0 hp1 hp2 hq hv1 hv2
 go_enter Tryz.func80, Tryz.ntmps80
 have tok1 := True.intro
 go_wp2_with (first
  | (go_at_call 82; refine (HMU.out _).mono ?_; rintro e w2 ⟨rfl, rfl⟩; skip)
  | (simp only [HA0.out])
  | (simp only [HA1.out])
  | (have _t := tok1; (with_reducible refine gate_ ?_); refine store_cell rfl 46 _ _ rfl (b := b) (j := 2 * j) (v := v1) rfl rfl Tryz.underlying46 (by kernel_rfl) HR.out HLK.out ?_; intro V hV hgV; have HRV := ϕ hV; have HG := ϕ hgV; have c1 := fl_cell_hi hV HLK2.out HT.out HH0.out; clear hV hgV c0; have tok2 := True.intro; clear _t tok1)
  | (have _t := tok2; (with_reducible refine gate_ ?_); refine store_cell rfl 46 _ _ rfl (b := b) (j := 2 * j + 1) (v := v2) rfl rfl Tryz.underlying46 (by kernel_rfl) HRV.out (HLK3.out v1) ?_; intro V2 hV hgV; rw [HSET.out] at hV; have HRW := ϕ hV; have HG2 := ϕ (HG.out.trans hgV); clear hV hgV c1 _t tok2))
 go_end0
 exact ⟨⟨_, rfl⟩, HRW.out, HG2.out⟩
theorem two_lo (t q : Nat) : (t % M + q) % M = (t + q) % M2 % M := by unfold M M2; omega
theorem two_hi (t q : Nat) (hq : q < M) : (t / M % M + (t % M + q) / M) % M = (t + q) % M2 / M := by unfold M M2 at *; omega
theorem two_or (h l : Nat) (hl : l < M) (hh : h < M) : (h * 8192 % M ||| l / W) = (h * M + l) / W % M := by
 have h1 : l / W < 2 ^ 13 := by unfold W M at *; omega
 have h2 : h * 8192 % M = (h % W) * 2 ^ 13 := by unfold W M; omega
 rw [h2, ← Nat.shiftLeft_eq, ← Nat.shiftLeft_add_eq_or_of_lt h1, Nat.shiftLeft_eq]
 unfold W M at *
 omega
/-- what goes on, of a sum in two words -/
theorem two_c (t q : Nat) (hq : q < M) : ((t / M % M + (t % M + q) / M) % M * 8192 % M ||| (t % M + q) % M / W) = (t + q) % M2 / W % M := by
 rw [two_or _ _ (mod_lt_M _) (mod_lt_M _), two_hi t q hq, two_lo]
 congr 2
 have := Nat.div_add_mod ((t + q) % M2) M
 rw [Nat.mul_comm]; exact this
theorem two_m (t q : Nat) : (t % M + q) % M % W = (t + q) % M2 % W := by rw [two_lo]; unfold M M2 W; omega
theorem wrap_shl (x : Nat) : IntKind.u64.wrap ((x : Int) * 8192) = ((x * 8192 % M : Nat) : Int) := by rw [IntKind.wrap_u64]; unfold M; omega
theorem wrap_or (x y : Nat) (hx : x < M) (hy : y < M) : bits .or .u64 (x : Int) (y : Int) = ((x ||| y : Nat) : Int) := u64_or_nat x y hx hy
end Go.Proofs.YtfpcelmekfdafaaGreatDoor.Kx
namespace Go.Proofs.YtfpcelmekfdafaaGreatDoor.Cl
open Go.RowKit
theorem index_words {P : Program} (ty elem : TypeId) (len : Nat) (xs : List Nat) (j : Nat) (hu : P.underlying ty = some (.array len elem)) (he : P.underlying elem = some (.int .u64))
 (hi : (P.info? elem).map (·.size) = some 1) (hl : xs.length = len) (hj : j < len) (w : World) :
 (Instr.index ty (.agg (u64s xs)) (.int .i64 (j : Int))).run P w = .ok (.int .u64 (nth xs j : Nat)) w := by
 cases hq : P.info? elem with
 | none => simp [hq] at hi
 | some i =>
 have hs : i.size = 1 := by simpa [hq] using hi
 have h2 : (u64s xs)[j]? = some (.int .u64 (nth xs j : Nat)) := by simp [u64s, nth, List.getElem?_eq_getElem (show j < xs.length by omega)]
 unfold Instr.index
 simp [go_sem, run_underlying hu, run_underlying he, hq, hs, sizeOf, typeInfo, hj, h2, part, isAgg]
end Go.Proofs.YtfpcelmekfdafaaGreatDoor.Cl
namespace Go.Proofs.YtfpcelmekfdafaaGreatDoor.Kx
open Go.RowKit Go.Proofs.YtfpcelmekfdafaaGreatDoor.Cl
def Z10 : Array Value := #[.int .u64 0, .int .u64 0, .int .u64 0, .int .u64 0, .int .u64 0, .int .u64 0, .int .u64 0, .int .u64 0, .int .u64 0, .int .u64 0]
theorem _root_.Go.Proofs.YtfpcelmekfdafaaGreatDoor.Cl.Row.alloc {w : World} {b T : Nat} {xs : List Nat} (h : Row w b T xs) (o : Obj) : Row (w.alloc o) b T xs := Rg.Blk.alloc (row_blk h) o
theorem row_cell_of {w : World} {b T j v : Nat} {l : List Nat} (h : Row w b T l) (hj : j < l.length) (hv : nth l j = v) : w.cell? ⟨b, j, none⟩ = some (.int .u64 (v : Nat)) := hv ▸ h.cell j hj
theorem it_rd_succ (T : List Nat) (k : Nat) (s : Nat × List Nat) : it (rd T) (k + 1) s = ((nth T k + (it (rd T) k s).1) % M2 / W % M, (it (rd T) k s).2.set k ((nth T k + (it (rd T) k s).1) % M2 % W)) := rfl
theorem it_rd_lt (T : List Nat) : ∀ (n j : Nat), nth (it (rd T) n (0, [0, 0, 0, 0, 0])).2 j < W
 | 0, j => by
  match j with
  | 0 => exact (show (0 : Nat) < W by decide)
  | 1 => exact (show (0 : Nat) < W by decide)
  | 2 => exact (show (0 : Nat) < W by decide)
  | 3 => exact (show (0 : Nat) < W by decide)
  | 4 => exact (show (0 : Nat) < W by decide)
  | j + 5 => simp [it, nth, W]
 | n + 1, j => by
  rw [it_rd_succ]
  by_cases h : n = j
  · subst h
    by_cases hl : n < (it (rd T) n (0, [0, 0, 0, 0, 0])).2.length
    · rw [nth_set hl]; exact mod_lt_W _
    · rw [List.set_eq_of_length_le (by omega)]; exact it_rd_lt T n n
  · rw [nth_set_ne h]; exact it_rd_lt T n j
theorem tot_lt {q o : Nat} (hq : q < M) (ho : o < M) : (q * 19 + o) % M2 = q * 19 + o := by unfold M M2 at *; omega
theorem div_lt {q : Nat} (hq : q < M) : q * 19 / M < M := by unfold M at *; omega
theorem set01 {l : List Nat} (h : l.length = 5) (a b : Nat) : (l.set 0 a).set 1 b = [a, b, nth l 2, nth l 3, nth l 4] := by
 match l, h with
 | [u0, u1, u2, u3, u4], _ => rfl
theorem sumadd2 (w : World) (b T j : Nat) (ts : List Nat) (hj : j < ts.length) (a c : Nat) (ha : a < M) (hc : c < M) (hB : Row w b T (fl ts)) : Calls Tryz.prog 80 #[.pointer (some ⟨b, j * 2, none⟩), .int .u64 a, .int .u64 c] w fun e w' => (∃ v, e = .returned v) ∧ Row w' b T (fl (ts.set j (nth ts j + a * c))) ∧ w.grownBy w' (some b) := by
 rw [Nat.mul_comm j 2]
 exact sumadd_any w b T j ts hj a c ha hc hB
theorem it_mulT_succ (xs ys : List Nat) (i k : Nat) (ts : List Nat) : it (mulT xs ys i) (k + 1) ts = if i + k < 5 then (it (mulT xs ys i) k ts).set (i + k) (nth (it (mulT xs ys i) k ts) (i + k) + nth xs i * nth ys k) else (it (mulT xs ys i) k ts).set (i + k - 5) (nth (it (mulT xs ys i) k ts) (i + k - 5) + nth xs i * 19 % M * nth ys k) := rfl
theorem Mul_any (w : World) (x y : E) (hx : x.ok) (hy : y.ok) : Calls Tryz.prog 47 #[.agg (u64s x.l), .agg (u64s y.l)] w fun e w' => e = .returned (.agg (u64s (mul x y).l)) ∧ Below w.heap.size w w' := by
 have HOX := ϕ hx
 have HOY := ϕ hy
 clear hx hy
 go_enter Tryz.func47, Tryz.ntmps47
 have tok1 := True.intro
 go_upto_region 1 with (first
  | (have _t := tok1; (with_reducible refine gate_ ?_); refine Rg.box_fresh rfl 49 _ rfl (u64s x.l) rfl ?_; intro X hX hbX hnX; have HX := ϕ hX; have HBX := ϕ hbX; have HNX := ϕ hnX; clear hX hbX hnX; have tok2 := True.intro; clear _t tok1)
  | (have _t := tok2; (with_reducible refine gate_ ?_); refine Rg.box_fresh rfl 49 _ rfl (u64s y.l) rfl ?_; intro X2 hX hbX hnX; have HY2 := ϕ hX; have HBY := ϕ hbX; have HNY := ϕ hnX; clear hX hbX hnX; clear _t tok2))
 obtain ⟨xb, hxb⟩ : ∃ xb, w.heap.size = xb := ⟨_, rfl⟩
 obtain ⟨yb, hyb⟩ : ∃ yb, X.heap.size = yb := ⟨_, rfl⟩
 obtain ⟨rb, hrb⟩ : ∃ rb, X2.heap.size = rb := ⟨_, rfl⟩
 have HR := ϕ (show Row (X2.alloc (.cells Z5 49)) xb 49 x.l from ((hxb ▸ HX.out).below HBY.out (hxb ▸ HX.out.lt)).alloc _)
 have HY := ϕ (show Row (X2.alloc (.cells Z5 49)) yb 49 y.l from (hyb ▸ HY2.out).alloc _)
 have HZ := ϕ (show Rg.Blk (X2.alloc (.cells Z5 49)) rb 49 Z5 from Rg.Blk.newAt hrb.symm _ _)
 have HB := ϕ (show Below xb w (X2.alloc (.cells Z5 49)) from hxb ▸ (HBX.out.trans (HBY.out.mono HBX.out.size)).alloc (Nat.le_trans HBX.out.size HBY.out.size) _)
 have HNE := ϕ (show xb ≠ yb ∧ xb ≠ rb ∧ xb ≤ rb from by have h1 := HNX.out; have h2 := HNY.out; refine ⟨?_, ?_, ?_⟩ <;> omega)
 have HXB := ϕ hxb
 rw [hxb, hyb, hrb, show (#[.int .u64 0, .int .u64 0, .int .u64 0, .int .u64 0, .int .u64 0] : Array Value) = Z5 from rfl]
 generalize X2.alloc (.cells Z5 49) = Z at *
 clear HX HBX HY2 HBY HNX HNY hxb hyb hrb
 obtain ⟨sb, hsb⟩ : ∃ sb, Z.heap.size = sb := ⟨_, rfl⟩
 have HXS := ϕ (show xb < sb ∧ yb < sb ∧ rb < sb from by rw [← hsb]; exact ⟨HR.out.lt, HY.out.lt, HZ.out.lt⟩)
 go_upto_region 2 with fail
 have HS := ϕ (show Row (Z.alloc (.cells Z10 104)) sb 104 (fl [0, 0, 0, 0, 0]) from Rg.Blk.newAt hsb.symm _ _)
 have HRs := ϕ (show Row (Z.alloc (.cells Z10 104)) xb 49 x.l from HR.out.alloc _)
 have HYs := ϕ (show Row (Z.alloc (.cells Z10 104)) yb 49 y.l from HY.out.alloc _)
 have HZs := ϕ (show Rg.Blk (Z.alloc (.cells Z10 104)) rb 49 Z5 from HZ.out.alloc _)
 have HBs := ϕ (show Below xb w (Z.alloc (.cells Z10 104)) from HB.out.alloc (HB.out.size_le HXB.out) _)
 rw [show (#[.int .u64 0, .int .u64 0, .int .u64 0, .int .u64 0, .int .u64 0, .int .u64 0, .int .u64 0, .int .u64 0, .int .u64 0, .int .u64 0] : Array Value) = Z10 from rfl]
 clear HR HY HZ HB
 generalize Z.alloc (.cells Z10 104) = Y at *
 clear hsb
 go_upto_region 3 with ((with_reducible refine gate_ ?_); refine Cv.load_cells rfl 47 _ rfl xb 0 rfl (u64s x.l) _ (fun j v hv => by rw [Nat.zero_add]; exact Rg.Blk.cell (row_blk HRs.out) j hv) Tryz.underlying47 rfl (by rw [u64s_size]; kernel_rfl) ?_; skip)
 clear HRs
 go_loopw [19] (fun i wr => ∃ k : Nat, k ≤ 5 ∧ i = .int .i64 k ∧ Row wr sb 104 (fl (it (mulR x.l y.l) k [0, 0, 0, 0, 0])) ∧ Row wr yb 49 y.l ∧ Rg.Blk wr rb 49 Z5 ∧ Below xb w wr) (fun i _ => 5 - (intOf i).toNat)
 case atStart => exact ⟨0, Nat.zero_le _, rfl, HS.out, HYs.out, HZs.out, HBs.out⟩
 case round =>
  obtain ⟨i, hi, rfl, hs, hy, hz, hb⟩ := hrel
  clear HS HYs HZs HBs
  have HS := ϕ hs
  have HY := ϕ hy
  have HZ := ϕ hz
  have HB := ϕ hb
  clear hs hy hz hb
  by_cases hi5 : i < 5
  · have hd : decide (i < 5) = true := by simp; exact hi5
    have hii : (i : Int) < 5 := by omega
    have hi0 : (0 : Int) ≤ i := by omega
    obtain ⟨n1, hn1⟩ : ∃ n1, nth x.l i = n1 := ⟨_, rfl⟩
    have HN1 := ϕ hn1
    have HL1 := ϕ (show n1 < M from hn1 ▸ HOX.out i)
    have HN5 := ϕ (show sb ≠ yb ∧ sb ≠ rb ∧ xb ≤ sb from by have h := HXS.out; refine ⟨?_, ?_, ?_⟩ <;> omega)
    have hx1 := index_words (P := Tryz.prog) 47 46 5 x.l i Tryz.underlying47 Tryz.underlying46 (by kernel_rfl) rfl hi5 wr
    rw [hn1] at hx1
    obtain ⟨Ti, hTi⟩ : ∃ Ti, it (mulR x.l y.l) i [0, 0, 0, 0, 0] = Ti := ⟨_, rfl⟩
    have HTI := ϕ hTi
    have HTL := ϕ (show Ti.length = 5 by rw [← hTi, it_mulR_len]; rfl)
    rw [hTi] at HS
    clear hn1 hTi
    go_upto_region 6 with ((with_reducible refine gate_ ?_); refine Cv.load_cells rfl 47 _ rfl yb 0 rfl (u64s y.l) _ (fun j v hv => by rw [Nat.zero_add]; exact Rg.Blk.cell (row_blk HY.out) j hv) Tryz.underlying47 rfl (by rw [u64s_size]; kernel_rfl) ?_; skip)
    clear hx1
    go_loopw [25] (fun c wr => ∃ k : Nat, k ≤ 5 ∧ c = .int .i64 k ∧ Row wr sb 104 (fl (it (mulT x.l y.l i) k Ti)) ∧ Row wr yb 49 y.l ∧ Rg.Blk wr rb 49 Z5 ∧ Below xb w wr) (fun c _ => 5 - (intOf c).toNat)
    case atStart => exact ⟨0, Nat.zero_le _, rfl, HS.out, HY.out, HZ.out, HB.out⟩
    case round =>
     obtain ⟨k, hk, rfl, hs, hy, hz, hb⟩ := hrel
     clear HS HY HZ HB
     have HS := ϕ hs
     have HY := ϕ hy
     have HZ := ϕ hz
     have HB := ϕ hb
     clear hs hy hz hb
     by_cases hk5 : k < 5
     · have hdk : decide (k < 5) = true := by simp; exact hk5
       have hki : (k : Int) < 5 := by omega
       have hk0 : (0 : Int) ≤ k := by omega
       obtain ⟨n2, hn2⟩ : ∃ n2, nth y.l k = n2 := ⟨_, rfl⟩
       have HN2y := ϕ hn2
       have HL2 := ϕ (show n2 < M from hn2 ▸ HOY.out k)
       have hy1 := index_words (P := Tryz.prog) 47 46 5 y.l k Tryz.underlying47 Tryz.underlying46 (by kernel_rfl) rfl hk5 wr
       rw [hn2] at hy1
       obtain ⟨Tk, hTk⟩ : ∃ Tk, it (mulT x.l y.l i) k Ti = Tk := ⟨_, rfl⟩
       have hst := it_mulT_succ x.l y.l i k Ti
       rw [hTk, HN1.out, hn2] at hst
       have HST := ϕ hst
       have HKL := ϕ (show Tk.length = 5 by rw [← hTk, it_mulT_len]; exact HTL.out)
       rw [hTk] at HS
       clear hn2 hTk hst
       by_cases hik : i + k < 5
       · have hdik : decide ((i : Int) + k < 5) = true := by simp; omega
         have hiki : (i : Int) + k < 5 := by omega
         have hik0 : (0 : Int) ≤ (i : Int) + k := by omega
         have HIK := ϕ hik
         go_wp2_with (go_at_call 80; refine (sumadd2 _ sb 104 (i + k) Tk (by rw [HKL.out]; omega) n1 n2 HL1.out HL2.out HS.out).mono ?_; rintro e w8 ⟨⟨v8, rfl⟩, hs8, hg8⟩; have HS8 := ϕ hs8; have HY8 := ϕ (row_other HY.out hg8 HN5.out.1); have HZ8 := ϕ (blk_other HZ.out hg8 HN5.out.2.1); have HB8 := ϕ (HB.out.grown hg8 (HB.out.size_le HXB.out) (fun j e => by cases e; exact HN5.out.2.2)); clear hs8 hg8)
         go_roundw
         case rel =>
          have REL := ϕ (show ∃ k' : Nat, k' ≤ 5 ∧ Value.int .i64 ((k : Int) + 1) = .int .i64 k' ∧ Row w8 sb 104 (fl (it (mulT x.l y.l i) k' Ti)) ∧ Row w8 yb 49 y.l ∧ Rg.Blk w8 rb 49 Z5 ∧ Below xb w w8 from ⟨k + 1, hk5, rfl, by rw [HST.out, if_pos HIK.out]; exact HS8.out, HY8.out, HZ8.out, HB8.out⟩)
          first
           | exact REL.out
           | ((repeat apply Exists.intro); refine ⟨?_, rfl⟩; exact REL.out)
         case measure => (first | (simp [intOf]; done) | (simp [intOf]; omega))
       · have hdik : decide ((i : Int) + k < 5) = false := by simp; omega
         have hiki : ¬ (i : Int) + k < 5 := by omega
         have hik0 : (0 : Int) ≤ (i : Int) + k - 5 := by omega
         have hik1 : (i : Int) + k - 5 < 5 := by omega
         have hikn : ((i : Int) + k - 5).toNat = i + k - 5 := by omega
         have e19 : IntKind.u64.wrap ((n1 : Int) * 19) = ((n1 * 19 % M : Nat) : Int) := wrap_mul n1 19
         have HIK := ϕ hik
         go_wp2_with (go_at_call 80; refine (sumadd2 _ sb 104 (i + k - 5) Tk (by rw [HKL.out]; omega) (n1 * 19 % M) n2 (mod_lt_M _) HL2.out HS.out).mono ?_; rintro e w8 ⟨⟨v8, rfl⟩, hs8, hg8⟩; have HS8 := ϕ hs8; have HY8 := ϕ (row_other HY.out hg8 HN5.out.1); have HZ8 := ϕ (blk_other HZ.out hg8 HN5.out.2.1); have HB8 := ϕ (HB.out.grown hg8 (HB.out.size_le HXB.out) (fun j e => by cases e; exact HN5.out.2.2)); clear hs8 hg8)
         go_roundw
         case rel =>
          have REL := ϕ (show ∃ k' : Nat, k' ≤ 5 ∧ Value.int .i64 ((k : Int) + 1) = .int .i64 k' ∧ Row w8 sb 104 (fl (it (mulT x.l y.l i) k' Ti)) ∧ Row w8 yb 49 y.l ∧ Rg.Blk w8 rb 49 Z5 ∧ Below xb w w8 from ⟨k + 1, hk5, rfl, by rw [HST.out, if_neg HIK.out]; exact HS8.out, HY8.out, HZ8.out, HB8.out⟩)
          first
           | exact REL.out
           | ((repeat apply Exists.intro); refine ⟨?_, rfl⟩; exact REL.out)
         case measure => (first | (simp [intOf]; done) | (simp [intOf]; omega))
     · obtain rfl : k = 5 := by omega
       have hdk : decide ((5 : Nat) < 5) = false := by simp
       have hmr : it (mulT x.l y.l i) 5 Ti = it (mulR x.l y.l) (i + 1) [0, 0, 0, 0, 0] := by rw [← HTI.out]; rfl
       rw [hmr] at HS
       clear hmr
       go_wp2
       go_roundw
       case rel =>
        have REL := ϕ (show ∃ k' : Nat, k' ≤ 5 ∧ Value.int .i64 ((i : Int) + 1) = .int .i64 k' ∧ Row wr sb 104 (fl (it (mulR x.l y.l) k' [0, 0, 0, 0, 0])) ∧ Row wr yb 49 y.l ∧ Rg.Blk wr rb 49 Z5 ∧ Below xb w wr from ⟨i + 1, hi5, rfl, HS.out, HY.out, HZ.out, HB.out⟩)
        first
         | exact REL.out
         | ((repeat apply Exists.intro); refine ⟨?_, rfl⟩; exact REL.out)
       case measure => (first | (simp [intOf]; done) | (simp [intOf]; omega))
  · obtain rfl : i = 5 := by omega
    have hd : decide ((5 : Nat) < 5) = false := by simp
    have hTe : it (mulR x.l y.l) 5 [0, 0, 0, 0, 0] = mulS x.l y.l := rfl
    rw [hTe] at HS
    clear hTe
    obtain ⟨T, hT⟩ : ∃ T, mulS x.l y.l = T := ⟨_, rfl⟩
    have HTL := ϕ (show T.length = 5 by rw [← hT]; unfold mulS; rw [it_mulR_len]; rfl)
    have HTE := ϕ hT
    rw [hT] at HS
    clear hT HY
    have HN6 := ϕ (show sb ≠ rb ∧ xb ≤ sb ∧ rb < sb from by have h := HXS.out; refine ⟨?_, ?_, ?_⟩ <;> omega)
    go_upto_region 14 with fail
    obtain ⟨ob, hob⟩ : ∃ ob, wr.heap.size = ob := ⟨_, rfl⟩
    have HO := ϕ (show Row (wr.alloc (.cells Z5 49)) ob 49 [0, 0, 0, 0, 0] from Rg.Blk.newAt hob.symm _ _)
    have HSo := ϕ (show Row (wr.alloc (.cells Z5 49)) sb 104 (fl T) from HS.out.alloc _)
    have HZo := ϕ (show Rg.Blk (wr.alloc (.cells Z5 49)) rb 49 Z5 from HZ.out.alloc _)
    have HBo := ϕ (show Below xb w (wr.alloc (.cells Z5 49)) from HB.out.alloc (HB.out.size_le HXB.out) _)
    have HN7 := ϕ (show ob ≠ sb ∧ ob ≠ rb ∧ xb ≤ ob ∧ xb ≤ sb ∧ sb ≠ ob ∧ sb ≠ rb ∧ xb ≤ rb from by have h1 := HS.out.lt; have h2 := HZ.out.lt; have h3 := HN6.out; have h4 := HNE.out; refine ⟨?_, ?_, ?_, ?_, ?_, ?_, ?_⟩ <;> omega)
    rw [hob, show (#[.int .u64 0, .int .u64 0, .int .u64 0, .int .u64 0, .int .u64 0] : Array Value) = Z5 from rfl]
    clear HS HZ HB
    generalize wr.alloc (.cells Z5 49) = Y3 at *
    clear hob
    go_upto_region 16 with fail
    go_loopw [11, 51] (fun c i wr => ∃ (k : Nat) (L : List Nat), k ≤ 5 ∧ i = .int .i64 k ∧ c = .int .u64 ((it (rd T) k (0, [0, 0, 0, 0, 0])).1 : Nat) ∧ Row wr ob 49 (it (rd T) k (0, [0, 0, 0, 0, 0])).2 ∧ Row wr sb 104 L ∧ L.length = 10 ∧ (∀ j, k * 2 ≤ j → nth L j = nth (fl T) j) ∧ Rg.Blk wr rb 49 Z5 ∧ Below xb w wr) (fun _ i _ => 5 - (intOf i).toNat)
    case atStart => exact ⟨0, fl T, Nat.zero_le _, rfl, rfl, HO.out, HSo.out, by rw [fl_len, HTL.out], fun j _ => rfl, HZo.out, HBo.out⟩
    case round =>
     obtain ⟨k, L, hk, rfl, rfl, ho, hs, hL, hrest, hz, hb⟩ := hrel
     clear HO HSo HZo HBo
     have HO := ϕ ho
     have HS := ϕ hs
     have HLL := ϕ hL
     have HRE := ϕ hrest
     have HZ := ϕ hz
     have HB := ϕ hb
     have HOL := ϕ (show (it (rd T) k (0, [0, 0, 0, 0, 0])).2.length = 5 by rw [it_rd_len]; rfl)
     have HQL := ϕ (it_rd_c T k)
     clear ho hs hL hrest hz hb
     by_cases hk5 : k < 5
     · have hdk : decide (k < 5) = true := by simp; exact hk5
       have hki : (k : Int) < 5 := by omega
       have hk0 : (0 : Int) ≤ k := by omega
       have hst := it_rd_succ T k (0, [0, 0, 0, 0, 0])
       obtain ⟨q, hq⟩ : ∃ q, (it (rd T) k (0, [0, 0, 0, 0, 0])).1 = q := ⟨_, rfl⟩
       obtain ⟨R, hR⟩ : ∃ R, (it (rd T) k (0, [0, 0, 0, 0, 0])).2 = R := ⟨_, rfl⟩
       obtain ⟨t, ht⟩ : ∃ t, nth T k = t := ⟨_, rfl⟩
       rw [hq, hR, ht] at hst
       rw [hq] at HQL ⊢
       rw [hR] at HO HOL
       have HLK := ϕ (show k * 2 < L.length ∧ k * 2 + 1 < L.length by rw [HLL.out]; omega)
       have hl0 : nth L (k * 2) = t % M := by rw [HRE.out _ (Nat.le_refl _), Nat.mul_comm, fl_lo, ht]
       have hh0 : nth L (k * 2 + 1) = t / M % M := by rw [HRE.out _ (Nat.le_succ _), Nat.mul_comm, fl_hi, ht]
       have hc := two_c t q HQL.out
       have hm := two_m t q
       obtain ⟨l0, el0⟩ : ∃ l0, t % M = l0 := ⟨_, rfl⟩
       obtain ⟨h0, eh0⟩ : ∃ h0, t / M % M = h0 := ⟨_, rfl⟩
       rw [el0] at hl0
       rw [eh0] at hh0
       rw [el0, eh0] at hc
       rw [el0] at hm
       obtain ⟨ov, hov⟩ : ∃ ov, (l0 + q) / M = ov := ⟨_, rfl⟩
       obtain ⟨v1, hv1⟩ : ∃ v1, (l0 + q) % M = v1 := ⟨_, rfl⟩
       have HA0 := ϕ (fun W => add64_0 l0 q W)
       rw [hov, hv1] at HA0
       rw [hov, hv1] at hc
       rw [hv1] at hm
       obtain ⟨v2, hv2⟩ : ∃ v2, (h0 + ov) % M = v2 := ⟨_, rfl⟩
       have e2 : IntKind.u64.wrap ((h0 : Int) + (ov : Int)) = (v2 : Int) := by rw [wrap_add, hv2]
       rw [hv2] at hc
       have HV := ϕ (show v1 < M ∧ v2 < M from ⟨hv1 ▸ mod_lt_M _, hv2 ▸ mod_lt_M _⟩)
       rw [← hc, ← hm] at hst
       have e3 : IntKind.u64.wrap ((v2 : Int) * 8192) = ((v2 * 8192 % M : Nat) : Int) := wrap_shl v2
       obtain ⟨p, hp⟩ : ∃ p, v2 * 8192 % M = p := ⟨_, rfl⟩
       rw [hp] at e3 hst
       have e4 : bits .or .u64 (p : Int) ((v1 : Int) / 2251799813685248) = ((p ||| v1 / W : Nat) : Int) := wrap_or p (v1 / W) (hp ▸ mod_lt_M _) (Nat.lt_of_le_of_lt (Nat.div_le_self _ _) HV.out.1)
       have e5 : bits .and .u64 (v1 : Int) 2251799813685247 = ((v1 % W : Nat) : Int) := and_mask v1 HV.out.1
       have HST := ϕ hst
       have c0 := row_cell_of HS.out HLK.out.1 hl0
       have HH0 := ϕ hh0
       have HOK := ϕ (show k < R.length by rw [HOL.out]; exact hk5)
       clear hst hq hR ht hl0 hh0 hc hm el0 eh0 hov hv1 hv2 hp
       have tok1 := True.intro
       go_upto_region 21 with (first
        | (simp only [HA0.out])
        | (have _t := tok1; (with_reducible refine gate_ ?_); refine store_cell rfl 46 _ _ rfl (b := sb) (j := k * 2) (v := v1) rfl rfl Tryz.underlying46 (by kernel_rfl) HS.out HLK.out.1 ?_; intro V hV hgV; have HS1 := ϕ hV; have HO1 := ϕ (row_other HO.out hgV HN7.out.2.2.2.2.1); have HZ1 := ϕ (blk_other HZ.out hgV HN7.out.2.2.2.2.2.1); have HB1 := ϕ (HB.out.grown hgV (HB.out.size_le HXB.out) (fun j e => by cases e; exact HN7.out.2.2.2.1)); have c1 := row_cell_of (j := k * 2 + 1) HS1.out (by rw [List.length_set]; exact HLK.out.2) ((nth_set_ne (by omega)).trans HH0.out); clear hV hgV c0; have tok2 := True.intro; clear _t tok1)
        | (have _t := tok2; (with_reducible refine gate_ ?_); refine store_cell rfl 46 _ _ rfl (b := sb) (j := k * 2 + 1) (v := v2) rfl rfl Tryz.underlying46 (by kernel_rfl) HS1.out (by rw [List.length_set]; exact HLK.out.2) ?_; intro V2 hV hgV; have HS2 := ϕ hV; have HO2 := ϕ (row_other HO1.out hgV HN7.out.2.2.2.2.1); have HZ2 := ϕ (blk_other HZ1.out hgV HN7.out.2.2.2.2.2.1); have HB2 := ϕ (HB1.out.grown hgV (HB1.out.size_le HXB.out) (fun j e => by cases e; exact HN7.out.2.2.2.1)); clear hV hgV c1 _t tok2))
       have HLK2 := ϕ (show k * 2 < ((L.set (k * 2) v1).set (k * 2 + 1) v2).length ∧ k * 2 + 1 < ((L.set (k * 2) v1).set (k * 2 + 1) v2).length by rw [List.length_set, List.length_set]; exact HLK.out)
       have HNV := ϕ (show nth ((L.set (k * 2) v1).set (k * 2 + 1) v2) (k * 2) = v1 ∧ nth ((L.set (k * 2) v1).set (k * 2 + 1) v2) (k * 2 + 1) = v2 from ⟨(nth_set_ne (by omega)).trans (nth_set HLK.out.1 v1), nth_set (by rw [List.length_set]; exact HLK.out.2) v2⟩)
       have HRE2 := ϕ (show ((L.set (k * 2) v1).set (k * 2 + 1) v2).length = 10 ∧ ∀ j, (k + 1) * 2 ≤ j → nth ((L.set (k * 2) v1).set (k * 2 + 1) v2) j = nth (fl T) j from ⟨by rw [List.length_set, List.length_set]; exact HLL.out, fun j hj => ((nth_set_ne (by omega)).trans (nth_set_ne (by omega))).trans (HRE.out j (by omega))⟩)
       generalize (L.set (k * 2) v1).set (k * 2 + 1) v2 = L2 at *
       refine RL.start (fun W => Below V2.heap.size V2 W) (by kernel_rfl) (Below.drew (Below.refl _ _)) ?_
       refine' RL.tv 0 ?hk1 ?_
       case hk1 => (intro W hSW; go_simp; try with_reducible rfl)
       try go_frame
       refine' RL.tv 1 ?hk2 ?_
       case hk2 => (intro W hSW; go_simp; try with_reducible rfl)
       try go_frame
       refine' RL.tv 2 ?hk3 ?_
       case hk3 => (intro W hSW; go_simp; try with_reducible rfl)
       try go_frame
       refine' RL.tv 3 ?hk4 ?_
       case hk4 => (intro W hSW; have k1 := row_cell_of (HS2.out.below hSW HS2.out.lt) HLK2.out.2 HNV.out.2; go_simp; try with_reducible rfl)
       try go_frame
       refine' RL.tv 4 ?hk5 ?_
       case hk5 => (intro W hSW; have e3x := e3; go_simp; try with_reducible rfl)
       try go_frame
       refine' RL.tv 5 ?hk6 ?_
       case hk6 => (intro W hSW; go_simp; try with_reducible rfl)
       try go_frame
       refine' RL.tv 6 ?hk7 ?_
       case hk7 => (intro W hSW; go_simp; try with_reducible rfl)
       try go_frame
       refine' RL.tv 7 ?hk8 ?_
       case hk8 => (intro W hSW; go_simp; try with_reducible rfl)
       try go_frame
       refine' RL.tv 8 ?hk9 ?_
       case hk9 => (intro W hSW; have k0 := row_cell_of (HS2.out.below hSW HS2.out.lt) HLK2.out.1 HNV.out.1; go_simp; try with_reducible rfl)
       try go_frame
       refine' RL.tv 9 ?hk10 ?_
       case hk10 => (intro W hSW; go_simp; try with_reducible rfl)
       try go_frame
       refine' RL.tv 10 ?hk11 ?_
       case hk11 => (intro W hSW; have e4x := e4; go_simp; try with_reducible rfl)
       try go_frame
       refine' RL.tv 11 ?hk12 ?_
       case hk12 => (intro W hSW; go_simp; try with_reducible rfl)
       try go_frame
       refine RL.done (by kernel_rfl) (fun wd hlwd hswd => ?_)
       have hlx : Below V2.heap.size V2 wd := (Below.drew (Below.refl _ _)).trans hlwd
       have HS3 := ϕ (HS2.out.below hlx HS2.out.lt)
       have HO3 := ϕ (HO2.out.below hlx HO2.out.lt)
       have HZ3 := ϕ (HZ2.out.below hlx HZ2.out.lt)
       have HB3 := ϕ (HB2.out.trans (hlx.mono (HB2.out.size_le HXB.out)))
       clear hlwd hswd hlx
       have c4 := row_cell_of HS3.out HLK2.out.1 HNV.out.1
       go_wp2_with ((with_reducible refine gate_ ?_); refine store_cell rfl 46 _ _ rfl (b := ob) (j := k) (v := v1 % W) rfl rfl Tryz.underlying46 (by kernel_rfl) HO3.out HOK.out ?_; intro V4 hV hgV; have HO4 := ϕ hV; have HS4 := ϕ (row_other HS3.out hgV HN7.out.1); have HZ4 := ϕ (blk_other HZ3.out hgV HN7.out.2.1); have HB4 := ϕ (HB3.out.grown hgV (HB3.out.size_le HXB.out) (fun j e => by cases e; exact HN7.out.2.2.1)); clear hV hgV c4)
       go_roundw
       case rel =>
        have REL := ϕ (show ∃ (k' : Nat) (L' : List Nat), k' ≤ 5 ∧ Value.int .i64 ((k : Int) + 1) = .int .i64 k' ∧ Value.int .u64 ((p ||| v1 / W : Nat) : Int) = .int .u64 ((it (rd T) k' (0, [0, 0, 0, 0, 0])).1 : Nat) ∧ Row V4 ob 49 (it (rd T) k' (0, [0, 0, 0, 0, 0])).2 ∧ Row V4 sb 104 L' ∧ L'.length = 10 ∧ (∀ j, k' * 2 ≤ j → nth L' j = nth (fl T) j) ∧ Rg.Blk V4 rb 49 Z5 ∧ Below xb w V4 from ⟨k + 1, L2, hk5, rfl, by rw [HST.out], by rw [HST.out]; exact HO4.out, HS4.out, HRE2.out.1, HRE2.out.2, HZ4.out, HB4.out⟩)
        first
         | exact REL.out
         | ((repeat apply Exists.intro); refine ⟨?_, rfl⟩; exact REL.out)
       case measure => (first | (simp [intOf]; done) | (simp [intOf]; omega))
     · obtain rfl : k = 5 := by omega
       have hdk : decide ((5 : Nat) < 5) = false := by simp
       have hmul : mul x y = carry ⟨((it (rd T) 5 (0, [0, 0, 0, 0, 0])).1 * 19 + nth (it (rd T) 5 (0, [0, 0, 0, 0, 0])).2 0) % W, (nth (it (rd T) 5 (0, [0, 0, 0, 0, 0])).2 1 + ((it (rd T) 5 (0, [0, 0, 0, 0, 0])).1 * 19 + nth (it (rd T) 5 (0, [0, 0, 0, 0, 0])).2 0) / W % M) % M, nth (it (rd T) 5 (0, [0, 0, 0, 0, 0])).2 2, nth (it (rd T) 5 (0, [0, 0, 0, 0, 0])).2 3, nth (it (rd T) 5 (0, [0, 0, 0, 0, 0])).2 4⟩ := by rw [← mulE_eq, ← HTE.out]; rfl
       have HRW := ϕ (it_rd_lt T 5)
       obtain ⟨q, hq⟩ : ∃ q, (it (rd T) 5 (0, [0, 0, 0, 0, 0])).1 = q := ⟨_, rfl⟩
       obtain ⟨R, hR⟩ : ∃ R, (it (rd T) 5 (0, [0, 0, 0, 0, 0])).2 = R := ⟨_, rfl⟩
       rw [hq, hR] at hmul
       rw [hq] at HQL ⊢
       rw [hR] at HO HOL HRW
       obtain ⟨o0, ho0⟩ : ∃ o0, nth R 0 = o0 := ⟨_, rfl⟩
       obtain ⟨o1, ho1⟩ : ∃ o1, nth R 1 = o1 := ⟨_, rfl⟩
       have HO0 := ϕ (show o0 < M from ho0 ▸ Nat.lt_trans (HRW.out 0) W_lt_M)
       rw [ho0, ho1] at hmul
       have hc := two_c (q * 19) o0 HO0.out
       have hm := two_m (q * 19) o0
       rw [tot_lt HQL.out HO0.out] at hc hm
       obtain ⟨p1, hp1⟩ : ∃ p1, q * 19 / M = p1 := ⟨_, rfl⟩
       obtain ⟨p2, hp2⟩ : ∃ p2, q * 19 % M = p2 := ⟨_, rfl⟩
       have HMU := ϕ (fun W => Tryz.bits_Mul64 q 19 HQL.out (by decide) W)
       rw [show (18446744073709551616 : Nat) = M from rfl, hp1, hp2] at HMU
       have hp1M : q * 19 / M % M = p1 := by rw [Nat.mod_eq_of_lt (div_lt HQL.out), hp1]
       rw [hp1M, hp2] at hc
       rw [hp2] at hm
       obtain ⟨ov, hov⟩ : ∃ ov, (p2 + o0) / M = ov := ⟨_, rfl⟩
       obtain ⟨v1, hv1⟩ : ∃ v1, (p2 + o0) % M = v1 := ⟨_, rfl⟩
       have HA0 := ϕ (fun W => add64_0 p2 o0 W)
       rw [hov, hv1] at HA0 hc
       rw [hv1] at hm
       obtain ⟨v2, hv2⟩ : ∃ v2, (p1 + ov) % M = v2 := ⟨_, rfl⟩
       have e2 : IntKind.u64.wrap ((p1 : Int) + (ov : Int)) = (v2 : Int) := by rw [wrap_add, hv2]
       rw [hv2] at hc
       have HV := ϕ (show v1 < M from hv1 ▸ mod_lt_M _)
       have e3 : IntKind.u64.wrap ((v2 : Int) * 8192) = ((v2 * 8192 % M : Nat) : Int) := wrap_shl v2
       obtain ⟨p, hp⟩ : ∃ p, v2 * 8192 % M = p := ⟨_, rfl⟩
       rw [hp] at e3 hc
       have e4 : bits .or .u64 (p : Int) ((v1 : Int) / 2251799813685248) = ((p ||| v1 / W : Nat) : Int) := wrap_or p (v1 / W) (hp ▸ mod_lt_M _) (Nat.lt_of_le_of_lt (Nat.div_le_self _ _) HV.out)
       have e5 : bits .and .u64 (v1 : Int) 2251799813685247 = ((v1 % W : Nat) : Int) := and_mask v1 HV.out
       rw [← hc, ← hm] at hmul
       obtain ⟨r, hr⟩ : ∃ r, (p ||| v1 / W) = r := ⟨_, rfl⟩
       rw [hr] at e4 hmul
       have e6 : IntKind.u64.wrap ((o1 : Int) + (r : Int)) = (((o1 + r) % M : Nat) : Int) := wrap_add o1 r
       obtain ⟨v3, hv3⟩ : ∃ v3, (o1 + r) % M = v3 := ⟨_, rfl⟩
       rw [hv3] at e6 hmul
       obtain ⟨F, hF⟩ : ∃ F : E, (⟨v1 % W, v3, nth R 2, nth R 3, nth R 4⟩ : E) = F := ⟨_, rfl⟩
       rw [hF] at hmul
       have HFL := ϕ (show (R.set 0 (v1 % W)).set 1 v3 = F.l from by rw [← hF]; exact set01 HOL.out _ _)
       have HMUL := ϕ hmul
       have c0 := row_cell_of HO.out (by rw [HOL.out]; decide) ho0
       have HO1 := ϕ ho1
       have HL01 := ϕ (show 0 < R.length ∧ 1 < (R.set 0 (v1 % W)).length by rw [List.length_set, HOL.out]; decide)
       clear hmul hq hR ho0 ho1 hc hm hp1 hp2 hp1M hov hv1 hv2 hp hr hv3 hF HS HRE
       have tok1 := True.intro
       go_wp2_with (first
        | (go_at_call 82; refine (HMU.out _).mono ?_; rintro e w9 ⟨rfl, rfl⟩; skip)
        | (simp only [HA0.out])
        | (have _t := tok1; (with_reducible refine gate_ ?_); refine store_cell rfl 46 _ _ rfl (b := ob) (j := 0) (v := v1 % W) rfl rfl Tryz.underlying46 (by kernel_rfl) HO.out HL01.out.1 ?_; intro V hV hgV; have HOa := ϕ hV; have HZa := ϕ (blk_other HZ.out hgV HN7.out.2.1); have HBa := ϕ (HB.out.grown hgV (HB.out.size_le HXB.out) (fun j e => by cases e; exact HN7.out.2.2.1)); have c1 := row_cell_of (j := 1) HOa.out HL01.out.2 ((nth_set_ne (by decide)).trans HO1.out); clear hV hgV c0; have tok2 := True.intro; clear _t tok1)
        | (have _t := tok2; (with_reducible refine gate_ ?_); refine store_cell rfl 46 _ _ rfl (b := ob) (j := 1) (v := v3) rfl rfl Tryz.underlying46 (by kernel_rfl) HOa.out HL01.out.2 ?_; intro V2 hV hgV; rw [HFL.out] at hV; have HOb := ϕ hV; have HZb := ϕ (blk_other HZa.out hgV HN7.out.2.1); have HBb := ϕ (HBa.out.grown hgV (HBa.out.size_le HXB.out) (fun j e => by cases e; exact HN7.out.2.2.1)); clear hV hgV c1 _t tok2)
        | ((with_reducible refine gate_ ?_); refine Cv.load_cells rfl 49 _ rfl ob 0 rfl (u64s F.l) _ (fun j v hv => by rw [Nat.zero_add]; exact Rg.Blk.cell (row_blk HOb.out) j hv) Tryz.underlying49 rfl (by rw [u64s_size]; kernel_rfl) ?_; skip)
        | (go_at_call 83; refine (carry_any _ F).mono ?_; rintro e w9 ⟨rfl, hb9⟩; have HZ9 := ϕ (HZb.out.below hb9 HZb.out.lt); have HB9 := ϕ (HBb.out.trans (hb9.mono (HBb.out.size_le HXB.out))); clear hb9)
        | ((with_reducible refine gate_ ?_); refine Cv.store_blk rfl 49 _ _ rfl rb (u64s (carry F).l) Z5 49 rfl rfl HZ9.out (by rw [u64s_size]; kernel_rfl) (by rw [u64s_size]; rfl) (u64s_one _) ?_; intro V3 hV hgV; have HZZ := ϕ hV; have HBZ := ϕ (HB9.out.grown hgV (HB9.out.size_le HXB.out) (fun j e => by cases e; exact HN7.out.2.2.2.2.2.2)); clear hV hgV))
       refine bodyPost_ret (v := .agg (u64s (carry F).l))
        (results_cell_row Tryz.results47 _ _ rb 49 _ (0, 0) _ rfl HZZ.out Tryz.underlying49 rfl (by rw [u64s_size]; kernel_rfl)) rfl ?_
       exact ⟨by rw [HMUL.out], HXB.out ▸ HBZ.out⟩
theorem Square_any (w : World) (x : E) (hx : x.ok) : Calls Tryz.prog 85 #[.agg (u64s x.l)] w fun e w' => e = .returned (.agg (u64s (sq x).l)) ∧ Below w.heap.size w w' := by
 have HOX := ϕ hx
 clear hx
 go_enter Tryz.func85, Tryz.ntmps85
 go_upto_region 1 with ((with_reducible refine gate_ ?_); refine Rg.box_fresh rfl 49 _ rfl (u64s x.l) rfl ?_; intro X hX hbX hnX; have HX := ϕ hX; have HBX := ϕ hbX; have HNX := ϕ hnX; clear hX hbX hnX)
 obtain ⟨xb, hxb⟩ : ∃ xb, w.heap.size = xb := ⟨_, rfl⟩
 obtain ⟨rb, hrb⟩ : ∃ rb, X.heap.size = rb := ⟨_, rfl⟩
 have HR := ϕ (show Row (X.alloc (.cells Z5 49)) xb 49 x.l from (hxb ▸ HX.out).alloc _)
 have HZ := ϕ (show Rg.Blk (X.alloc (.cells Z5 49)) rb 49 Z5 from Rg.Blk.newAt hrb.symm _ _)
 have HB := ϕ (show Below xb w (X.alloc (.cells Z5 49)) from hxb ▸ HBX.out.alloc HBX.out.size _)
 have HNE := ϕ (show xb ≠ rb ∧ xb ≤ rb from by have h1 := HX.out.lt; constructor <;> omega)
 have HXB := ϕ hxb
 rw [hxb, hrb, show (#[.int .u64 0, .int .u64 0, .int .u64 0, .int .u64 0, .int .u64 0] : Array Value) = Z5 from rfl]
 generalize X.alloc (.cells Z5 49) = Y at *
 clear HX HBX HNX hxb hrb
 go_wp2_with (first
  | ((with_reducible refine gate_ ?_); refine Cv.load_cells rfl 49 _ rfl xb 0 rfl (u64s x.l) _ (fun j v hv => by rw [Nat.zero_add]; exact Rg.Blk.cell (row_blk HR.out) j hv) Tryz.underlying49 rfl (by rw [u64s_size]; kernel_rfl) ?_; skip)
  | (go_at_call 47; refine (Mul_any _ x x HOX.out HOX.out).mono ?_; rintro e w9 ⟨rfl, hb9⟩; have HZ9 := ϕ (HZ.out.below hb9 HZ.out.lt); have HB9 := ϕ (HB.out.trans (hb9.mono (HB.out.size_le HXB.out))); clear hb9)
  | ((with_reducible refine gate_ ?_); refine Cv.store_blk rfl 49 _ _ rfl rb (u64s (mul x x).l) Z5 49 rfl rfl HZ9.out (by rw [u64s_size]; kernel_rfl) (by rw [u64s_size]; first | rfl | rw [u64s_size]) (u64s_one _) ?_; intro V3 hV hgV; have HZZ := ϕ hV; have HBZ := ϕ (HB9.out.grown hgV (HB9.out.size_le HXB.out) (fun j e => by cases e; exact HNE.out.2)); clear hV hgV))
 refine bodyPost_ret (v := .agg (u64s (mul x x).l))
  (results_cell_row Tryz.results85 _ _ rb 49 _ (0, 0) _ rfl HZZ.out Tryz.underlying49 rfl (by rw [u64s_size]; kernel_rfl)) rfl ?_
 exact ⟨rfl, HXB.out ▸ HBZ.out⟩
theorem Small_any (w : World) (n : Nat) (hn : n < M) : Calls Tryz.prog 45 #[.int .u64 n] w fun e w' => e = .returned (.agg (u64s (small n).l)) ∧ Below w.heap.size w w' := by
 have e1 : bits .and .u64 (n : Int) 2251799813685247 = ((n % W : Nat) : Int) := and_mask n hn
 go_enter Tryz.func45, Tryz.ntmps45
 go_wp2_with (refine Rg.store_fresh rfl 49 _ _ rfl (u64s (small n).l) _ 49 rfl rfl (by rw [u64s_size]; kernel_rfl) rfl (u64s_one _) ?_; intro X hX hbX; have HZZ := ϕ hX; have HBZ := ϕ hbX; clear hX hbX)
 refine bodyPost_ret (v := .agg (u64s (small n).l))
  (results_cell_row Tryz.results45 _ _ w.heap.size 49 _ (0, 0) _ rfl HZZ.out Tryz.underlying49 rfl (by rw [u64s_size]; kernel_rfl)) rfl ?_
 exact ⟨rfl, HBZ.out⟩
theorem Choose_any (w : World) (f : Bool) (x y : E) : Calls Tryz.prog 97 #[.bool f, .agg (u64s x.l), .agg (u64s y.l)] w fun e w' => e = .returned (.agg (u64s (if f = true then x else y).l)) ∧ Below w.heap.size w w' := by
 cases f with
 | true =>
  go_enter Tryz.func97, Tryz.ntmps97
  have tok1 := True.intro
  go_upto_region 1 with (first
   | (have _t := tok1; (with_reducible refine gate_ ?_); refine Rg.box_fresh rfl 49 _ rfl (u64s x.l) rfl ?_; intro X hX hbX hnX; have HX := ϕ hX; have HBX := ϕ hbX; have HNX := ϕ hnX; clear hX hbX hnX; have tok2 := True.intro; clear _t tok1)
   | (have _t := tok2; (with_reducible refine gate_ ?_); refine Rg.box_fresh rfl 49 _ rfl (u64s y.l) rfl ?_; intro X2 hX hbX hnX; have HY2 := ϕ hX; have HBY := ϕ hbX; have HNY := ϕ hnX; clear hX hbX hnX; clear _t tok2))
  obtain ⟨xb, hxb⟩ : ∃ xb, w.heap.size = xb := ⟨_, rfl⟩
  obtain ⟨yb, hyb⟩ : ∃ yb, X.heap.size = yb := ⟨_, rfl⟩
  obtain ⟨rb, hrb⟩ : ∃ rb, X2.heap.size = rb := ⟨_, rfl⟩
  have HR := ϕ (show Row (X2.alloc (.cells Z5 49)) xb 49 x.l from ((hxb ▸ HX.out).below HBY.out (hxb ▸ HX.out.lt)).alloc _)
  have HZ := ϕ (show Rg.Blk (X2.alloc (.cells Z5 49)) rb 49 Z5 from Rg.Blk.newAt hrb.symm _ _)
  have HB := ϕ (show Below xb w (X2.alloc (.cells Z5 49)) from hxb ▸ (HBX.out.trans (HBY.out.mono HBX.out.size)).alloc (Nat.le_trans HBX.out.size HBY.out.size) _)
  have HNE := ϕ (show xb ≠ yb ∧ xb ≠ rb ∧ xb ≤ rb from by have h1 := HNX.out; have h2 := HNY.out; refine ⟨?_, ?_, ?_⟩ <;> omega)
  have HXB := ϕ hxb
  rw [hxb, hyb, hrb, show (#[.int .u64 0, .int .u64 0, .int .u64 0, .int .u64 0, .int .u64 0] : Array Value) = Z5 from rfl]
  generalize X2.alloc (.cells Z5 49) = Z at *
  clear HX HBX HY2 HBY HNX HNY hxb hyb hrb
  go_wp2_with (first
   | ((with_reducible refine gate_ ?_); refine Cv.load_cells rfl 49 _ rfl xb 0 rfl (u64s x.l) _ (fun j v hv => by rw [Nat.zero_add]; exact Rg.Blk.cell (row_blk HR.out) j hv) Tryz.underlying49 rfl (by rw [u64s_size]; kernel_rfl) ?_; skip)
   | ((with_reducible refine gate_ ?_); refine Cv.store_blk rfl 49 _ _ rfl rb (u64s x.l) Z5 49 rfl rfl HZ.out (by rw [u64s_size]; kernel_rfl) (by rw [u64s_size]; first | rfl | rw [u64s_size]) (u64s_one _) ?_; intro V3 hV hgV; have HZZ := ϕ hV; have HBZ := ϕ (HB.out.grown hgV (HB.out.size_le HXB.out) (fun j e => by cases e; exact HNE.out.2.2)); clear hV hgV))
  refine bodyPost_ret (v := .agg (u64s (x).l))
   (results_cell_row Tryz.results97 _ _ rb 49 _ (0, 0) _ rfl HZZ.out Tryz.underlying49 rfl (by rw [u64s_size]; kernel_rfl)) rfl ?_
  exact ⟨rfl, HXB.out ▸ HBZ.out⟩
 | false =>
  go_enter Tryz.func97, Tryz.ntmps97
  have tok1 := True.intro
  go_upto_region 1 with (first
   | (have _t := tok1; (with_reducible refine gate_ ?_); refine Rg.box_fresh rfl 49 _ rfl (u64s x.l) rfl ?_; intro X hX hbX hnX; have HX := ϕ hX; have HBX := ϕ hbX; have HNX := ϕ hnX; clear hX hbX hnX; have tok2 := True.intro; clear _t tok1)
   | (have _t := tok2; (with_reducible refine gate_ ?_); refine Rg.box_fresh rfl 49 _ rfl (u64s y.l) rfl ?_; intro X2 hX hbX hnX; have HY2 := ϕ hX; have HBY := ϕ hbX; have HNY := ϕ hnX; clear hX hbX hnX; clear _t tok2))
  obtain ⟨xb, hxb⟩ : ∃ xb, w.heap.size = xb := ⟨_, rfl⟩
  obtain ⟨yb, hyb⟩ : ∃ yb, X.heap.size = yb := ⟨_, rfl⟩
  obtain ⟨rb, hrb⟩ : ∃ rb, X2.heap.size = rb := ⟨_, rfl⟩
  have HY := ϕ (show Row (X2.alloc (.cells Z5 49)) yb 49 y.l from (hyb ▸ HY2.out).alloc _)
  have HZ := ϕ (show Rg.Blk (X2.alloc (.cells Z5 49)) rb 49 Z5 from Rg.Blk.newAt hrb.symm _ _)
  have HB := ϕ (show Below xb w (X2.alloc (.cells Z5 49)) from hxb ▸ (HBX.out.trans (HBY.out.mono HBX.out.size)).alloc (Nat.le_trans HBX.out.size HBY.out.size) _)
  have HNE := ϕ (show xb ≠ yb ∧ xb ≠ rb ∧ xb ≤ rb from by have h1 := HNX.out; have h2 := HNY.out; refine ⟨?_, ?_, ?_⟩ <;> omega)
  have HXB := ϕ hxb
  rw [hxb, hyb, hrb, show (#[.int .u64 0, .int .u64 0, .int .u64 0, .int .u64 0, .int .u64 0] : Array Value) = Z5 from rfl]
  generalize X2.alloc (.cells Z5 49) = Z at *
  clear HX HBX HY2 HBY HNX HNY hxb hyb hrb
  go_wp2_with (first
   | ((with_reducible refine gate_ ?_); refine Cv.load_cells rfl 49 _ rfl yb 0 rfl (u64s y.l) _ (fun j v hv => by rw [Nat.zero_add]; exact Rg.Blk.cell (row_blk HY.out) j hv) Tryz.underlying49 rfl (by rw [u64s_size]; kernel_rfl) ?_; skip)
   | ((with_reducible refine gate_ ?_); refine Cv.store_blk rfl 49 _ _ rfl rb (u64s y.l) Z5 49 rfl rfl HZ.out (by rw [u64s_size]; kernel_rfl) (by rw [u64s_size]; first | rfl | rw [u64s_size]) (u64s_one _) ?_; intro V3 hV hgV; have HZZ := ϕ hV; have HBZ := ϕ (HB.out.grown hgV (HB.out.size_le HXB.out) (fun j e => by cases e; exact HNE.out.2.2)); clear hV hgV))
  refine bodyPost_ret (v := .agg (u64s (y).l))
   (results_cell_row Tryz.results97 _ _ rb 49 _ (0, 0) _ rfl HZZ.out Tryz.underlying49 rfl (by rw [u64s_size]; kernel_rfl)) rfl ?_
  exact ⟨rfl, HXB.out ▸ HBZ.out⟩
theorem it_cr_succ (k : Nat) (s : Nat × List Nat) : it cr (k + 1) s = cr k (it cr k s) := rfl
theorem least_any (w : World) (x : E) : Calls Tryz.prog 89 #[.agg (u64s x.l)] w fun e w' => e = .returned (.agg (u64s (least x).l)) ∧ Below w.heap.size w w' := by
 go_enter Tryz.func89, Tryz.ntmps89
 go_upto_region 1 with ((with_reducible refine gate_ ?_); refine Rg.box_fresh rfl 49 _ rfl (u64s x.l) rfl ?_; intro X hX hbX hnX; have HX := ϕ hX; have HBX := ϕ hbX; have HNX := ϕ hnX; clear hX hbX hnX)
 obtain ⟨xb, hxb⟩ : ∃ xb, w.heap.size = xb := ⟨_, rfl⟩
 obtain ⟨rb, hrb⟩ : ∃ rb, X.heap.size = rb := ⟨_, rfl⟩
 have HR := ϕ (show Row (X.alloc (.cells Z5 49)) xb 49 x.l from (hxb ▸ HX.out).alloc _)
 have HZ := ϕ (show Rg.Blk (X.alloc (.cells Z5 49)) rb 49 Z5 from Rg.Blk.newAt hrb.symm _ _)
 have HB := ϕ (show Below xb w (X.alloc (.cells Z5 49)) from hxb ▸ HBX.out.alloc HBX.out.size _)
 have HNE := ϕ (show xb ≠ rb ∧ xb ≤ rb from by have h1 := HX.out.lt; constructor <;> omega)
 have HXB := ϕ hxb
 rw [hxb, hrb, show (#[.int .u64 0, .int .u64 0, .int .u64 0, .int .u64 0, .int .u64 0] : Array Value) = Z5 from rfl]
 generalize X.alloc (.cells Z5 49) = Y at *
 clear HX HBX HNX hxb hrb
 have tok1 := True.intro
 go_upto_region 2 with (first
  | ((with_reducible refine gate_ ?_); refine Cv.load_cells rfl 49 _ rfl xb 0 rfl (u64s x.l) _ (fun j v hv => by rw [Nat.zero_add]; exact Rg.Blk.cell (row_blk HR.out) j hv) Tryz.underlying49 rfl (by rw [u64s_size]; kernel_rfl) ?_; skip)
  | (have _t := tok1; go_at_call 83; refine (carry_any _ x).mono ?_; rintro e w9 ⟨rfl, hb9⟩; have HR9 := ϕ (HR.out.below hb9 HR.out.lt); have HZ9 := ϕ (HZ.out.below hb9 HZ.out.lt); have HB9 := ϕ (HB.out.trans (hb9.mono (HB.out.size_le HXB.out))); clear hb9; have tok2 := True.intro; clear _t tok1)
  | (have _t := tok2; go_at_call 83; refine (carry_any _ (carry x)).mono ?_; rintro e w8 ⟨rfl, hb9⟩; have HR8 := ϕ (HR9.out.below hb9 HR9.out.lt); have HZ8 := ϕ (HZ9.out.below hb9 HZ9.out.lt); have HB8 := ϕ (HB9.out.trans (hb9.mono (HB9.out.size_le HXB.out))); clear hb9 _t tok2)
  | ((with_reducible refine gate_ ?_); refine Cv.store_blk rfl 49 _ _ rfl xb (u64s (carry (carry x)).l) (u64s x.l) 49 rfl rfl (row_blk HR8.out) (by rw [u64s_size]; kernel_rfl) (by rw [u64s_size]; first | rfl | rw [u64s_size]) (u64s_one _) ?_; intro V3 hV hgV; have HRn := ϕ (show Row V3 xb 49 (carry (carry x)).l from hV); have HZn := ϕ (blk_other HZ8.out hgV HNE.out.1); have HBn := ϕ (HB8.out.grown hgV (HB8.out.size_le HXB.out) (fun j e => by cases e; exact Nat.le_refl _)); clear hV hgV))
 clear HR HZ HB HR9 HZ9 HB9 HR8 HZ8 HB8
 obtain ⟨y, hy⟩ : ∃ y, carry (carry x) = y := ⟨_, rfl⟩
 have HYE := ϕ hy
 rw [hy] at HRn
 rw [hy]
 clear hy
 go_upto_region 4 with ((with_reducible refine gate_ ?_); refine Cv.load_cells rfl 47 _ rfl xb 0 rfl (u64s y.l) _ (fun j v hv => by rw [Nat.zero_add]; exact Rg.Blk.cell (row_blk HRn.out) j hv) Tryz.underlying47 rfl (by rw [u64s_size]; kernel_rfl) ?_; skip)
 go_loopw [3, 12] (fun c i wr => ∃ k : Nat, k ≤ 5 ∧ i = .int .i64 k ∧ c = .int .u64 (it (lc y.l) k 19 : Nat) ∧ Row wr xb 49 y.l ∧ Rg.Blk wr rb 49 Z5 ∧ Below xb w wr) (fun _ i _ => 5 - (intOf i).toNat)
 case atStart => exact ⟨0, Nat.zero_le _, rfl, rfl, HRn.out, HZn.out, HBn.out⟩
 case round =>
  obtain ⟨k, hk, rfl, rfl, hr, hz, hb⟩ := hrel
  clear HRn HZn HBn
  have HRn := ϕ hr
  have HZn := ϕ hz
  have HBn := ϕ hb
  clear hr hz hb
  by_cases hk5 : k < 5
  · have hd : decide (k < 5) = true := by simp; exact hk5
    have hki : (k : Int) < 5 := by omega
    have hk0 : (0 : Int) ≤ k := by omega
    have hst : it (lc y.l) (k + 1) 19 = (nth y.l k + it (lc y.l) k 19) % M / W := rfl
    obtain ⟨n1, hn1⟩ : ∃ n1, nth y.l k = n1 := ⟨_, rfl⟩
    obtain ⟨q1, hq1⟩ : ∃ q1, it (lc y.l) k 19 = q1 := ⟨_, rfl⟩
    have hx1 := index_words (P := Tryz.prog) 47 46 5 y.l k Tryz.underlying47 Tryz.underlying46 (by kernel_rfl) rfl hk5 wr
    rw [hn1] at hx1
    rw [hn1, hq1] at hst
    have e1 : IntKind.u64.wrap ((n1 : Int) + (q1 : Int)) = (((n1 + q1) % M : Nat) : Int) := wrap_add n1 q1
    obtain ⟨v1, hv1⟩ : ∃ v1, (n1 + q1) % M = v1 := ⟨_, rfl⟩
    rw [hv1] at e1 hst
    have HST := ϕ hst
    rw [hq1]
    clear hst hn1 hq1 hv1
    go_wp2
    go_roundw
    case rel =>
     have REL := ϕ (show ∃ k' : Nat, k' ≤ 5 ∧ Value.int .i64 ((k : Int) + 1) = .int .i64 k' ∧ Value.int .u64 ((v1 : Int) / 2251799813685248) = .int .u64 (it (lc y.l) k' 19 : Nat) ∧ Row wr xb 49 y.l ∧ Rg.Blk wr rb 49 Z5 ∧ Below xb w wr from ⟨k + 1, hk5, rfl, by rw [HST.out]; rfl, HRn.out, HZn.out, HBn.out⟩)
     first
      | exact REL.out
      | ((repeat apply Exists.intro); refine ⟨?_, rfl⟩; exact REL.out)
    case measure => (first | (simp [intOf]; done) | (simp [intOf]; omega))
  · obtain rfl : k = 5 := by omega
    have hd : decide ((5 : Nat) < 5) = false := by simp
    have hli := least_it y
    obtain ⟨q, hq⟩ : ∃ q, it (lc y.l) 5 19 = q := ⟨_, rfl⟩
    rw [hq] at hli ⊢
    have c0 := HRn.out.cell 0 (by rw [E.len]; decide)
    obtain ⟨n0, hn0⟩ : ∃ n0, nth y.l 0 = n0 := ⟨_, rfl⟩
    rw [hn0] at c0 hli
    have e1 : IntKind.u64.wrap ((q : Int) * 19) = ((q * 19 % M : Nat) : Int) := wrap_mul q 19
    obtain ⟨p, hp⟩ : ∃ p, q * 19 % M = p := ⟨_, rfl⟩
    rw [hp] at e1 hli
    have e2 : IntKind.u64.wrap ((n0 : Int) + (p : Int)) = (((n0 + p) % M : Nat) : Int) := wrap_add n0 p
    obtain ⟨v, hv⟩ : ∃ v, (n0 + p) % M = v := ⟨_, rfl⟩
    rw [hv] at e2 hli
    have HLI0 := ϕ hli
    clear hli hq hn0 hp hv
    go_upto_region 9 with ((with_reducible refine gate_ ?_); refine store_cell rfl 46 _ _ rfl (b := xb) (j := 0) (v := v) rfl rfl Tryz.underlying46 (by kernel_rfl) HRn.out (by rw [E.len]; decide) ?_; intro V hV hgV; have HR0 := ϕ hV; have HZ := ϕ (blk_other HZn.out hgV HNE.out.1); have HB := ϕ (HBn.out.grown hgV (HBn.out.size_le HXB.out) (fun j e => by cases e; exact Nat.le_refl _)); clear hV hgV)
    clear c0 HRn HZn HBn
    obtain ⟨l1, hl1⟩ : ∃ l1, y.l.set 0 v = l1 := ⟨_, rfl⟩
    have HL1 := ϕ (show l1.length = 5 by rw [← hl1, List.length_set]; rfl)
    rw [hl1] at HR0 HLI0
    have HR := HR0
    have HLI := HLI0
    clear hl1 HR0 HLI0
    go_upto_region 11 with fail
    go_loopw [3, 28] (fun c i wr => ∃ k : Nat, k ≤ 5 ∧ i = .int .i64 k ∧ c = .int .u64 ((it cr k (0, l1)).1 : Nat) ∧ Row wr xb 49 (it cr k (0, l1)).2 ∧ Rg.Blk wr rb 49 Z5 ∧ Below xb w wr) (fun _ i _ => 5 - (intOf i).toNat)
    case atStart => exact ⟨0, Nat.zero_le _, rfl, rfl, by rw [it_zero]; exact HR.out, HZ.out, HB.out⟩
    case round =>
     obtain ⟨k, hk, rfl, rfl, hr, hz, hb⟩ := hrel
     clear HR HZ HB
     have HR := ϕ hr
     have HZ := ϕ hz
     have HB := ϕ hb
     have HL := ϕ (show (it cr k (0, l1)).2.length = 5 by rw [it_cr_len]; exact HL1.out)
     by_cases hk5 : k < 5
     · have hd : decide (k < 5) = true := by simp; exact hk5
       have hki : (k : Int) < 5 := by omega
       have hk0 : (0 : Int) ≤ k := by omega
       have c1 := hr.cell k (by rw [HL.out]; exact hk5)
       have hst := it_cr_succ k (0, l1)
       rw [cr_eq] at hst
       clear hr hz hb
       obtain ⟨n1, hn1⟩ : ∃ n1, nth (it cr k (0, l1)).2 k = n1 := ⟨_, rfl⟩
       obtain ⟨q1, hq1⟩ : ∃ q1, (it cr k (0, l1)).1 = q1 := ⟨_, rfl⟩
       obtain ⟨v1, hv1⟩ : ∃ v1, (n1 + q1) % M = v1 := ⟨_, rfl⟩
       have e1 : IntKind.u64.wrap ((n1 : Int) + (q1 : Int)) = (v1 : Int) := by rw [wrap_add, hv1]
       have e2 : bits .and .u64 (v1 : Int) 2251799813685247 = ((v1 % W : Nat) : Int) := and_mask v1 (hv1 ▸ mod_lt_M _)
       have HN1 := ϕ hn1
       have HQ1 := ϕ hq1
       have HV1 := ϕ hv1
       rw [hn1] at c1
       rw [hn1, hq1, hv1] at hst
       have HST := ϕ hst
       rw [hq1]
       clear hn1 hq1 hv1 hst
       have HLK := ϕ (show k < (it cr k (0, l1)).2.length by rw [HL.out]; exact hk5)
       have HLK2 := ϕ (show k < ((it cr k (0, l1)).2.set k v1).length by rw [List.length_set, HL.out]; exact hk5)
       have tok1 := True.intro
       go_wp2_with (first
        | (have _t := tok1; (with_reducible refine gate_ ?_); refine store_cell rfl 46 _ _ rfl (b := xb) (j := k) (v := v1) rfl rfl Tryz.underlying46 (by kernel_rfl) HR.out HLK.out ?_; intro V hV hgV; have HRV := ϕ hV; have HZV := ϕ (blk_other HZ.out hgV HNE.out.1); have HBV := ϕ (HB.out.grown hgV (HB.out.size_le HXB.out) (fun j e => by cases e; exact Nat.le_refl _)); have c2 := row_set_cell hV HLK.out; clear hV hgV c1; have tok2 := True.intro; clear _t tok1)
        | (have _t := tok2; (with_reducible refine gate_ ?_); refine store_cell rfl 46 _ _ rfl (b := xb) (j := k) (v := v1 % W) rfl rfl Tryz.underlying46 (by kernel_rfl) HRV.out HLK2.out ?_; intro V2 hV hgV; rw [List.set_set] at hV; have HRW := ϕ hV; have HZW := ϕ (blk_other HZV.out hgV HNE.out.1); have HBW := ϕ (HBV.out.grown hgV (HBV.out.size_le HXB.out) (fun j e => by cases e; exact Nat.le_refl _)); clear hV hgV c2 _t tok2))
       go_roundw
       case rel =>
        have REL := ϕ (show ∃ k' : Nat, k' ≤ 5 ∧ Value.int .i64 ((k : Int) + 1) = .int .i64 k' ∧ Value.int .u64 ((v1 : Int) / 2251799813685248) = .int .u64 ((it cr k' (0, l1)).1 : Nat) ∧ Row V2 xb 49 (it cr k' (0, l1)).2 ∧ Rg.Blk V2 rb 49 Z5 ∧ Below xb w V2 from ⟨k + 1, hk5, rfl, by rw [HST.out]; rfl, by rw [HST.out]; exact HRW.out, HZW.out, HBW.out⟩)
        first
         | exact REL.out
         | ((repeat apply Exists.intro); refine ⟨?_, rfl⟩; exact REL.out)
       case measure => (first | (simp [intOf]; done) | (simp [intOf]; omega))
     · obtain rfl : k = 5 := by omega
       have hd : decide ((5 : Nat) < 5) = false := by simp
       have HRC := ϕ (show Row wr xb 49 (least1 y).l from by rw [← HLI.out]; exact HR.out)
       go_wp2_with (first
        | ((with_reducible refine gate_ ?_); refine Cv.load_cells rfl 49 _ rfl xb 0 rfl (u64s (least1 y).l) _ (fun j v hv => by rw [Nat.zero_add]; exact Rg.Blk.cell (row_blk HRC.out) j hv) Tryz.underlying49 rfl (by rw [u64s_size]; kernel_rfl) ?_; skip)
        | ((with_reducible refine gate_ ?_); refine Cv.store_blk rfl 49 _ _ rfl rb (u64s (least1 y).l) Z5 49 rfl rfl HZ.out (by rw [u64s_size]; kernel_rfl) (by rw [u64s_size]; first | rfl | rw [u64s_size]) (u64s_one _) ?_; intro V3 hV hgV; have HZZ := ϕ hV; have HBZ := ϕ (HB.out.grown hgV (HB.out.size_le HXB.out) (fun j e => by cases e; exact HNE.out.2)); clear hV hgV))
       refine bodyPost_ret (v := .agg (u64s (least1 y).l))
        (results_cell_row Tryz.results89 _ _ rb 49 _ (0, 0) _ rfl HZZ.out Tryz.underlying49 rfl (by rw [u64s_size]; kernel_rfl)) rfl ?_
       exact ⟨by unfold least; rw [HYE.out], HXB.out ▸ HBZ.out⟩
theorem co_A : Tryz.prog.cellsOf 47 = 5 := by kernel_rfl
theorem co_U : Tryz.prog.cellsOf 46 = 1 := by kernel_rfl
theorem wf_u {n : Nat} (h : n < M) : (Lit.int .u64 (n : Int)).wf = true := by
 unfold M at h
 simp [Lit.wf]
 rw [show IntKind.u64.min = 0 from by kernel_rfl, show IntKind.u64.max = 18446744073709551615 from by kernel_rfl]
 omega
theorem form_A (x : E) : (Value.agg (u64s x.l)).formed Tryz.prog 47 = true := by
 simp [Value.formed, Tryz.underlying47, co_A, u64s_size]
theorem lits_A (x : E) (h : x.ok) : Tryz.prog.keyLits 2 47 (Value.agg (u64s x.l)).cells.toList = some [.int .u64 x.a, .int .u64 x.b, .int .u64 x.c, .int .u64 x.d, .int .u64 x.e] := by
 have h0 := wf_u (h 0)
 have h1 := wf_u (h 1)
 have h2 := wf_u (h 2)
 have h3 := wf_u (h 3)
 have h4 := wf_u (h 4)
 simp only [nth, E.l, List.getD_cons_zero, List.getD_cons_succ] at h0 h1 h2 h3 h4
 simp [Program.keyLits, Tryz.underlying47, Tryz.underlying46, co_A, co_U, u64s, E.l, Value.cells, List.range, List.range.loop, h0, h1, h2, h3, h4]
theorem kt_A : Tryz.prog.keyTypeAt 2 47 = true := by kernel_rfl
theorem run_equalInA (w : World) (x y : E) (hx : x.ok) (hy : y.ok) : (Op.equalIn 9999 47 (.agg ((u64s x.l).extract 0 5)) (.agg (u64s y.l))).run Tryz.prog w = .ok (x == y) w := by
 rw [show (u64s x.l).extract 0 5 = u64s x.l from rfl]
 obtain ⟨r, hr, hi⟩ := run_equalIn_deep (P := Tryz.prog) 9997 2 47 kt_A w 2 2 _ _ _ _ (form_A x) (form_A y) (lits_A x hx) (lits_A y hy)
 have he : r = (x == y) := by
  rw [Bool.eq_iff_iff, hi, beq_iff_eq]
  cases x; cases y
  simp
  constructor
  · rintro ⟨h0, h1, h2, h3, h4⟩; refine ⟨?_, ?_, ?_, ?_, ?_⟩ <;> omega
  · rintro ⟨rfl, rfl, rfl, rfl, rfl⟩; exact ⟨rfl, rfl, rfl, rfl, rfl⟩
 subst he
 exact hr
theorem least_ok (x : E) : (least x).ok := fun j => Nat.lt_trans (least_fit x j) W_lt_M
theorem small_ok (n : Nat) (h : n < M) : (small n).ok := E.ok5 (Nat.lt_trans (mod_lt_W n) W_lt_M) (Nat.lt_of_le_of_lt (Nat.div_le_self _ _) h) (by decide) (by decide) (by decide)
theorem pw_ok (low : Nat) (x : E) : ∀ k, (pw low x k).ok
 | 0 => small_ok 1 (by decide)
 | k + 1 => by
  unfold pw
  simp only
  split
  · exact mul_ok _ _
  · exact mul_ok _ _
theorem pw_yes (x : E) (k : Nat) (h : (decide (8 ≤ 254 - k) || 235 / 2 ^ (254 - k) % 2 == 1) = true) : pw 235 x (k + 1) = mul (sq (pw 235 x k)) x := by
 show (if (decide (8 ≤ 254 - k) || 235 / 2 ^ (254 - k) % 2 == 1) = true then mul (sq (pw 235 x k)) x else sq (pw 235 x k)) = _
 rw [if_pos h]
theorem pw_no (x : E) (k : Nat) (h : (decide (8 ≤ 254 - k) || 235 / 2 ^ (254 - k) % 2 == 1) = false) : pw 235 x (k + 1) = sq (pw 235 x k) := by
 show (if (decide (8 ≤ 254 - k) || 235 / 2 ^ (254 - k) % 2 == 1) = true then mul (sq (pw 235 x k)) x else sq (pw 235 x k)) = _
 rw [if_neg (by rw [h]; decide)]
theorem power_any (w : World) (x : E) (hx : x.ok) : Calls Tryz.prog 84 #[.agg (u64s x.l), .int .u64 21, .int .i64 0] w fun e w' => e = .returned (.agg (u64s (pw 235 x 255).l)) ∧ Below w.heap.size w w' := by
 have HOX := ϕ hx
 clear hx
 go_enter Tryz.func84, Tryz.ntmps84
 go_upto_region 1 with ((with_reducible refine gate_ ?_); refine Rg.box_fresh rfl 49 _ rfl (u64s x.l) rfl ?_; intro X hX hbX hnX; have HX := ϕ hX; have HBX := ϕ hbX; have HNX := ϕ hnX; clear hX hbX hnX)
 obtain ⟨xb, hxb⟩ : ∃ xb, w.heap.size = xb := ⟨_, rfl⟩
 obtain ⟨rb, hrb⟩ : ∃ rb, X.heap.size = rb := ⟨_, rfl⟩
 have HR := ϕ (show Row (X.alloc (.cells Z5 49)) xb 49 x.l from (hxb ▸ HX.out).alloc _)
 have HZ := ϕ (show Rg.Blk (X.alloc (.cells Z5 49)) rb 49 Z5 from Rg.Blk.newAt hrb.symm _ _)
 have HB := ϕ (show Below xb w (X.alloc (.cells Z5 49)) from hxb ▸ HBX.out.alloc HBX.out.size _)
 have HNE := ϕ (show xb ≠ rb ∧ xb ≤ rb from by have h1 := HX.out.lt; constructor <;> omega)
 have HXB := ϕ hxb
 rw [hxb, hrb, show (#[.int .u64 0, .int .u64 0, .int .u64 0, .int .u64 0, .int .u64 0] : Array Value) = Z5 from rfl]
 generalize X.alloc (.cells Z5 49) = Y at *
 clear HX HBX HNX hxb hrb
 have HR0 := HR
 go_upto_region 2 with (first
  | (go_at_call 45; refine (Small_any _ 1 (by decide)).mono ?_; rintro e w9 ⟨rfl, hb9⟩; have HR9 := ϕ (HR.out.below hb9 HR.out.lt); have HZ9 := ϕ (HZ.out.below hb9 HZ.out.lt); have HB9 := ϕ (HB.out.trans (hb9.mono (HB.out.size_le HXB.out))); clear hb9)
  | (refine Rg.store_fresh rfl 49 _ _ rfl (u64s (small 1).l) _ 49 rfl rfl (by rw [u64s_size]; kernel_rfl) rfl (u64s_one _) ?_; intro X1 hX hbX; have HO0 := ϕ hX; have HB0 := ϕ hbX; clear hX hbX))
 obtain ⟨ob, hob⟩ : ∃ ob, w9.heap.size = ob := ⟨_, rfl⟩
 have HNO := ϕ (show ob ≠ xb ∧ ob ≠ rb ∧ xb ≤ ob from by have h1 := HR9.out.lt; have h2 := HZ9.out.lt; refine ⟨?_, ?_, ?_⟩ <;> omega)
 have HO := ϕ (show Row X1 ob 49 (small 1).l from hob ▸ HO0.out)
 clear HR HZ HB
 have HR := ϕ (HR9.out.below HB0.out HR9.out.lt)
 have HZ := ϕ (HZ9.out.below HB0.out HZ9.out.lt)
 have HB := ϕ (HB9.out.trans (HB0.out.mono (HB9.out.size_le HXB.out)))
 rw [hob]
 clear HR0 HR9 HZ9 HB9 HO0 HB0 hob
 go_upto_region 4 with fail
 go_loopw [9] (fun i wr => ∃ k : Nat, k ≤ 255 ∧ i = .int .i64 (254 - (k : Int)) ∧ Row wr ob 49 (pw 235 x k).l ∧ Row wr xb 49 x.l ∧ Rg.Blk wr rb 49 Z5 ∧ Below xb w wr) (fun i _ => (intOf i + 1).toNat)
 case atStart => exact ⟨0, Nat.zero_le _, rfl, HO.out, HR.out, HZ.out, HB.out⟩
 case round =>
  obtain ⟨k, hk, rfl, ho, hr, hz, hb⟩ := hrel
  clear HO HR HZ HB
  have HO := ϕ ho
  have HR := ϕ hr
  have HZ := ϕ hz
  have HB := ϕ hb
  clear ho hr hz hb
  have HOK := ϕ (pw_ok 235 x k)
  by_cases hk5 : k < 255
  · have hd : decide ((0 : Int) ≤ 254 - (k : Int)) = true := by simp; omega
    have hd0 : (0 : Int) ≤ 254 - (k : Int) := by omega
    have HYS := ϕ (pw_yes x k)
    have HNS := ϕ (pw_no x k)
    obtain ⟨y, hy⟩ : ∃ y, pw 235 x k = y := ⟨_, rfl⟩
    rw [hy] at HO HOK HYS HNS
    clear hy
    go_upto_region 7 with (first
     | ((with_reducible refine gate_ ?_); refine Cv.load_cells rfl 49 _ rfl ob 0 rfl (u64s y.l) _ (fun j v hv => by rw [Nat.zero_add]; exact Rg.Blk.cell (row_blk HO.out) j hv) Tryz.underlying49 rfl (by rw [u64s_size]; kernel_rfl) ?_; skip)
     | (go_at_call 85; refine (Square_any _ y HOK.out).mono ?_; rintro e w9 ⟨rfl, hb9⟩; have HO9 := ϕ (HO.out.below hb9 HO.out.lt); have HR9 := ϕ (HR.out.below hb9 HR.out.lt); have HZ9 := ϕ (HZ.out.below hb9 HZ.out.lt); have HB9 := ϕ (HB.out.trans (hb9.mono (HB.out.size_le HXB.out))); clear hb9 HO HR HZ HB)
     | ((with_reducible refine gate_ ?_); refine Cv.store_blk rfl 49 _ _ rfl ob (u64s (sq y).l) (u64s y.l) 49 rfl rfl (row_blk HO9.out) (by rw [u64s_size]; kernel_rfl) (by rw [u64s_size]; first | rfl | rw [u64s_size]) (u64s_one _) ?_; intro V3 hV hgV; have HO := ϕ (show Row V3 ob 49 (sq y).l from hV); have HR := ϕ (row_other HR9.out hgV HNO.out.1); have HZ := ϕ (blk_other HZ9.out hgV HNO.out.2.1); have HB := ϕ (HB9.out.grown hgV (HB9.out.size_le HXB.out) (fun j e => by cases e; exact HNO.out.2.2)); clear hV hgV))
    clear HO9 HR9 HZ9 HB9
    by_cases h8 : k ≤ 246
    · have hd8 : decide ((8 : Int) ≤ 254 - (k : Int)) = true := by simp; omega
      have hd9 : (8 : Int) ≤ 254 - (k : Int) := by omega
      have HST := ϕ (HYS.out (by rw [Bool.or_eq_true]; left; simp; omega))
      go_wp2_with (first
       | ((with_reducible refine gate_ ?_); refine Cv.load_cells rfl 49 _ rfl ob 0 rfl (u64s (sq y).l) _ (fun j v hv => by rw [Nat.zero_add]; exact Rg.Blk.cell (row_blk HO.out) j hv) Tryz.underlying49 rfl (by rw [u64s_size]; kernel_rfl) ?_; skip)
       | ((with_reducible refine gate_ ?_); refine Cv.load_cells rfl 49 _ rfl xb 0 rfl (u64s x.l) _ (fun j v hv => by rw [Nat.zero_add]; exact Rg.Blk.cell (row_blk HR.out) j hv) Tryz.underlying49 rfl (by rw [u64s_size]; kernel_rfl) ?_; skip)
       | (go_at_call 47; refine (Mul_any _ (sq y) x (mul_ok y y) HOX.out).mono ?_; rintro e w9 ⟨rfl, hb9⟩; have HO9 := ϕ (HO.out.below hb9 HO.out.lt); have HR9 := ϕ (HR.out.below hb9 HR.out.lt); have HZ9 := ϕ (HZ.out.below hb9 HZ.out.lt); have HB9 := ϕ (HB.out.trans (hb9.mono (HB.out.size_le HXB.out))); clear hb9 HO HR HZ HB)
       | ((with_reducible refine gate_ ?_); refine Cv.store_blk rfl 49 _ _ rfl ob (u64s (mul (sq y) x).l) (u64s (sq y).l) 49 rfl rfl (row_blk HO9.out) (by rw [u64s_size]; kernel_rfl) (by rw [u64s_size]; first | rfl | rw [u64s_size]) (u64s_one _) ?_; intro V4 hV hgV; have HO := ϕ (show Row V4 ob 49 (mul (sq y) x).l from hV); have HR := ϕ (row_other HR9.out hgV HNO.out.1); have HZ := ϕ (blk_other HZ9.out hgV HNO.out.2.1); have HB := ϕ (HB9.out.grown hgV (HB9.out.size_le HXB.out) (fun j e => by cases e; exact HNO.out.2.2)); clear hV hgV))
      go_roundw
      case rel =>
       have REL := ϕ (show ∃ k' : Nat, k' ≤ 255 ∧ Value.int .i64 (254 - (k : Int) - 1) = .int .i64 (254 - (k' : Int)) ∧ Row V4 ob 49 (pw 235 x k').l ∧ Row V4 xb 49 x.l ∧ Rg.Blk V4 rb 49 Z5 ∧ Below xb w V4 from ⟨k + 1, hk5, congrArg _ (by omega), by rw [HST.out]; exact HO.out, HR.out, HZ.out, HB.out⟩)
       first
        | exact REL.out
        | ((repeat apply Exists.intro); refine ⟨?_, rfl⟩; exact REL.out)
      case measure => (first | (simp [intOf]; done) | (simp [intOf]; omega))
    · have h9 : k = 247 ∨ k = 248 ∨ k = 249 ∨ k = 250 ∨ k = 251 ∨ k = 252 ∨ k = 253 ∨ k = 254 := by omega
      clear hd hd0 h8
      rcases h9 with h9 | h9 | h9 | h9 | h9 | h9 | h9 | h9
      · have HST := ϕ (HYS.out (by rw [h9]; decide))
        have hat : (254 : Int) - (k : Int) = 7 := by omega
        rw [hat]
        clear hat HYS HNS
        go_wp2_with (first
         | ((with_reducible refine gate_ ?_); refine Cv.load_cells rfl 49 _ rfl ob 0 rfl (u64s (sq y).l) _ (fun j v hv => by rw [Nat.zero_add]; exact Rg.Blk.cell (row_blk HO.out) j hv) Tryz.underlying49 rfl (by rw [u64s_size]; kernel_rfl) ?_; skip)
         | ((with_reducible refine gate_ ?_); refine Cv.load_cells rfl 49 _ rfl xb 0 rfl (u64s x.l) _ (fun j v hv => by rw [Nat.zero_add]; exact Rg.Blk.cell (row_blk HR.out) j hv) Tryz.underlying49 rfl (by rw [u64s_size]; kernel_rfl) ?_; skip)
         | (go_at_call 47; refine (Mul_any _ (sq y) x (mul_ok y y) HOX.out).mono ?_; rintro e w9 ⟨rfl, hb9⟩; have HO9 := ϕ (HO.out.below hb9 HO.out.lt); have HR9 := ϕ (HR.out.below hb9 HR.out.lt); have HZ9 := ϕ (HZ.out.below hb9 HZ.out.lt); have HB9 := ϕ (HB.out.trans (hb9.mono (HB.out.size_le HXB.out))); clear hb9 HO HR HZ HB)
         | ((with_reducible refine gate_ ?_); refine Cv.store_blk rfl 49 _ _ rfl ob (u64s (mul (sq y) x).l) (u64s (sq y).l) 49 rfl rfl (row_blk HO9.out) (by rw [u64s_size]; kernel_rfl) (by rw [u64s_size]; first | rfl | rw [u64s_size]) (u64s_one _) ?_; intro V4 hV hgV; have HO := ϕ (show Row V4 ob 49 (mul (sq y) x).l from hV); have HR := ϕ (row_other HR9.out hgV HNO.out.1); have HZ := ϕ (blk_other HZ9.out hgV HNO.out.2.1); have HB := ϕ (HB9.out.grown hgV (HB9.out.size_le HXB.out) (fun j e => by cases e; exact HNO.out.2.2)); clear hV hgV))
        go_roundw
        case rel =>
         have REL := ϕ (show ∃ k' : Nat, k' ≤ 255 ∧ Value.int .i64 ((6 : Int)) = .int .i64 (254 - (k' : Int)) ∧ Row V4 ob 49 (pw 235 x k').l ∧ Row V4 xb 49 x.l ∧ Rg.Blk V4 rb 49 Z5 ∧ Below xb w V4 from ⟨k + 1, hk5, congrArg _ (by omega), by rw [HST.out]; exact HO.out, HR.out, HZ.out, HB.out⟩)
         first
          | exact REL.out
          | ((repeat apply Exists.intro); refine ⟨?_, rfl⟩; exact REL.out)
        case measure => (first | (simp [intOf]; done) | (simp [intOf]; omega))
      · have HST := ϕ (HYS.out (by rw [h9]; decide))
        have hat : (254 : Int) - (k : Int) = 6 := by omega
        rw [hat]
        clear hat HYS HNS
        go_wp2_with (first
         | ((with_reducible refine gate_ ?_); refine Cv.load_cells rfl 49 _ rfl ob 0 rfl (u64s (sq y).l) _ (fun j v hv => by rw [Nat.zero_add]; exact Rg.Blk.cell (row_blk HO.out) j hv) Tryz.underlying49 rfl (by rw [u64s_size]; kernel_rfl) ?_; skip)
         | ((with_reducible refine gate_ ?_); refine Cv.load_cells rfl 49 _ rfl xb 0 rfl (u64s x.l) _ (fun j v hv => by rw [Nat.zero_add]; exact Rg.Blk.cell (row_blk HR.out) j hv) Tryz.underlying49 rfl (by rw [u64s_size]; kernel_rfl) ?_; skip)
         | (go_at_call 47; refine (Mul_any _ (sq y) x (mul_ok y y) HOX.out).mono ?_; rintro e w9 ⟨rfl, hb9⟩; have HO9 := ϕ (HO.out.below hb9 HO.out.lt); have HR9 := ϕ (HR.out.below hb9 HR.out.lt); have HZ9 := ϕ (HZ.out.below hb9 HZ.out.lt); have HB9 := ϕ (HB.out.trans (hb9.mono (HB.out.size_le HXB.out))); clear hb9 HO HR HZ HB)
         | ((with_reducible refine gate_ ?_); refine Cv.store_blk rfl 49 _ _ rfl ob (u64s (mul (sq y) x).l) (u64s (sq y).l) 49 rfl rfl (row_blk HO9.out) (by rw [u64s_size]; kernel_rfl) (by rw [u64s_size]; first | rfl | rw [u64s_size]) (u64s_one _) ?_; intro V4 hV hgV; have HO := ϕ (show Row V4 ob 49 (mul (sq y) x).l from hV); have HR := ϕ (row_other HR9.out hgV HNO.out.1); have HZ := ϕ (blk_other HZ9.out hgV HNO.out.2.1); have HB := ϕ (HB9.out.grown hgV (HB9.out.size_le HXB.out) (fun j e => by cases e; exact HNO.out.2.2)); clear hV hgV))
        go_roundw
        case rel =>
         have REL := ϕ (show ∃ k' : Nat, k' ≤ 255 ∧ Value.int .i64 ((5 : Int)) = .int .i64 (254 - (k' : Int)) ∧ Row V4 ob 49 (pw 235 x k').l ∧ Row V4 xb 49 x.l ∧ Rg.Blk V4 rb 49 Z5 ∧ Below xb w V4 from ⟨k + 1, hk5, congrArg _ (by omega), by rw [HST.out]; exact HO.out, HR.out, HZ.out, HB.out⟩)
         first
          | exact REL.out
          | ((repeat apply Exists.intro); refine ⟨?_, rfl⟩; exact REL.out)
        case measure => (first | (simp [intOf]; done) | (simp [intOf]; omega))
      · have HST := ϕ (HYS.out (by rw [h9]; decide))
        have hat : (254 : Int) - (k : Int) = 5 := by omega
        rw [hat]
        clear hat HYS HNS
        go_wp2_with (first
         | ((with_reducible refine gate_ ?_); refine Cv.load_cells rfl 49 _ rfl ob 0 rfl (u64s (sq y).l) _ (fun j v hv => by rw [Nat.zero_add]; exact Rg.Blk.cell (row_blk HO.out) j hv) Tryz.underlying49 rfl (by rw [u64s_size]; kernel_rfl) ?_; skip)
         | ((with_reducible refine gate_ ?_); refine Cv.load_cells rfl 49 _ rfl xb 0 rfl (u64s x.l) _ (fun j v hv => by rw [Nat.zero_add]; exact Rg.Blk.cell (row_blk HR.out) j hv) Tryz.underlying49 rfl (by rw [u64s_size]; kernel_rfl) ?_; skip)
         | (go_at_call 47; refine (Mul_any _ (sq y) x (mul_ok y y) HOX.out).mono ?_; rintro e w9 ⟨rfl, hb9⟩; have HO9 := ϕ (HO.out.below hb9 HO.out.lt); have HR9 := ϕ (HR.out.below hb9 HR.out.lt); have HZ9 := ϕ (HZ.out.below hb9 HZ.out.lt); have HB9 := ϕ (HB.out.trans (hb9.mono (HB.out.size_le HXB.out))); clear hb9 HO HR HZ HB)
         | ((with_reducible refine gate_ ?_); refine Cv.store_blk rfl 49 _ _ rfl ob (u64s (mul (sq y) x).l) (u64s (sq y).l) 49 rfl rfl (row_blk HO9.out) (by rw [u64s_size]; kernel_rfl) (by rw [u64s_size]; first | rfl | rw [u64s_size]) (u64s_one _) ?_; intro V4 hV hgV; have HO := ϕ (show Row V4 ob 49 (mul (sq y) x).l from hV); have HR := ϕ (row_other HR9.out hgV HNO.out.1); have HZ := ϕ (blk_other HZ9.out hgV HNO.out.2.1); have HB := ϕ (HB9.out.grown hgV (HB9.out.size_le HXB.out) (fun j e => by cases e; exact HNO.out.2.2)); clear hV hgV))
        go_roundw
        case rel =>
         have REL := ϕ (show ∃ k' : Nat, k' ≤ 255 ∧ Value.int .i64 ((4 : Int)) = .int .i64 (254 - (k' : Int)) ∧ Row V4 ob 49 (pw 235 x k').l ∧ Row V4 xb 49 x.l ∧ Rg.Blk V4 rb 49 Z5 ∧ Below xb w V4 from ⟨k + 1, hk5, congrArg _ (by omega), by rw [HST.out]; exact HO.out, HR.out, HZ.out, HB.out⟩)
         first
          | exact REL.out
          | ((repeat apply Exists.intro); refine ⟨?_, rfl⟩; exact REL.out)
        case measure => (first | (simp [intOf]; done) | (simp [intOf]; omega))
      · have HST := ϕ (HNS.out (by rw [h9]; decide))
        have hat : (254 : Int) - (k : Int) = 4 := by omega
        rw [hat]
        clear hat HYS HNS
        go_wp2
        go_roundw
        case rel =>
         have REL := ϕ (show ∃ k' : Nat, k' ≤ 255 ∧ Value.int .i64 ((3 : Int)) = .int .i64 (254 - (k' : Int)) ∧ Row V3 ob 49 (pw 235 x k').l ∧ Row V3 xb 49 x.l ∧ Rg.Blk V3 rb 49 Z5 ∧ Below xb w V3 from ⟨k + 1, hk5, congrArg _ (by omega), by rw [HST.out]; exact HO.out, HR.out, HZ.out, HB.out⟩)
         first
          | exact REL.out
          | ((repeat apply Exists.intro); refine ⟨?_, rfl⟩; exact REL.out)
        case measure => (first | (simp [intOf]; done) | (simp [intOf]; omega))
      · have HST := ϕ (HYS.out (by rw [h9]; decide))
        have hat : (254 : Int) - (k : Int) = 3 := by omega
        rw [hat]
        clear hat HYS HNS
        go_wp2_with (first
         | ((with_reducible refine gate_ ?_); refine Cv.load_cells rfl 49 _ rfl ob 0 rfl (u64s (sq y).l) _ (fun j v hv => by rw [Nat.zero_add]; exact Rg.Blk.cell (row_blk HO.out) j hv) Tryz.underlying49 rfl (by rw [u64s_size]; kernel_rfl) ?_; skip)
         | ((with_reducible refine gate_ ?_); refine Cv.load_cells rfl 49 _ rfl xb 0 rfl (u64s x.l) _ (fun j v hv => by rw [Nat.zero_add]; exact Rg.Blk.cell (row_blk HR.out) j hv) Tryz.underlying49 rfl (by rw [u64s_size]; kernel_rfl) ?_; skip)
         | (go_at_call 47; refine (Mul_any _ (sq y) x (mul_ok y y) HOX.out).mono ?_; rintro e w9 ⟨rfl, hb9⟩; have HO9 := ϕ (HO.out.below hb9 HO.out.lt); have HR9 := ϕ (HR.out.below hb9 HR.out.lt); have HZ9 := ϕ (HZ.out.below hb9 HZ.out.lt); have HB9 := ϕ (HB.out.trans (hb9.mono (HB.out.size_le HXB.out))); clear hb9 HO HR HZ HB)
         | ((with_reducible refine gate_ ?_); refine Cv.store_blk rfl 49 _ _ rfl ob (u64s (mul (sq y) x).l) (u64s (sq y).l) 49 rfl rfl (row_blk HO9.out) (by rw [u64s_size]; kernel_rfl) (by rw [u64s_size]; first | rfl | rw [u64s_size]) (u64s_one _) ?_; intro V4 hV hgV; have HO := ϕ (show Row V4 ob 49 (mul (sq y) x).l from hV); have HR := ϕ (row_other HR9.out hgV HNO.out.1); have HZ := ϕ (blk_other HZ9.out hgV HNO.out.2.1); have HB := ϕ (HB9.out.grown hgV (HB9.out.size_le HXB.out) (fun j e => by cases e; exact HNO.out.2.2)); clear hV hgV))
        go_roundw
        case rel =>
         have REL := ϕ (show ∃ k' : Nat, k' ≤ 255 ∧ Value.int .i64 ((2 : Int)) = .int .i64 (254 - (k' : Int)) ∧ Row V4 ob 49 (pw 235 x k').l ∧ Row V4 xb 49 x.l ∧ Rg.Blk V4 rb 49 Z5 ∧ Below xb w V4 from ⟨k + 1, hk5, congrArg _ (by omega), by rw [HST.out]; exact HO.out, HR.out, HZ.out, HB.out⟩)
         first
          | exact REL.out
          | ((repeat apply Exists.intro); refine ⟨?_, rfl⟩; exact REL.out)
        case measure => (first | (simp [intOf]; done) | (simp [intOf]; omega))
      · have HST := ϕ (HNS.out (by rw [h9]; decide))
        have hat : (254 : Int) - (k : Int) = 2 := by omega
        rw [hat]
        clear hat HYS HNS
        go_wp2
        go_roundw
        case rel =>
         have REL := ϕ (show ∃ k' : Nat, k' ≤ 255 ∧ Value.int .i64 ((1 : Int)) = .int .i64 (254 - (k' : Int)) ∧ Row V3 ob 49 (pw 235 x k').l ∧ Row V3 xb 49 x.l ∧ Rg.Blk V3 rb 49 Z5 ∧ Below xb w V3 from ⟨k + 1, hk5, congrArg _ (by omega), by rw [HST.out]; exact HO.out, HR.out, HZ.out, HB.out⟩)
         first
          | exact REL.out
          | ((repeat apply Exists.intro); refine ⟨?_, rfl⟩; exact REL.out)
        case measure => (first | (simp [intOf]; done) | (simp [intOf]; omega))
      · have HST := ϕ (HYS.out (by rw [h9]; decide))
        have hat : (254 : Int) - (k : Int) = 1 := by omega
        rw [hat]
        clear hat HYS HNS
        go_wp2_with (first
         | ((with_reducible refine gate_ ?_); refine Cv.load_cells rfl 49 _ rfl ob 0 rfl (u64s (sq y).l) _ (fun j v hv => by rw [Nat.zero_add]; exact Rg.Blk.cell (row_blk HO.out) j hv) Tryz.underlying49 rfl (by rw [u64s_size]; kernel_rfl) ?_; skip)
         | ((with_reducible refine gate_ ?_); refine Cv.load_cells rfl 49 _ rfl xb 0 rfl (u64s x.l) _ (fun j v hv => by rw [Nat.zero_add]; exact Rg.Blk.cell (row_blk HR.out) j hv) Tryz.underlying49 rfl (by rw [u64s_size]; kernel_rfl) ?_; skip)
         | (go_at_call 47; refine (Mul_any _ (sq y) x (mul_ok y y) HOX.out).mono ?_; rintro e w9 ⟨rfl, hb9⟩; have HO9 := ϕ (HO.out.below hb9 HO.out.lt); have HR9 := ϕ (HR.out.below hb9 HR.out.lt); have HZ9 := ϕ (HZ.out.below hb9 HZ.out.lt); have HB9 := ϕ (HB.out.trans (hb9.mono (HB.out.size_le HXB.out))); clear hb9 HO HR HZ HB)
         | ((with_reducible refine gate_ ?_); refine Cv.store_blk rfl 49 _ _ rfl ob (u64s (mul (sq y) x).l) (u64s (sq y).l) 49 rfl rfl (row_blk HO9.out) (by rw [u64s_size]; kernel_rfl) (by rw [u64s_size]; first | rfl | rw [u64s_size]) (u64s_one _) ?_; intro V4 hV hgV; have HO := ϕ (show Row V4 ob 49 (mul (sq y) x).l from hV); have HR := ϕ (row_other HR9.out hgV HNO.out.1); have HZ := ϕ (blk_other HZ9.out hgV HNO.out.2.1); have HB := ϕ (HB9.out.grown hgV (HB9.out.size_le HXB.out) (fun j e => by cases e; exact HNO.out.2.2)); clear hV hgV))
        go_roundw
        case rel =>
         have REL := ϕ (show ∃ k' : Nat, k' ≤ 255 ∧ Value.int .i64 ((0 : Int)) = .int .i64 (254 - (k' : Int)) ∧ Row V4 ob 49 (pw 235 x k').l ∧ Row V4 xb 49 x.l ∧ Rg.Blk V4 rb 49 Z5 ∧ Below xb w V4 from ⟨k + 1, hk5, congrArg _ (by omega), by rw [HST.out]; exact HO.out, HR.out, HZ.out, HB.out⟩)
         first
          | exact REL.out
          | ((repeat apply Exists.intro); refine ⟨?_, rfl⟩; exact REL.out)
        case measure => (first | (simp [intOf]; done) | (simp [intOf]; omega))
      · have HST := ϕ (HYS.out (by rw [h9]; decide))
        have hat : (254 : Int) - (k : Int) = 0 := by omega
        rw [hat]
        clear hat HYS HNS
        go_wp2_with (first
         | ((with_reducible refine gate_ ?_); refine Cv.load_cells rfl 49 _ rfl ob 0 rfl (u64s (sq y).l) _ (fun j v hv => by rw [Nat.zero_add]; exact Rg.Blk.cell (row_blk HO.out) j hv) Tryz.underlying49 rfl (by rw [u64s_size]; kernel_rfl) ?_; skip)
         | ((with_reducible refine gate_ ?_); refine Cv.load_cells rfl 49 _ rfl xb 0 rfl (u64s x.l) _ (fun j v hv => by rw [Nat.zero_add]; exact Rg.Blk.cell (row_blk HR.out) j hv) Tryz.underlying49 rfl (by rw [u64s_size]; kernel_rfl) ?_; skip)
         | (go_at_call 47; refine (Mul_any _ (sq y) x (mul_ok y y) HOX.out).mono ?_; rintro e w9 ⟨rfl, hb9⟩; have HO9 := ϕ (HO.out.below hb9 HO.out.lt); have HR9 := ϕ (HR.out.below hb9 HR.out.lt); have HZ9 := ϕ (HZ.out.below hb9 HZ.out.lt); have HB9 := ϕ (HB.out.trans (hb9.mono (HB.out.size_le HXB.out))); clear hb9 HO HR HZ HB)
         | ((with_reducible refine gate_ ?_); refine Cv.store_blk rfl 49 _ _ rfl ob (u64s (mul (sq y) x).l) (u64s (sq y).l) 49 rfl rfl (row_blk HO9.out) (by rw [u64s_size]; kernel_rfl) (by rw [u64s_size]; first | rfl | rw [u64s_size]) (u64s_one _) ?_; intro V4 hV hgV; have HO := ϕ (show Row V4 ob 49 (mul (sq y) x).l from hV); have HR := ϕ (row_other HR9.out hgV HNO.out.1); have HZ := ϕ (blk_other HZ9.out hgV HNO.out.2.1); have HB := ϕ (HB9.out.grown hgV (HB9.out.size_le HXB.out) (fun j e => by cases e; exact HNO.out.2.2)); clear hV hgV))
        go_roundw
        case rel =>
         have REL := ϕ (show ∃ k' : Nat, k' ≤ 255 ∧ Value.int .i64 ((-1 : Int)) = .int .i64 (254 - (k' : Int)) ∧ Row V4 ob 49 (pw 235 x k').l ∧ Row V4 xb 49 x.l ∧ Rg.Blk V4 rb 49 Z5 ∧ Below xb w V4 from ⟨k + 1, hk5, congrArg _ (by omega), by rw [HST.out]; exact HO.out, HR.out, HZ.out, HB.out⟩)
         first
          | exact REL.out
          | ((repeat apply Exists.intro); refine ⟨?_, rfl⟩; exact REL.out)
        case measure => (first | (simp [intOf]; done) | (simp [intOf]; omega))
  · obtain rfl : k = 255 := by omega
    have hd : decide ((0 : Int) ≤ 254 - ((255 : Nat) : Int)) = false := by simp
    go_wp2_with (first
     | ((with_reducible refine gate_ ?_); refine Cv.load_cells rfl 49 _ rfl ob 0 rfl (u64s (pw 235 x 255).l) _ (fun j v hv => by rw [Nat.zero_add]; exact Rg.Blk.cell (row_blk HO.out) j hv) Tryz.underlying49 rfl (by rw [u64s_size]; kernel_rfl) ?_; skip)
     | ((with_reducible refine gate_ ?_); refine Cv.store_blk rfl 49 _ _ rfl rb (u64s (pw 235 x 255).l) Z5 49 rfl rfl HZ.out (by rw [u64s_size]; kernel_rfl) (by rw [u64s_size]; first | rfl | rw [u64s_size]) (u64s_one _) ?_; intro V3 hV hgV; have HZZ := ϕ hV; have HBZ := ϕ (HB.out.grown hgV (HB.out.size_le HXB.out) (fun j e => by cases e; exact HNE.out.2)); clear hV hgV))
    refine bodyPost_ret (v := .agg (u64s (pw 235 x 255).l))
     (results_cell_row Tryz.results84 _ _ rb 49 _ (0, 0) _ rfl HZZ.out Tryz.underlying49 rfl (by rw [u64s_size]; kernel_rfl)) rfl ?_
    exact ⟨rfl, HXB.out ▸ HBZ.out⟩
def inv (x : E) : E := pw 235 x 255
theorem Invert_any (w : World) (x : E) (hx : x.ok) : Calls Tryz.prog 48 #[.agg (u64s x.l)] w fun e w' => e = .returned (.agg (u64s (inv x).l)) ∧ Below w.heap.size w w' := by
 have HPW := ϕ (fun W => show Calls Tryz.prog 84 #[.agg (u64s x.l), .int .u64 21, .int .i64 0] W fun e w' => e = .returned (.agg (u64s (inv x).l)) ∧ Below W.heap.size W w' from power_any W x hx)
 clear hx
 generalize inv x = y at *
 go_enter Tryz.func48, Tryz.ntmps48
 go_upto_region 1 with ((with_reducible refine gate_ ?_); refine Rg.box_fresh rfl 49 _ rfl (u64s x.l) rfl ?_; intro X hX hbX hnX; have HX := ϕ hX; have HBX := ϕ hbX; have HNX := ϕ hnX; clear hX hbX hnX)
 obtain ⟨xb, hxb⟩ : ∃ xb, w.heap.size = xb := ⟨_, rfl⟩
 obtain ⟨rb, hrb⟩ : ∃ rb, X.heap.size = rb := ⟨_, rfl⟩
 have HR := ϕ (show Row (X.alloc (.cells Z5 49)) xb 49 x.l from (hxb ▸ HX.out).alloc _)
 have HZ := ϕ (show Rg.Blk (X.alloc (.cells Z5 49)) rb 49 Z5 from Rg.Blk.newAt hrb.symm _ _)
 have HB := ϕ (show Below xb w (X.alloc (.cells Z5 49)) from hxb ▸ HBX.out.alloc HBX.out.size _)
 have HNE := ϕ (show xb ≠ rb ∧ xb ≤ rb from by have h1 := HX.out.lt; constructor <;> omega)
 have HXB := ϕ hxb
 rw [hxb, hrb, show (#[.int .u64 0, .int .u64 0, .int .u64 0, .int .u64 0, .int .u64 0] : Array Value) = Z5 from rfl]
 generalize X.alloc (.cells Z5 49) = Y at *
 clear HX HBX HNX hxb hrb
 go_wp2_with (first
  | ((with_reducible refine gate_ ?_); refine Cv.load_cells rfl 49 _ rfl xb 0 rfl (u64s x.l) _ (fun j v hv => by rw [Nat.zero_add]; exact Rg.Blk.cell (row_blk HR.out) j hv) Tryz.underlying49 rfl (by rw [u64s_size]; kernel_rfl) ?_; skip)
  | (go_at_call 84; refine (HPW.out _).mono ?_; rintro e w9 ⟨rfl, hb9⟩; have HZ9 := ϕ (HZ.out.below hb9 HZ.out.lt); have HB9 := ϕ (HB.out.trans (hb9.mono (HB.out.size_le HXB.out))); clear hb9)
  | ((with_reducible refine gate_ ?_); refine Cv.store_blk rfl 49 _ _ rfl rb (u64s y.l) Z5 49 rfl rfl HZ9.out (by rw [u64s_size]; kernel_rfl) (by rw [u64s_size]; first | rfl | rw [u64s_size]) (u64s_one _) ?_; intro V3 hV hgV; have HZZ := ϕ hV; have HBZ := ϕ (HB9.out.grown hgV (HB9.out.size_le HXB.out) (fun j e => by cases e; exact HNE.out.2)); clear hV hgV))
 refine bodyPost_ret (v := .agg (u64s (y).l))
  (results_cell_row Tryz.results48 _ _ rb 49 _ (0, 0) _ rfl HZZ.out Tryz.underlying49 rfl (by rw [u64s_size]; kernel_rfl)) rfl ?_
 exact ⟨rfl, HXB.out ▸ HBZ.out⟩
end Go.Proofs.YtfpcelmekfdafaaGreatDoor.Kx
