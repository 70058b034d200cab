/- GenA, Mini, GenB, Shelf, WirA, WirB, WirC, RefIn, BlobS, AuS, KfA, Idx: what the claims need of them. -/
import Derived.StillTail
import Derived.Deep.QuietTactic
import Derived.BigQuiet
import Derived.WalkKit
import Derived.Lib.ConvBytes
import Derived.Lib.UnsafeStr
import Derived.Laws.BytesArg
import Derived.Maps.AppendAt
import Derived.Deep.AppendLies
import Derived.Lib.Hide
import Derived.SliceStrings
import Derived.WideShapes
import Derived.OpenShut
import Derived.ChangeOld
import Derived.Carry
import Derived.Lib.SmallJoins
import Derived.OrdersHeld
import Derived.Below
import Derived.Maps.RangeWalk
import Derived.Test.YtciibogkfbicfaaGreatDoorRows
import Derived.Lib.Strings
import Derived.Lib.Slices
import Derived.Lib.Walk
import Derived.Lib.Builder
import Derived.Lib.FrozenHead
import Derived.RegionTactic
import Derived.ChangeAlike
import Derived.Lib.AppendStr
import Derived.Lib.MakeNoZero
import Derived.Laws.Externs
import Derived.Laws.IdiomCopy
import Derived.Laws.BitsLemmas
import Derived.Lib.OwnKind
import Derived.Shelf.Strings.Builder1
import Derived.Shelf.Strings.Builder2
import Derived.Shelf.Strings.OnBuilder
import Derived.Shelf.Small.Bits
import Derived.Shelf.Strings.BuilderF
import Derived.Shelf.Strings.BuilderK
import Derived.Shelf.Utf8.RuneCount
import Derived.Shelf.Strings.Builder2Cap
import Derived.Shelf.Strconv.Itoa0
import Derived.Shelf.Strings.Search1
import Derived.Shelf.Strings.Search2
import Derived.Shelf.Strings.Search3
import Derived.Shelf.Strings.Count
import Derived.Shelf.LaysM
import Derived.Shelf.Strings.Shaped
import Derived.Shelf.Sort.Plain
import Derived.Shelf.Strings.Prefix
import Derived.Shelf.Strings.Split
import Derived.Shelf.Strings.RuneCount
import Derived.Shelf.Bits.Mul64
import Derived.Shelf.Strings.Repeat
import Derived.Shelf.Strings.BuilderCap
import Derived.Shelf.Slices.In.SortNone
import Derived.Test.YtciibogkfbicfaaGreatDoorProg
import Derived.Lib.Join
import Derived.Lib.TrimByte
import Derived.WalkLawsBesides
import Derived.WideLaws
import Derived.Lib.SplitLaws
import Derived.Deep.RegionHeld3
import Derived.Deep.DrawnRows
import Derived.Laws.BitsAllLaws
import Derived.Says
import Derived.Shelf.Spec.BitsCarry
open Go.Proofs.Tryz
set_option linter.unusedVariables false
set_option linter.unusedSimpArgs false
set_option maxRecDepth 20000
set_option maxHeartbeats 16000000
namespace Go.Proofs.YtciibogkfbicfaaGreatDoor.Rg
open Go.RowKit
section
variable {P : Program} {ops : Array Oper} {md : Region.Mode} {C : World → Prop}
/-- whatever order is picked, f operations long, all of them of the head; L behind them -/
def headQ (P : Program) (md : Region.Mode) (ops : Array Oper) (C : World → Prop) (n : Nat) (L : Array Bool → Act → Prop) : Nat → Array Bool → Act → Prop
 | 0, listed, a => L listed a
 | f + 1, listed, a => Region.ready md ops listed ≠ [] ∧ ∀ i ∈ Region.ready md ops listed, i < n ∧ qOp P ops C i (headQ P md ops C n L f (listed.setIfInBounds i true)) a
theorem any_of_headQ {n g : Nat} {L : Array Bool → Act → Prop} {Q' : Exit → Act → World → Prop}
 (hL : ∀ listed a w, C w → L listed a → wpAny P md ops Q' g listed a w) :
 ∀ (f : Nat) (listed : Array Bool) (a : Act) (w : World), C w → headQ P md ops C n L f listed a → wpAny P md ops Q' (f + g) listed a w
 | 0, listed, a, w, hw, h => by rw [Nat.zero_add]; exact hL _ _ _ hw h
 | f + 1, listed, a, w, hw, h => by
  rw [show f + 1 + g = (f + g) + 1 by omega]
  exact ⟨fun h0 => absurd h0 h.1, fun i hi => wpOp_of_qOp hw (fun a' w' hw' h' => any_of_headQ hL f _ a' w' hw' h') (h.2 i hi).2⟩
theorem headQ_first {n i : Nat} {oi : Oper} {v : Value} {L : Array Bool → Act → Prop} (hi : ops[i]? = some oi) (hsel : ∀ (j : Nat) (o : Oper) cs b, ops[j]? = some o → o.op ≠ .select cs b)
 (hs : Region.sinkB md ops n = true) (hc : Region.chainB md ops n = true) (hn : n < ops.size) (hin : i < n)
 (hdone : ∀ listed a, L listed a → ∀ j ∈ Region.ready md ops listed, n ≤ j) :
 ∀ (f : Nat) (listed : Array Bool) (a : Act), HeadInv md ops n listed →
  (∀ j oj, ops[j]? = some oj → j ≠ i → listed.getD j true = false → (∀ e ∈ oj.after, Region.binds md e = true → e.on ≠ i) → oi.apart ops oj = true) →
  i ∈ Region.ready md ops listed → YieldsIn P ops C oi v a →
  headQ P md ops C n L f (listed.setIfInBounds i true) (a.put oi.dst v) → headQ P md ops C n L (f + 1) listed a := by
 intro f
 induction f with
 | zero =>
  intro listed a inv _ hr hy H
  have hun := (mem_ready.1 hr).1
  refine ⟨fun h => (by rw [h] at hr; cases hr), fun j hj => ?_⟩
  have hjn : j < n := by
   rcases Nat.lt_or_ge j n with h | h
   · exact h
   · exact absurd hj (tail_waits hs hc hn inv _ i rfl hin hun j h)
  refine ⟨hjn, ?_⟩
  by_cases hji : j = i
  · subst hji; exact hy.qOp hi H
  · have := hdone _ _ H j (ready_mono hj hji)
    omega
 | succ f ih =>
  intro listed a inv hfree hr hy H
  have hun := (mem_ready.1 hr).1
  refine ⟨fun h => (by rw [h] at hr; cases hr), fun j hj => ?_⟩
  have hjn : j < n := by
   rcases Nat.lt_or_ge j n with h | h
   · exact h
   · exact absurd hj (tail_waits hs hc hn inv _ i rfl hin hun j h)
  refine ⟨hjn, ?_⟩
  by_cases hji : j = i
  · subst hji; exact hy.qOp hi H
  · have h1 := (H.2 j (ready_mono hj hji)).2
    obtain ⟨hjun, oj, hoj, hall⟩ := mem_ready.1 hj
    have hnot : ∀ e ∈ oj.after, Region.binds md e = true → e.on ≠ i := fun e he hb heq => by
     have h1 := hall e he hb
     rw [heq, getD_both hun] at h1
     cases h1
    have h2 := qOp_put hoj (hfree j oj hoj hji hjun hnot) (fun cs b => hsel i oi cs b hi) (fun cs b => hsel j oj cs b hoj) hy h1
    have hfree' : ∀ k ok, ops[k]? = some ok → k ≠ i → (listed.setIfInBounds j true).getD k true = false →
     (∀ e ∈ ok.after, Region.binds md e = true → e.on ≠ i) → oi.apart ops ok = true := fun k ok hk hki hun hno => by
     refine hfree k ok hk hki ?_ hno
     by_cases hjk : j = k
     · subst hjk; exact hjun
     · rw [getD_set_ne true hjk] at hun; exact hun
    refine qOp_mono (fun a' h3 => ih (listed.setIfInBounds j true) a' (inv.set hj hjn) hfree' (ready_mono hr (Ne.symm hji)) h3.1 ?_) h2
    rw [Array.setIfInBounds_comm _ _ hji]
    exact h3.2
theorem headQ_lex {n g : Nat} {Lq : Act → Prop} (hsel : Region.noSelect ops = true) (hs : Region.sinkB md ops n = true) (hc : Region.chainB md ops n = true) (hn : n < ops.size) :
 ∀ (l : List Oper) (k : Nat) (listed : Array Bool) (a : Act), (∀ j, j < l.length → l[j]? = ops[k + j]?) → k + l.length = n → HeadInv md ops n listed →
 Region.lexHead md ops g l.length k listed = true → wpQuiet P ops C Lq l a →
 headQ P md ops C n (fun listed' a' => Region.seqB md ops g n listed' = true ∧ Lq a') l.length listed a
 | [], k, listed, a, _, hk, _, hB, h => by
  have : k = n := by simpa using hk
  subst this
  exact ⟨by simpa [Region.lexHead] using hB, h⟩
 | o :: l, k, listed, a, hl, hk, inv, hB, h => by
  have h0 : ops[k]? = some o := by simpa using (hl 0 (by simp)).symm
  simp only [List.length_cons, Region.lexHead, Bool.and_eq_true] at hB
  obtain ⟨⟨hr, hf⟩, hB'⟩ := hB
  have hkn : k < n := by simp only [List.length_cons] at hk; omega
  have hr' : k ∈ Region.ready md ops listed := by simpa using hr
  have hst : qOp P ops C k (wpQuiet P ops C Lq l) a := by unfold qOp; simp only [h0]; exact h
  obtain ⟨v, hy, hK⟩ := yieldsIn_of_qOp h0 hst
  exact headQ_first h0 (Region.noSelect_spec hsel) hs hc hn hkn (fun listed' a' hL => seqB_ready hL.1) l.length listed a inv (Region.free_spec h0 hf) hr' hy
   (headQ_lex hsel hs hc hn l (k + 1) _ _ (fun j hj => by have := hl (j + 1) (by simp; omega); simpa [Nat.add_assoc, Nat.add_comm 1 j] using this) (by simp only [List.length_cons] at hk; omega) (inv.set hr' hkn) hB' hK)
theorem wp_region_class_tail {id : Nat} {Q : Exit → Act → World → Prop} {a : Act} {w : World} {l : List Oper} (n : Nat) (hm : P.follows .mixedOrders = true) (hB : Region.lexTailB .any l.toArray n = true)
 (hC : C { w with drawn := w.drawn + 1 })
 (h : wpQuiet P l.toArray C (fun a' => ∀ w', C w' → wpList P l.toArray Q (l.drop n) a' w') (l.take n) a) : (Code.region id l.toArray true).wp P Q a w := by
 simp only [Region.lexTailB, Bool.and_eq_true, decide_eq_true_eq] at hB
 obtain ⟨⟨⟨⟨hsel, hn⟩, hs⟩, hc⟩, hlex⟩ := hB
 have hn' : n < l.length := by simpa using hn
 have htl : (l.take n).length = n := by simp; omega
 have hdl : (l.drop n).length = l.toArray.size - n := by simp
 have inv0 : HeadInv .any l.toArray n (Array.replicate l.toArray.size false) :=
  ⟨by simp, fun j oj _ hl => (by rw [getD_replicate_false] at hl; cases hl), fun t _ ht => getD_in (by simpa using ht) (getD_replicate_false _ _)⟩
 have H := headQ_lex (md := .any) (g := l.toArray.size - n) hsel hs hc hn (l.take n) 0 _ a (fun j hj => by
  have hj' : j < n := by rw [htl] at hj; exact hj
  simp [hj']) (by simpa using htl) inv0 (by rw [htl]; exact hlex) h
 refine wp_region_any hm ?_
 have := any_of_headQ (Q' := Q) (g := l.toArray.size - n) (fun listed a' w' hw' hL => by
  have := wpAny_of_seq (md := .any) (Q' := Q) (l.drop n) n listed a' w' (fun j => by simp [List.getElem?_drop]) (by rw [hdl]; exact hL.1) (hL.2 w' hw')
  rwa [hdl] at this) _ _ _ _ hC H
 rw [htl, show n + (l.toArray.size - n) = l.toArray.size by omega] at this
 exact this
end
/-- a world in which nothing below B has changed -/
structure Later (B : Nat) (w0 : World) where
 val : World
 is : Below B w0 val
instance (B : Nat) (w : World) : Nonempty (Later B w) := ⟨⟨w, Below.refl B w⟩⟩
theorem Later.cell {B : Nat} {w0 : World} (s : Later B w0) (b o : Nat) (h : b < B) : s.val.cell? ⟨b, o, none⟩ = w0.cell? ⟨b, o, none⟩ := s.is.cell (p := ⟨b, o, none⟩) h
theorem Later.frozen {B : Nat} {w0 : World} (s : Later B w0) (b o : Nat) (h : b < B) : s.val.frozen? ⟨b, o, none⟩ = w0.frozen? ⟨b, o, none⟩ := s.is.frozen (p := ⟨b, o, none⟩) h
theorem Later.cellOf {B : Nat} {E W : World} (hW : E = W) (s : Later B W) (b o : Nat) (h : b < B) : s.val.cell? ⟨b, o, none⟩ = E.cell? ⟨b, o, none⟩ := by rw [hW]; exact s.cell b o h
variable {P : Program}
theorem jn_ {id : Nat} {Q : Exit → Act → World → Prop} {a : Act} {w : World} {l : List Oper} (B n : Nat) (hm : P.follows .mixedOrders = true) (hB : Region.lexTailB .any l.toArray n = true)
 (h : wpQuiet P l.toArray (fun w' => ∃ s : Later B w, w' = s.val) (fun a' => ∀ w', (∃ s : Later B w, w' = s.val) → wpList P l.toArray Q (l.drop n) a' w') (l.take n) a) : (Code.region id l.toArray true).wp P Q a w :=
 wp_region_class_tail (C := fun w' => ∃ s : Later B w, w' = s.val) n hm hB ⟨⟨_, Below.drew (Below.refl B w)⟩, rfl⟩ h
theorem js_ {id : Nat} {Q : Exit → Act → World → Prop} {a : Act} {w : World} {l : List Oper} (B : Nat) (hm : P.follows .mixedOrders = true) (hB : Region.lexB .any l.toArray = true)
 (h : wpQuiet P l.toArray (fun w' => ∃ s : Later B w, w' = s.val) (fun a' => ∀ w', (∃ s : Later B w, w' = s.val) → Q .normal a' w') l a) : (Code.region id l.toArray true).wp P Q a w :=
 wp_region_quiet (C := fun w' => ∃ s : Later B w, w' = s.val) hm hB ⟨⟨_, Below.drew (Below.refl B w)⟩, rfl⟩ (by simpa using h)
/-- the same from a later world on, the class told of the first world -/
theorem wp_region_from {id : Nat} {Q : Exit → Act → World → Prop} {a : Act} {B : Nat} {W : World} {s : Later B W} {l : List Oper} (n : Nat) (hm : P.follows .mixedOrders = true) (hB : Region.lexTailB .any l.toArray n = true)
 (h : wpQuiet P l.toArray (fun w' => ∃ s : Later B W, w' = s.val) (fun a' => ∀ w', (∃ s : Later B W, w' = s.val) → wpList P l.toArray Q (l.drop n) a' w') (l.take n) a) : (Code.region id l.toArray true).wp P Q a s.val :=
 wp_region_class_tail (C := fun w' => ∃ s : Later B W, w' = s.val) n hm hB ⟨⟨_, Below.drew s.is⟩, rfl⟩ h
theorem wp_region_from_all {id : Nat} {Q : Exit → Act → World → Prop} {a : Act} {B : Nat} {W : World} {s : Later B W} {l : List Oper} (hm : P.follows .mixedOrders = true) (hB : Region.lexB .any l.toArray = true)
 (h : wpQuiet P l.toArray (fun w' => ∃ s : Later B W, w' = s.val) (fun a' => ∀ w', (∃ s : Later B W, w' = s.val) → Q .normal a' w') l a) : (Code.region id l.toArray true).wp P Q a s.val :=
 wp_region_quiet (C := fun w' => ∃ s : Later B W, w' = s.val) hm hB ⟨⟨_, Below.drew s.is⟩, rfl⟩ (by simpa using h)
/-- a whole row (a struct, an array) loaded in a quiet walk: it stays one term -/
theorem jh_ {o : Oper} {a : Act} {C : World → Prop} {K : Act → Prop} (ty : TypeId) (x : Operand) (ho : o.op = .load ty x)
 (g : Nat) (hx : a.eval x = .pointer (some ⟨g, 0, none⟩)) (t : TypeId) (cs : Array Value) (d : TypeDesc) (hg : ∀ w, C w → w.heap[g]? = some (.cells cs t (0, 0)))
 (hu : P.underlying ty = some d) (hd : (match d with | .struct _ | .array _ _ => true | _ => false) = true) (hi : (P.info? ty).map (·.size) = some cs.size)
 (hk : K (a.put o.dst (.agg cs))) : o.quiet P a C K := by
 refine ⟨_, fun w hw => ?_, hk⟩
 unfold Oper.quietAt execOp
 simp only [ho, hx, Instr.loadAt, Instr.sureAddr, Sem.run_bind, Sem.run_pure, Result.andThen_ok, run_loadVar_row w g t ty cs (0, 0) d (hg w hw) hu hd hi]
 exact ⟨rfl, rfl⟩
/-- block b is the row cs -/
def Blk (w : World) (b T : Nat) (cs : Array Value) : Prop := w.heap[b]? = some (.cells cs T (0, 0))
theorem Blk.later {B b T : Nat} {w0 : World} {cs : Array Value} (h : Blk w0 b T cs) (hb : b < B) : ∀ w, (∃ s : Later B w0, w = s.val) → w.heap[b]? = some (.cells cs T (0, 0)) := by
 rintro _ ⟨s, rfl⟩
 rw [s.is.block b hb]; exact h
theorem Blk.cellL {B b T : Nat} {w0 : World} {cs : Array Value} (h : Blk w0 b T cs) (hb : b < B) (j : Nat) {v : Value} (hv : cs[j]? = some v) (s : Later B w0) : s.val.cell? ⟨b, j, none⟩ = some v := by
 rw [s.cell b j hb, cell_of_row w0 b j _ _ _ h, hv]
theorem Blk.cell {b T : Nat} {w0 : World} {cs : Array Value} (h : Blk w0 b T cs) (j : Nat) {v : Value} (hv : cs[j]? = some v) : w0.cell? ⟨b, j, none⟩ = some v := by
 rw [cell_of_row w0 b j _ _ _ h, hv]
theorem Blk.frozen {b T : Nat} {w0 : World} {cs : Array Value} (h : Blk w0 b T cs) (j : Nat) : w0.frozen? ⟨b, j, none⟩ = false := frozen_of_row w0 b j _ _ h
theorem Blk.new (w : World) (cs : Array Value) (T : Nat) : Blk (w.alloc (.cells cs T)) w.heap.size T cs := heap_alloc_new w _
theorem Blk.newAt {w : World} {b : Nat} (h : b = w.heap.size) (cs : Array Value) (T : Nat) : Blk (w.alloc (.cells cs T)) b T cs := h ▸ Blk.new w cs T
theorem Blk.alloc {w : World} {b T : Nat} {cs : Array Value} (h : Blk w b T cs) (o : Obj) : Blk (w.alloc o) b T cs := by
 unfold Blk at *
 rw [Below.heap_alloc w o b (Array.getElem?_eq_some_iff.1 h).1]; exact h
theorem Blk.below {w w' : World} {b T B : Nat} {cs : Array Value} (h : Blk w b T cs) (hb : Below B w w') (hB : b < B) : Blk w' b T cs := by
 unfold Blk at *
 rw [hb.block b hB]; exact h
theorem Blk.lt {w : World} {b T : Nat} {cs : Array Value} (h : Blk w b T cs) : b < w.heap.size := (Array.getElem?_eq_some_iff.1 h).1
theorem below_setRow {B : Nat} {a w : World} (h : Below B a w) {g : Nat} (hg : B ≤ g) (cs : Array Value) : Below B a (w.setRow g cs) :=
 h.trans ⟨rfl, rfl, rfl, by simp, fun k hk => setRow_other w g k cs (by omega)⟩
theorem Blk.setRow {w : World} {b T : Nat} {cs old : Array Value} (h : Blk w b T old) : Blk (w.setRow b cs) b T cs := setRow_heap w b old cs T (0, 0) h
/-- a struct or an array stored whole into the block that was made for it: the world behind it has a name -/
theorem qf_ {ops : Array Oper} {rest : List Oper} {o : Oper} {a : Act} {w : World} {Q : Exit → Act → World → Prop} (hgd : o.guard = none) (ty : TypeId) (x y : Operand) (ho : o.op = .store ty x y)
 (cs old : Array Value) (T : TypeId) (hx : a.eval x = .pointer (some ⟨w.heap.size, 0, none⟩)) (hy : a.eval y = .agg cs)
 (hi : (P.info? ty).map (·.size) = some cs.size) (hold : old.size = cs.size) (h1 : cs.all (·.oneCell') = true)
 (h : ∀ X, Blk X w.heap.size T cs → Below w.heap.size w X → wpList P ops Q rest (a.put o.dst undef) X) : wpList P ops Q (o :: rest) a (w.alloc (.cells old T)) :=
 wpList_store_row hgd ty x y ho w.heap.size cs hx hy T old (Blk.new w old T) hi hold h1
  (h _ (Blk.new w old T).setRow (below_setRow ((Below.refl _ _).alloc (Nat.le_refl _) _) (Nat.le_refl _) _))
/-- a struct or an array by value, put into a block of its own: the world behind it has a name -/
theorem qh_ {ops : Array Oper} {rest : List Oper} {o : Oper} {a : Act} {w : World} {Q : Exit → Act → World → Prop} (hgd : o.guard = none) (T : TypeId) (x : Operand) (ho : o.op = .box T x)
 (cs : Array Value) (hx : a.eval x = .agg cs)
 (h : ∀ X, Blk X w.heap.size T cs → Below w.heap.size w X → X.heap.size = w.heap.size + 1 → wpList P ops Q rest (a.put o.dst (.pointer (some ⟨w.heap.size, 0, none⟩))) X) : wpList P ops Q (o :: rest) a w :=
 wpList_plain hgd fun _ hK => by
  have hx' := hx
  simp [go_sem] at hx'
  unfold Oper.wp execOp
  simp [ho, hx', go_sem]
  exact hK _ _ (h _ (Blk.new w cs T) ((Below.refl _ _).alloc (Nat.le_refl _) _) (by simp))
/-- a contract met in a later world -/
theorem later_of {B : Nat} {w0 : World} {s : Later B w0} {f : FuncId} {args : Array Value} {v : Value} (hB : B ≤ w0.heap.size)
 (h : Calls P f args s.val fun e w' => e = .returned v ∧ Below s.val.heap.size s.val w') : Calls P f args s.val fun e w'' => e = .returned v ∧ ∃ s' : Later B w0, w'' = s'.val :=
 h.mono fun _ _ ⟨he, hb⟩ => ⟨he, ⟨_, s.is.trans (hb.mono (Nat.le_trans hB s.is.size))⟩, rfl⟩
end Go.Proofs.YtciibogkfbicfaaGreatDoor.Rg
namespace Go.Proofs.YtciibogkfbicfaaGreatDoor.Cl
open Go.RowKit
/-- the i-th number, 0 beyond the end: under a name that simp does not open -/
def nth (l : List Nat) (i : Nat) : Nat := l.getD i 0
theorem nth_getD (l : List Nat) (i : Nat) : nth l i = l.getD i 0 := rfl
def u64s (xs : List Nat) : Array Value := (xs.map fun (x : Nat) => Value.int .u64 (x : Int)).toArray
theorem u64s_one (xs : List Nat) : (u64s xs).all (·.oneCell') = true := by
 simp [u64s, Value.oneCell']
/-- block b holds the words xs -/
def Row (w : World) (b T : Nat) (xs : List Nat) : Prop := w.heap[b]? = some (.cells (u64s xs) T (0, 0))
theorem Row.cell {w : World} {b T : Nat} {xs : List Nat} (h : Row w b T xs) (j : Nat) (hj : j < xs.length) : w.cell? ⟨b, j, none⟩ = some (.int .u64 (nth xs j : Nat)) := by
 rw [cell_of_row w b j _ _ _ h]
 simp [u64s, nth, List.getElem?_eq_getElem hj]
theorem Row.frozen {w : World} {b T : Nat} {xs : List Nat} (h : Row w b T xs) (j : Nat) : w.frozen? ⟨b, j, none⟩ = false := frozen_of_row w b j _ _ h
theorem Row.store {w : World} {b T : Nat} {xs : List Nat} (h : Row w b T xs) (j v : Nat) : Row (w.setCell ⟨b, j, none⟩ (.int .u64 (v : Int))) b T (xs.set j v) := by
 unfold Row at *
 rw [heap_setCell_same w b j _ _ _ h]
 simp [u64s, nth, List.map_set]
theorem Row.storeI {w : World} {b T : Nat} {xs : List Nat} (h : Row w b T xs) (j v : Nat) {z : Int} (hz : z = v) : Row (w.setCell ⟨b, j, none⟩ (.int .u64 z)) b T (xs.set j v) := hz ▸ h.store j v
theorem Row.below {w w' : World} {b T B : Nat} {xs : List Nat} (h : Row w b T xs) (hb : Below B w w') (hB : b < B) : Row w' b T xs := by
 unfold Row at *
 rw [hb.block b hB]; exact h
theorem Row.lt {w : World} {b T : Nat} {xs : List Nat} (h : Row w b T xs) : b < w.heap.size := (Array.getElem?_eq_some_iff.1 h).1
theorem grown_setCell (w : World) (b j : Nat) (v : Value) : w.grownBy (w.setCell ⟨b, j, none⟩ v) (some b) :=
 ⟨rfl, rfl, rfl, by simp [World.setCell], fun k _ hk => heap_setCell_other w ⟨b, j, none⟩ k v (fun e => hk (congrArg some e))⟩
/-- a word stored into a block of words: the world behind it has a name -/
theorem qt_ {P : Program} {ops : Array Oper} {rest : List Oper} {o : Oper} {a : Act} {w : World} {Q : Exit → Act → World → Prop} (hgd : o.guard = none) (ty : TypeId) (x y : Operand) (ho : o.op = .store ty x y)
 {b j T v : Nat} {xs : List Nat} (hx : a.eval x = .pointer (some ⟨b, j, none⟩)) (hy : a.eval y = .int .u64 (v : Int)) (hu : P.underlying ty = some (.int .u64)) (hi : (P.info? ty).map (·.size) = some 1) (hR : Row w b T xs) (hj : j < xs.length)
 (h : ∀ w', Row w' b T (xs.set j v) → w.grownBy w' (some b) → wpList P ops Q rest (a.put o.dst undef) w') : wpList P ops Q (o :: rest) a w :=
 wpList_plain hgd fun _ hK => by
  have hx' := hx
  have hy' := hy
  have hc := hR.cell j hj
  have hf := hR.frozen j
  simp [go_sem] at hx' hy'
  unfold Oper.wp execOp
  cases hq : P.info? ty with
  | none => simp [hq] at hi
  | some i =>
  have hs : i.size = 1 := by simpa [hq] using hi
  simp [ho, hx', hy', go_sem, hc, hf, hu, sizeOf, typeInfo, hq, hs]
  have := hK _ _ (h _ (hR.store j v) (grown_setCell w b j _))
  simpa [go_sem] using this
end Go.Proofs.YtciibogkfbicfaaGreatDoor.Cl
namespace Go.Proofs.YtciibogkfbicfaaGreatDoor.Cv
open Go.RowKit
variable {P : Program}
/-- bytes als cells -/
@[irreducible] def bytesV (l : List UInt8) : Array Value := (Lib.byteCells l).toArray
theorem qa_ (l : List UInt8) : (bytesV l).size = l.length := by unfold bytesV; simp [Lib.byteCells]
theorem qz_ (l : List UInt8) (j : Nat) (b : UInt8) (h : l[j]? = some b) : (bytesV l)[j]? = some (.int .u8 b.toNat) := by
 unfold bytesV; simp [Lib.byteCells, h]
theorem qn_ (l : List UInt8) : (bytesV l).all (·.oneCell') = true := by unfold bytesV; simp [Lib.byteCells, Value.oneCell']
/-- at block b, from off on, the bytes l -/
def Bytes (w : World) (b off : Nat) (l : List UInt8) : Prop := ∀ j x, l[j]? = some x → w.cell? ⟨b, off + j, none⟩ = some (.int .u8 x.toNat)
theorem Bytes.of_blk {w : World} {b T : Nat} {l : List UInt8} (h : Rg.Blk w b T (bytesV l)) : Bytes w b 0 l := fun j x hx => by
 rw [Nat.zero_add]; exact h.cell j (qz_ l j x hx)
theorem Bytes.below {w w' : World} {b off B : Nat} {l : List UInt8} (h : Bytes w b off l) (hb : Below B w w') (hB : b < B) : Bytes w' b off l := fun j x hx =>
 (hb.cell (p := ⟨b, off + j, none⟩) hB).trans (h j x hx)
theorem bytesWorld_below (w : World) (e : TypeId) (s : ByteArray) : Below w.heap.size w (Lib.bytesWorld w e s) := by
 refine ⟨?_, ?_, ?_, by rw [Lib.bytesWorld_size]; omega, fun k hk => Lib.bytesWorld_at_old w e s k hk⟩ <;>
  · unfold Lib.bytesWorld World.freeze; split <;> rfl
/-- []byte(s): the world behind it has a name -/
theorem conv_bytes {ops : Array Oper} {rest : List Oper} {o : Oper} {a : Act} {w : World} {Q : Exit → Act → World → Prop} (hgd : o.guard = none) (src dst e : TypeId) (x : Operand) (ho : o.op = .convert src dst x)
 {s : ByteArray} (hx : a.eval x = .string s) {u : TypeDesc} (hs : P.underlying src = some u) (hd : P.underlying dst = some (.slice e)) (he : P.underlying e = some (.int .u8))
 (h : ∀ X cap, Bytes X w.heap.size 0 s.data.toList → (∀ j, j < s.size → X.frozen? ⟨w.heap.size, j, none⟩ = false) → Below w.heap.size w X → X.heap.size = w.heap.size + 1 → s.size ≤ cap →
  wpList P ops Q rest (a.put o.dst (.slice (some ⟨w.heap.size, 0, none⟩) s.size cap)) X) : wpList P ops Q (o :: rest) a w :=
 wpList_plain hgd fun _ hK => by
  unfold Oper.wp execOp
  simp only [ho, hx, Sem.run_bind, Lib.run_convert_string_bytes w src dst e s hs hd he, Result.andThen_ok, Sem.run_pure]
  have hcap : s.size ≤ grownCap w s.size 0 e := by unfold grownCap; simp [Question.cut]
  refine hK _ _ (h (Lib.bytesWorld w e s) _ ?_ ?_ (bytesWorld_below w e s) (Lib.bytesWorld_size w e s) hcap)
  · intro j b hb
    have hj : j < s.data.toList.length := (List.getElem?_eq_some_iff.1 hb).1
    rw [Nat.zero_add, Lib.bytesWorld_cell w e s j (by simpa using hj), List.getD_eq_getElem?_getD, hb]; rfl
  · intro j hj
    have hb := Lib.bytesWorld_at_new w e s
    have hsz : s.size ≤ (Lib.bytesCells w e s).size := by unfold Lib.bytesCells; rw [Array.size_append, Array.size_map]; show s.data.size ≤ _; omega
    simp [World.frozen?, hb]
    omega
/-- an array loaded whole, its cells known one by one -/
theorem run_loadVar_cells (w : World) (b off : Nat) (ty : TypeId) (cs : Array Value) (d : TypeDesc) (hc : ∀ j v, cs[j]? = some v → w.cell? ⟨b, off + j, none⟩ = some v)
 (hu : P.underlying ty = some d) (hd : (match d with | .struct _ | .array _ _ => true | _ => false) = true) (hi : (P.info? ty).map (·.size) = some cs.size) :
 (loadVar ty ⟨b, off, none⟩).run P w = .ok (.agg cs) w := by
 have hl : (loadCells ⟨b, off, none⟩ cs.toList.length).run P w = .ok cs.toList.toArray w :=
  run_loadCells_list (P := P) w ⟨b, off, none⟩ cs.toList (fun j v hv => by
   have hadd : (⟨b, off, none⟩ : Addr).add j = ⟨b, off + j, none⟩ := by unfold Addr.add; split <;> simp_all
   rw [hadd]; exact hc j v (by simpa using hv))
 cases hq : P.info? ty with
 | none => simp [hq] at hi
 | some i =>
  have hs : i.size = cs.size := by simpa [hq] using hi
  have hagg : (isAgg ty).run P w = .ok true w := by
   unfold isAgg
   rw [Sem.run_bind, run_underlying hu w]
   cases d <;> simp_all
  simp only [Array.length_toList, Array.toArray_toList] at hl
  simp [loadVar, Sem.run_bind, hagg, sizeOf, typeInfo, hq, hs, hl]
theorem qi_ {ops : Array Oper} {rest : List Oper} {o : Oper} {a : Act} {w : World} {Q : Exit → Act → World → Prop} (hgd : o.guard = none) (ty : TypeId) (x : Operand) (ho : o.op = .load ty x)
 (b off : Nat) (hx : a.eval x = .pointer (some ⟨b, off, none⟩)) (cs : Array Value) (d : TypeDesc) (hc : ∀ j v, cs[j]? = some v → w.cell? ⟨b, off + j, none⟩ = some v)
 (hu : P.underlying ty = some d) (hd : (match d with | .struct _ | .array _ _ => true | _ => false) = true) (hi : (P.info? ty).map (·.size) = some cs.size)
 (h : wpList P ops Q rest (a.put o.dst (.agg cs)) w) : wpList P ops Q (o :: rest) a w :=
 wpList_plain hgd fun _ hK => by
  unfold Oper.wp execOp
  simp only [ho, hx, Instr.loadAt, Instr.sureAddr, Sem.run_bind, Sem.run_pure, Result.andThen_ok, run_loadVar_cells w b off ty cs d hc hu hd hi]
  exact hK _ _ h
theorem Bytes.cells {w : World} {b off : Nat} {l : List UInt8} (h : Bytes w b off l) : ∀ j v, (bytesV l)[j]? = some v → w.cell? ⟨b, off + j, none⟩ = some v := by
 intro j v hv
 unfold bytesV Lib.byteCells at hv
 simp only [List.getElem?_toArray, List.getElem?_map, Option.map_eq_some_iff] at hv
 obtain ⟨x, hx, rfl⟩ := hv
 exact h j x hx
/-- an array stored whole into a block that lies there: the world behind it has a name -/
theorem qs_ {ops : Array Oper} {rest : List Oper} {o : Oper} {a : Act} {w : World} {Q : Exit → Act → World → Prop} (hgd : o.guard = none) (ty : TypeId) (x y : Operand) (ho : o.op = .store ty x y)
 (b : Nat) (cs old : Array Value) (T : TypeId) (hx : a.eval x = .pointer (some ⟨b, 0, none⟩)) (hy : a.eval y = .agg cs) (hB : Rg.Blk w b T old)
 (hi : (P.info? ty).map (·.size) = some cs.size) (hold : old.size = cs.size) (h1 : cs.all (·.oneCell') = true)
 (h : ∀ X, Rg.Blk X b T cs → w.grownBy X (some b) → wpList P ops Q rest (a.put o.dst undef) X) : wpList P ops Q (o :: rest) a w :=
 wpList_store_row hgd ty x y ho b cs hx hy T old hB hi hold h1
  (h _ hB.setRow ⟨rfl, rfl, rfl, by simp, fun k _ hk => setRow_other w b k cs (fun e => hk (congrArg some e))⟩)
/-- [n]T(s): the array's address is the slice's -/
theorem ju_ {ops : Array Oper} {rest : List Oper} {o : Oper} {a : Act} {w : World} {Q : Exit → Act → World → Prop} (hgd : o.guard = none) (arr e : TypeId) (n : Nat) (x : Operand) (ho : o.op = .sliceToArrayPointer arr x)
 (b off len cap : Nat) (hx : a.eval x = .slice (some ⟨b, off, none⟩) len cap) (hu : P.underlying arr = some (.array n e)) (hl : n ≤ len)
 (h : wpList P ops Q rest (a.put o.dst (.pointer (some ⟨b, off, none⟩))) w) : wpList P ops Q (o :: rest) a w :=
 wpList_plain hgd fun _ hK => by
  unfold Oper.wp execOp
  simp only [ho, hx]
  unfold Instr.arrayAt
  simp only [Sem.run_bind, run_underlying hu w, Result.andThen_ok, if_neg (show ¬ len < n by omega), Sem.run_pure]
  exact hK _ _ h
/-- string(b) -/
theorem run_string_bytes (w : World) (src e dst : TypeId) (hs : P.underlying src = some (.slice e)) (he : P.underlying e = some (.int .u8)) (hd : P.underlying dst = some .string)
 (b off cap : Nat) (l : List UInt8) (h : Bytes w b off l) : (convert src dst (.slice (some ⟨b, off, none⟩) l.length cap)).run P w = .ok (.string ⟨l.toArray⟩) w := by
 have := run_convert_bytes_arg (P := P) (w := w) src e hs he b off l.length cap (l.map fun x => (x.toNat : Int)) (by simp) (fun i hi => by
  rw [h i l[i] (List.getElem?_eq_getElem hi)]; simp [hi]) dst hd
 rw [this]
 congr 2
 simp only [strOfNums, List.map_map]
 congr 1
 have : ((fun n : Int => UInt8.ofNat n.toNat) ∘ fun x : UInt8 => (x.toNat : Int)) = id := by funext x; simp
 rw [this, List.map_id]
theorem zc_ (w : World) (src e dst : TypeId) (hs : P.underlying src = some (.slice e)) (he : P.underlying e = some (.int .u8)) (hd : P.underlying dst = some .string)
 (b off len cap : Nat) (l : List UInt8) (hl : l.length = len) (h : Bytes w b off l) : (convert src dst (.slice (some ⟨b, off, none⟩) len cap)).run P w = .ok (.string ⟨l.toArray⟩) w :=
 hl ▸ run_string_bytes w src e dst hs he hd b off cap l h
theorem jr_ {ops : Array Oper} {rest : List Oper} {o : Oper} {a : Act} {w : World} {Q : Exit → Act → World → Prop} (hgd : o.guard = none) (src e dst : TypeId) (x : Operand) (ho : o.op = .convert src dst x)
 (hs : P.underlying src = some (.slice e)) (he : P.underlying e = some (.int .u8)) (hd : P.underlying dst = some .string) (b off len cap : Nat) (l : List UInt8)
 (hx : a.eval x = .slice (some ⟨b, off, none⟩) len cap) (hl : l.length = len) (hB : Bytes w b off l)
 (h : wpList P ops Q rest (a.put o.dst (.string ⟨l.toArray⟩)) w) : wpList P ops Q (o :: rest) a w :=
 wpList_plain hgd fun _ hK => by
  subst hl
  unfold Oper.wp execOp
  simp only [ho, hx, Sem.run_bind, run_string_bytes w src e dst hs he hd b off cap l hB, Result.andThen_ok, Sem.run_pure]
  exact hK _ _ h
end Go.Proofs.YtciibogkfbicfaaGreatDoor.Cv
namespace Go.Proofs.YtciibogkfbicfaaGreatDoor.Ow
open Go.RowKit
variable {P : Program}
/-- the slice address A reads als the values xs -/
def Rd (w : World) (A : Option Addr) (xs : List Value) : Prop := ∀ j x, xs[j]? = some x → ∃ b o, A = some ⟨b, o, none⟩ ∧ b < w.heap.size ∧ w.cell? ⟨b, o + j, none⟩ = some x
theorem Rd.nil (w : World) (A : Option Addr) : Rd w A [] := fun j x h => by simp at h
theorem Rd.below {w w' : World} {A : Option Addr} {xs : List Value} (h : Rd w A xs) (hb : Below w.heap.size w w') : Rd w' A xs := fun j x hx => by
 obtain ⟨b, o, hA, hl, hc⟩ := h j x hx
 exact ⟨b, o, hA, Nat.lt_of_lt_of_le hl hb.size, (hb.cell (p := ⟨b, o + j, none⟩) hl).trans hc⟩
theorem Rd.at_ {w : World} {A : Option Addr} {xs : List Value} (h : Rd w A xs) {j : Nat} (hj : j < xs.length) : ∃ b o, A = some ⟨b, o, none⟩ ∧ b < w.heap.size ∧ w.cell? ⟨b, o + j, none⟩ = some xs[j] := h j _ (List.getElem?_eq_getElem hj)
/-- all of it at one place -/
theorem Rd.place {w : World} {A : Option Addr} {xs : List Value} (h : Rd w A xs) (hn : 0 < xs.length) : ∃ b o, A = some ⟨b, o, none⟩ ∧ b < w.heap.size ∧ ∀ j x, xs[j]? = some x → w.cell? ⟨b, o + j, none⟩ = some x := by
 obtain ⟨b, o, hA, hl, _⟩ := h.at_ hn
 refine ⟨b, o, hA, hl, fun j x hx => ?_⟩
 obtain ⟨b', o', hA', _, hc⟩ := h j x hx
 rw [hA] at hA'; cases hA'
 exact hc
/-- v is a slice of the call's own, from block B on, which holds xs -/
def Owns (w : World) (B : Nat) (E : TypeId) (v : Value) (xs : List Value) : Prop := w.ownsRow B E 1 v xs.length xs
theorem Owns.alloc {w : World} {B : Nat} {E : TypeId} {v : Value} {xs : List Value} (h : Owns w B E v xs) (o : Obj) : Owns (w.alloc o) B E v xs := World.ownsRow.alloc h o
theorem Owns.kept {w w' : World} {B : Nat} {E : TypeId} {v : Value} {xs : List Value} {row : Option Nat} (h : Owns w B E v xs) (hg : w.grownBy w' row) (hne : v.ownBlock = none ∨ v.ownBlock ≠ row) : Owns w' B E v xs := World.ownsRow.kept h hg hne
theorem Owns.below {w w' : World} {B : Nat} {E : TypeId} {v : Value} {xs : List Value} (h : Owns w B E v xs) (hb : Below w.heap.size w w') : Owns w' B E v xs :=
 World.ownsRow.kept h (row := none) ⟨hb.os, hb.tape, hb.output, hb.size, fun k hk _ => hb.block k hk⟩ (by cases hv : v.ownBlock <;> simp)
theorem Owns.lt {w : World} {B : Nat} {E : TypeId} {v : Value} {xs : List Value} (h : Owns w B E v xs) : ∀ k, v.ownBlock = some k → B ≤ k ∧ k < w.heap.size := World.ownsRow.lt h
/-- what it looks like, and what it reads als -/
theorem Owns.form {w : World} {B : Nat} {E : TypeId} {v : Value} {xs : List Value} (h : Owns w B E v xs) : ∃ A c, v = .slice A xs.length c ∧ Rd w A xs ∧ xs.length ≤ c := by
 rcases h.2 with ⟨hv, h0⟩ | ⟨g, cap, cur, hv, _, hg, hc, _⟩
 · have : xs = [] := List.eq_nil_of_length_eq_zero h0
   subst this
   exact ⟨none, 0, hv, Rd.nil _ _, Nat.le_refl _⟩
 · refine ⟨_, cap, hv, fun j x hx => ⟨g, 0, rfl, (Array.getElem?_eq_some_iff.1 hg).1, ?_⟩, hc⟩
   have := World.ownsRow.cells h (g := g) (by rw [hv]; rfl) j x hx
   have hadd : (⟨g, 0, none⟩ : Addr).add j = ⟨g, j, none⟩ := by unfold Addr.add; split <;> simp_all
   rw [hadd] at this
   rw [Nat.zero_add]; exact this
/-- bytes -/
def bv (l : List UInt8) : List Value := Lib.byteCells l
theorem jy_ (l : List UInt8) : (bv l).length = l.length := by simp [bv, Lib.byteCells]
theorem bv_append (a b : List UInt8) : bv (a ++ b) = bv a ++ bv b := by simp [bv, Lib.byteCells]
theorem bv_one (b : UInt8) (x : Int) (h : x = b.toNat) : bv [b] = [.int .u8 x] := by simp [bv, Lib.byteCells, h]
theorem bv_cells (l : List UInt8) : ∀ u ∈ bv l, u.oneCell' = true := by
 intro u hu
 simp only [bv, Lib.byteCells, List.mem_map] at hu
 obtain ⟨x, _, rfl⟩ := hu
 rfl
theorem bv_get (l : List UInt8) (j : Nat) (b : UInt8) (h : l[j]? = some b) : (bv l)[j]? = some (.int .u8 b.toNat) := by simp [bv, Lib.byteCells, h]
theorem Rd.bytes {w : World} {A : Option Addr} {l : List UInt8} (h : Rd w A (bv l)) (hn : 0 < l.length) : ∃ b o, A = some ⟨b, o, none⟩ ∧ b < w.heap.size ∧ Cv.Bytes w b o l := by
 obtain ⟨b, o, hA, hl, hc⟩ := h.place (by rw [jy_]; exact hn)
 exact ⟨b, o, hA, hl, fun j x hx => hc j _ (bv_get l j x hx)⟩
end Go.Proofs.YtciibogkfbicfaaGreatDoor.Ow
namespace Go.Proofs.YtciibogkfbicfaaGreatDoor.Og
open Go.RowKit Go.ChangeShapes Go.WideShapes Go.Proofs.YtciibogkfbicfaaGreatDoor.Ow
variable {H : Type} {enc : TypeId × Value → H} {P : Program} {W : World}
theorem trodAll_below (hl : laidOutB P = true) {W' : World} (hb : Below W.heap.size W W') : ∀ (ts : List TypeId) (vs : List Value) (ds : List (DataW H)) (ps : List MemPlace), (∀ t ∈ ts, P.readableRec t = true ∧ t < P.types.size) →
 DataW.TrodAll enc P W 0 (fun _ => true) true ts vs ds ps → (∀ x ∈ ps, x.block < W.heap.size) → DataW.TrodAll enc P W' 0 (fun b => decide (b < W.heap.size)) true ts vs ds ps
 | [], [], [], _, _, h, _ => h
 | t :: ts, v :: vs, d :: ds, ps, ht, h, hlt => by
  obtain ⟨p, q, h1, h2, rfl⟩ := h
  exact ⟨p, q, Below.trod hl (ht t (by simp)).1 (ht t (by simp)).2 h1 hb (fun x hx => hlt x (List.mem_append_left _ hx)),
   trodAll_below hl hb ts vs ds q (fun t' h' => ht t' (List.mem_cons_of_mem _ h')) h2 (fun x hx => hlt x (List.mem_append_right _ hx)), rfl⟩
 | [], [], _ :: _, _, _, h, _ => h.elim
 | [], _ :: _, [], _, _, h, _ => h.elim
 | [], _ :: _, _ :: _, _, _, h, _ => h.elim
 | _ :: _, [], [], _, _, h, _ => h.elim
 | _ :: _, [], _ :: _, _, _, h, _ => h.elim
 | _ :: _, _ :: _, [], _, _, h, _ => h.elim
end Go.Proofs.YtciibogkfbicfaaGreatDoor.Og
namespace Go.Proofs.YtciibogkfbicfaaGreatDoor.Og
open Go.RowKit Go.ChangeShapes Go.WideShapes Go.Joins Go.Deep Go.Proofs.YtciibogkfbicfaaGreatDoor.Ow
variable {H : Type} {enc : TypeId × Value → H} {P : Program} {W : World}
theorem map_of {α : Type} {f : α → Value} {p : α → Prop} : ∀ {xs : List Value}, (∀ x ∈ xs, ∃ a, x = f a ∧ p a) → ∃ als : List α, xs = als.map f ∧ ∀ a ∈ als, p a
 | [], _ => ⟨[], rfl, by simp⟩
 | x :: xs, h => by
  obtain ⟨a, rfl, ha⟩ := h x (List.mem_cons_self ..)
  obtain ⟨als, e, hp⟩ := map_of (xs := xs) (fun y hy => h y (List.mem_cons_of_mem _ hy))
  refine ⟨a :: als, by rw [e]; rfl, fun b hb => ?_⟩
  rcases List.mem_cons.1 hb with rfl | hb
  · exact ha
  · exact hp b hb
/-- a field or an element that reads -/
def Reads (enc : TypeId × Value → H) (P : Program) (W : World) (t : TypeId) (v : Value) : Prop := ∃ n y, DataW.trod enc P W 0 (fun _ => true) true n t [v] = some y
theorem open_int1 {t : TypeId} {k : IntKind} {v : Value} (ht : P.underlying t = some (.int k)) (h : Reads enc P W t v) : ∃ n, v = .int k n ∧ (Lit.int k n).wf = true := by
 obtain ⟨fuel, y, hf⟩ := h
 obtain ⟨n, e, _, hw⟩ := DataW.trod_int ht hf
 simp only [List.cons.injEq, and_true] at e
 exact ⟨n, e, hw⟩
end Go.Proofs.YtciibogkfbicfaaGreatDoor.Og
namespace Go.Proofs.YtciibogkfbicfaaGreatDoor.RL
open Go.RowKit
section
variable {P : Program} {ops : Array Oper} {Q : Exit → Act → World → Prop} {md : Region.Mode} {S : World → Prop}
/-- all that w held is in w' als it was -/
def Lat (w w' : World) : Prop := Below w.heap.size w w'
theorem Lat.refl (w : World) : Lat w w := Below.refl _ _
theorem Lat.trans {a b c : World} (h : Lat a b) (k : Lat b c) : Lat a c := Below.trans h (k.mono h.size)
/-- in every world of S the operation gives v, and leaves a later world of S -/
def Soft (P : Program) (ops : Array Oper) (S : World → Prop) (o : Oper) (v : Value) (a : Act) : Prop :=
 (Region.wanted o (yielded ops a.tmps) = true ∧ ∀ w, S w → (execOp a.eval o).run P w = .ok (.value v) w) ∨
 (Region.wanted o (yielded ops a.tmps) = true ∧ ∃ f args, ∀ w, S w → (execOp a.eval o).run P w = .ok (.enter f args) w ∧ Calls P f args w fun e w' => e = .returned v ∧ Lat w w' ∧ S w') ∨
 (Region.wanted o (yielded ops a.tmps) = false ∧ v = undef)
theorem Soft.of_same {o : Oper} {v : Value} {a a' : Act} (hy : Soft P ops S o v a) (he : execOp a'.eval o = execOp a.eval o)
 (hw : Region.wanted o (yielded ops a'.tmps) = Region.wanted o (yielded ops a.tmps)) : Soft P ops S o v a' := by
 unfold Soft at *
 rw [he, hw]
 exact hy
theorem Soft.wpOp {i : Nat} {o : Oper} {v : Value} {a : Act} (hi : ops[i]? = some o) (hy : Soft P ops S o v a)
 {K : Act → World → Prop} {w : World} (hS : S w) (h : ∀ w', Lat w w' → S w' → K (a.put o.dst v) w') : wpOp P ops Q i K a w := by
 unfold Go.wpOp
 simp only [hi]
 rcases hy with ⟨hw, hv⟩ | ⟨hw, f, args, hv⟩ | ⟨hw, rfl⟩
 · simp only [hw, if_true, Oper.wp, hv w hS, Oper.upon]; exact .inl (h w (Lat.refl w) hS)
 · simp only [hw, if_true, Oper.wp, (hv w hS).1, Oper.upon]
   refine .inl (Calls.mono (hv w hS).2 fun e w' he => ?_)
   obtain ⟨rfl, hl, hs⟩ := he
   exact h w' hl hs
 · simp only [hw, Bool.false_eq_true, if_false]; exact h w (Lat.refl w) hS
theorem wpOp_putSoft {j : Nat} {oi oj : Oper} {v : Value} (hj : ops[j]? = some oj) (hap : oi.apart ops oj = true)
 (hsi : ∀ cs b, oi.op ≠ .select cs b) (hsj : ∀ cs b, oj.op ≠ .select cs b)
 (hQ : ∀ c a w, Q (.panic c) (a.put oi.dst v) w → Q (.panic c) a w) {K : Act → World → Prop} {a : Act} {w : World}
 (hy : Soft P ops S oi v a) (h : wpOp P ops Q j K (a.put oi.dst v) w) :
 wpOp P ops Q j (fun a' w' => Soft P ops S oi v a' ∧ K (a'.put oi.dst v) w') a w := by
 obtain ⟨h1, h2, h3⟩ := Oper.apart_spec hap
 have keep : ∀ (a : Act), Soft P ops S oi v a → ∀ u, Soft P ops S oi v (a.put oj.dst u) := fun a hy u =>
  hy.of_same (execOp_put oi hsi a oj.dst u h3) (wanted_put oi a oj.dst u h3)
 have keepD : ∀ d, Soft P ops S oi v { a with defers := d :: a.defers } := fun d => hy.of_same rfl rfl
 unfold wpOp at *
 simp only [hj] at *
 rw [wanted_put oj a oi.dst v h1] at h
 split
 · rename_i hw
   simp only [hw, if_true] at h
   rcases h with h | ⟨hasks, hlets⟩
   case inr => exact .inr ⟨by unfold Oper.asks at *; rw [execOp_put oj hsj a oi.dst v h1] at hasks; exact hasks, hlets⟩
   refine .inl ?_
   unfold Oper.wp at *
   rw [execOp_put oj hsj a oi.dst v h1] at h
   generalize (execOp a.eval oj).run P w = r at *
   cases r with
   | ok n w' =>
    cases n <;> simp only [Oper.upon] at h ⊢
    case value u => exact ⟨keep a hy u, by rw [← Act.put_comm a v u h2]; exact h⟩
    case skip => exact ⟨keep a hy _, by rw [← Act.put_comm a v undef h2]; exact h⟩
    case defer d =>
     refine ⟨keep _ (keepD d) _, ?_⟩
     rw [← Act.put_comm _ v undef h2, ← Act.put_defers]
     exact h
    case enter f args =>
     refine Calls.mono h fun e w'' he => ?_
     cases e with
     | returned u => exact ⟨keep a hy u, by rw [← Act.put_comm a v u h2]; exact he⟩
     | panicked c => exact hQ _ _ _ he
     | outgrown => exact he
    case row row args => exact Rows.mono h fun u w'' he => ⟨keep a hy u, by rw [← Act.put_comm a v u h2]; exact he⟩
   | halt x w' =>
    cases x <;> simp only [Oper.upon] at h ⊢
    case panic u => exact hQ _ _ _ h
 · rename_i hw
   simp only [hw] at h
   exact ⟨keep a hy _, by rw [← Act.put_comm a v undef h2]; exact h⟩
/-- whatever order is picked from here on, and behind every operation in whatever later world of S -/
def wpAnyL (P : Program) (md : Region.Mode) (ops : Array Oper) (Q : Exit → Act → World → Prop) (S : World → Prop) : Nat → Array Bool → Act → World → Prop
 | 0, listed, a, w => Region.ready md ops listed = [] ∧ Q .normal a w
 | fuel + 1, listed, a, w =>
  (Region.ready md ops listed = [] → Q .normal a w) ∧
  ∀ i ∈ Region.ready md ops listed, wpOp P ops Q i (fun a' w' => S w' ∧ ∀ w'', Lat w' w'' → S w'' → wpAnyL P md ops Q S fuel (listed.setIfInBounds i true) a' w'') a w
theorem wpAny_of_L : ∀ (fuel : Nat) (listed : Array Bool) (a : Act) (w : World), wpAnyL P md ops Q S fuel listed a w → wpAny P md ops Q fuel listed a w
 | 0, _, _, _, h => h
 | fuel + 1, _, _, _, h => ⟨h.1, fun i hi => wpOp_mono (fun a' w' h' => wpAny_of_L fuel _ a' w' (h'.2 w' (Lat.refl w') h'.1)) (h.2 i hi)⟩
theorem wpAnyL_first {i : Nat} {oi : Oper} {v : Value} (hi : ops[i]? = some oi) (hsel : ∀ (j : Nat) (o : Oper) cs b, ops[j]? = some o → o.op ≠ .select cs b)
 (hQ : ∀ c a w, Q (.panic c) (a.put oi.dst v) w → Q (.panic c) a w) :
 ∀ (fuel : Nat) (listed : Array Bool) (a : Act) (w : World),
  (∀ j oj, ops[j]? = some oj → j ≠ i → listed.getD j true = false → (∀ e ∈ oj.after, Region.binds md e = true → e.on ≠ i) → oi.apart ops oj = true) →
  i ∈ Region.ready md ops listed → Soft P ops S oi v a → S w →
  (∀ w', Lat w w' → S w' → wpAnyL P md ops Q S fuel (listed.setIfInBounds i true) (a.put oi.dst v) w') → wpAnyL P md ops Q S (fuel + 1) listed a w := by
 intro fuel
 induction fuel with
 | zero =>
  intro listed a w _ hr hy hS H
  refine ⟨fun h => (by rw [h] at hr; cases hr), fun j hj => ?_⟩
  by_cases hji : j = i
  · subst hji; exact hy.wpOp hi hS (fun w' hl hs => ⟨hs, fun w'' hl' hs' => H w'' (hl.trans hl') hs'⟩)
  · have := ready_mono hj hji
    rw [(H w (Lat.refl w) hS).1] at this
    cases this
 | succ fuel ih =>
  intro listed a w hfree hr hy hS H
  refine ⟨fun h => (by rw [h] at hr; cases hr), fun j hj => ?_⟩
  by_cases hji : j = i
  · subst hji; exact hy.wpOp hi hS (fun w' hl hs => ⟨hs, fun w'' hl' hs' => H w'' (hl.trans hl') hs'⟩)
  · have h1 := (H w (Lat.refl w) hS).2 j (ready_mono hj hji)
    obtain ⟨hjun, oj, hoj, hall⟩ := mem_ready.1 hj
    have hnot : ∀ e ∈ oj.after, Region.binds md e = true → e.on ≠ i := fun e he hb heq => by
     have h1 := hall e he hb
     have h0 := (mem_ready.1 hr).1
     rw [heq] at h1
     rcases Nat.lt_or_ge i listed.size with h' | h'
     · simp [h'] at h0 h1; rw [h0] at h1; cases h1
     · simp [Array.getElem?_eq_none h'] at h1
    have h2 := wpOp_putSoft hoj (hfree j oj hoj hji hjun hnot) (fun cs b => hsel i oi cs b hi) (fun cs b => hsel j oj cs b hoj) hQ hy h1
    have hfree' : ∀ k ok, ops[k]? = some ok → k ≠ i → (listed.setIfInBounds j true).getD k true = false →
     (∀ e ∈ ok.after, Region.binds md e = true → e.on ≠ i) → oi.apart ops ok = true := fun k ok hk hki hun hno => by
     refine hfree k ok hk hki ?_ hno
     by_cases hjk : j = k
     · subst hjk; exact hjun
     · rw [getD_set_ne true hjk] at hun; exact hun
    refine wpOp_mono (fun a' w' h3 => ⟨h3.2.1, fun w'' hl hs => ih (listed.setIfInBounds j true) a' w'' hfree' (ready_mono hr (Ne.symm hji)) h3.1 hs (fun w3 hl3 hs3 => ?_)⟩) h2
    rw [Array.setIfInBounds_comm _ _ hji]
    exact h3.2.2 w3 (hl.trans hl3) hs3
/-- the same in every later world of S -/
def H (P : Program) (md : Region.Mode) (ops : Array Oper) (Q : Exit → Act → World → Prop) (S : World → Prop) (w : World) (fuel : Nat) (listed : Array Bool) (a : Act) : Prop :=
 ∀ w', Lat w w' → S w' → wpAnyL P md ops Q S fuel listed a w'
/-- a value, taken first -/
theorem take {i : Nat} {oi : Oper} {v : Value} {fuel : Nat} {listed : Array Bool} {a : Act} {w : World} (hi : ops.toList[i]? = some oi)
 (hs : Region.noSelect ops = true) (hf : Region.free md ops listed i = true) (hr : (Region.ready md ops listed).contains i = true)
 (hQ : ∀ c a w, Q (.panic c) (a.put oi.dst v) w → Q (.panic c) a w) (hy : Soft P ops S oi v a)
 (h : H P md ops Q S w fuel (listed.setIfInBounds i true) (a.put oi.dst v)) : H P md ops Q S w (fuel + 1) listed a := fun w' hl hS =>
 wpAnyL_first (by simpa using hi) (Region.noSelect_spec hs) hQ fuel listed a w' (Region.free_spec (by simpa using hi) hf) (by simpa using hr) hy hS (fun w'' hl' hs' => h w'' (hl.trans hl') hs')
theorem takeV {i : Nat} {oi : Oper} {v : Value} {fuel : Nat} {listed : Array Bool} {a : Act} {w : World} (hi : ops.toList[i]? = some oi)
 (hs : Region.noSelect ops = true) (hf : Region.free md ops listed i = true) (hr : (Region.ready md ops listed).contains i = true)
 (hQ : ∀ c a w, Q (.panic c) (a.put oi.dst v) w → Q (.panic c) a w) (hw : Region.wanted oi (yielded ops a.tmps) = true) (hv : ∀ w, S w → (execOp a.eval oi).run P w = .ok (.value v) w)
 (h : H P md ops Q S w fuel (listed.setIfInBounds i true) (a.put oi.dst v)) : H P md ops Q S w (fuel + 1) listed a :=
 take hi hs hf hr hQ (.inl ⟨hw, hv⟩) h
theorem takeU {i : Nat} {oi : Oper} {fuel : Nat} {listed : Array Bool} {a : Act} {w : World} (hi : ops.toList[i]? = some oi)
 (hs : Region.noSelect ops = true) (hf : Region.free md ops listed i = true) (hr : (Region.ready md ops listed).contains i = true)
 (hQ : ∀ c a w, Q (.panic c) (a.put oi.dst undef) w → Q (.panic c) a w) (hw : Region.wanted oi (yielded ops a.tmps) = false)
 (h : H P md ops Q S w fuel (listed.setIfInBounds i true) (a.put oi.dst undef)) : H P md ops Q S w (fuel + 1) listed a :=
 take hi hs hf hr hQ (.inr (.inr ⟨hw, rfl⟩)) h
theorem takeC {i : Nat} {oi : Oper} {v : Value} {fuel : Nat} {listed : Array Bool} {a : Act} {w : World} (f : FuncId) (args : Array Value) (hi : ops.toList[i]? = some oi)
 (hs : Region.noSelect ops = true) (hf : Region.free md ops listed i = true) (hr : (Region.ready md ops listed).contains i = true)
 (hQ : ∀ c a w, Q (.panic c) (a.put oi.dst v) w → Q (.panic c) a w) (hw : Region.wanted oi (yielded ops a.tmps) = true) (hv : ∀ w, (execOp a.eval oi).run P w = .ok (.enter f args) w)
 (hc : ∀ w, S w → Calls P f args w fun e w' => e = .returned v ∧ Lat w w' ∧ S w')
 (h : H P md ops Q S w fuel (listed.setIfInBounds i true) (a.put oi.dst v)) : H P md ops Q S w (fuel + 1) listed a :=
 take hi hs hf hr hQ (.inr (.inl ⟨hw, f, args, fun w hS => ⟨hv w, hc w hS⟩⟩)) h
/-- the only one that may come up, carried out in whatever later world -/
theorem step {i : Nat} {fuel : Nat} {listed : Array Bool} {a : Act} {w : World} (hr : Region.ready md ops listed = [i])
 (h : ∀ w', Lat w w' → S w' → wpOp P ops Q i (fun a' w'' => S w'' ∧ H P md ops Q S w'' fuel (listed.setIfInBounds i true) a') a w') : H P md ops Q S w (fuel + 1) listed a := by
 intro w' hl hS
 refine ⟨fun h0 => ?_, fun j hj => ?_⟩
 · rw [h0] at hr
   cases hr
 · rw [hr] at hj
   rw [List.mem_singleton.1 hj]
   exact h w' hl hS
/-- kept shut till it is opened -/
def Shut (p : Prop) : Prop := p
theorem Shut.out {p : Prop} (h : Shut p) : p := h
theorem stepK {i : Nat} {o : Oper} {fuel : Nat} {listed : Array Bool} {a : Act} {w : World} (ho : ops.toList[i]? = some o) (hr : Region.ready md ops listed = [i]) (hw : Region.wanted o (yielded ops a.tmps) = true)
 (h : ∀ w', Lat w w' → S w' → ∀ K : Act → World → Prop, Shut (∀ a' w'', S w'' → H P md ops Q S w'' fuel (listed.setIfInBounds i true) a' → K a' w'') → Oper.wp P o a w' K Q) : H P md ops Q S w (fuel + 1) listed a :=
 step hr fun w' hl hS => wpOp_step (by simpa using ho) fun K hK => by
  rw [if_pos hw]
  exact h w' hl hS K (fun a' w'' hs hh => hK a' w'' ⟨hs, hh⟩)
theorem done {fuel : Nat} {listed : Array Bool} {a : Act} {w : World} (hr : Region.ready md ops listed = [])
 (h : ∀ w', Lat w w' → S w' → Q .normal a w') : H P md ops Q S w fuel listed a := fun w' hl hS => by
 cases fuel with
 | zero => exact ⟨hr, h w' hl hS⟩
 | succ f => exact ⟨fun _ => h w' hl hS, fun i hi => by rw [hr] at hi; cases hi⟩
theorem start {id : Nat} {a : Act} {w : World} (S : World → Prop) (hm : P.follows .mixedOrders = true) (hS : S w.drew)
 (h : H P .any ops Q S w.drew ops.size (Array.replicate ops.size false) a) : (Code.region id ops true).wp P Q a w :=
 wp_region_any hm (wpAny_of_L _ _ _ _ (h w.drew (Lat.refl _) hS))
end
/-- all that X held is in w als it was -/
def Aft (X w : World) : Prop := Below X.heap.size X w
theorem Aft.refl (X : World) : Aft X X := Below.refl _ _
theorem Aft.drew {X W : World} (h : Aft X W) : Aft X W.drew := Below.drew h
theorem Aft.alloc {X W : World} (h : Aft X W) (o : Obj) : Aft X (W.alloc o) := Below.alloc h h.size o
theorem Aft.lat {X W W' : World} (h : Aft X W) (hb : Lat W W') : Aft X W' := Below.trans h (Below.mono hb h.size)
end Go.Proofs.YtciibogkfbicfaaGreatDoor.RL
namespace Go.Proofs.YtciibogkfbicfaaGreatDoor.RT
open Go.RowKit Go.Proofs.YtciibogkfbicfaaGreatDoor.RL
section
variable {P : Program} {ops : Array Oper} {Q : Exit → Act → World → Prop} {md : Region.Mode} {S : World → Prop} {n g : Nat}
/-- whatever order is picked from here on, the head's operations first -/
def wpAnyT (P : Program) (md : Region.Mode) (ops : Array Oper) (Q : Exit → Act → World → Prop) (S : World → Prop) (n g : Nat) : Nat → Array Bool → Act → World → Prop
 | 0, listed, a, w => Region.seqB md ops g n listed = true ∧ wpAny P md ops Q g listed a w
 | fuel + 1, listed, a, w =>
  Region.ready md ops listed ≠ [] ∧
  ∀ i ∈ Region.ready md ops listed, i < n ∧ wpOp P ops Q i (fun a' w' => S w' ∧ ∀ w'', Lat w' w'' → S w'' → wpAnyT P md ops Q S n g fuel (listed.setIfInBounds i true) a' w'') a w
theorem wpAny_of_T : ∀ (fuel : Nat) (listed : Array Bool) (a : Act) (w : World), wpAnyT P md ops Q S n g fuel listed a w → wpAny P md ops Q (fuel + g) listed a w
 | 0, _, _, _, h => by rw [Nat.zero_add]; exact h.2
 | fuel + 1, listed, a, w, h => by
  rw [show fuel + 1 + g = (fuel + g) + 1 by omega]
  exact ⟨fun h0 => absurd h0 h.1, fun i hi => wpOp_mono (fun a' w' h' => wpAny_of_T fuel _ a' w' (h'.2 w' (Lat.refl w') h'.1)) (h.2 i hi).2⟩
structure Hd (md : Region.Mode) (ops : Array Oper) (n : Nat) (listed : Array Bool) : Prop where
 s : Region.sinkB md ops n = true
 c : Region.chainB md ops n = true
 lt0 : n < ops.size
 inv : HeadInv md ops n listed
theorem Hd.set {listed : Array Bool} (h : Hd md ops n listed) {i : Nat} (hi : i ∈ Region.ready md ops listed) (hin : i < n) : Hd md ops n (listed.setIfInBounds i true) := ⟨h.s, h.c, h.lt0, h.inv.set hi hin⟩
theorem Hd.lt {listed : Array Bool} (h : Hd md ops n listed) {i : Nat} (hin : i < n) (hun : listed.getD i true = false) {j : Nat} (hj : j ∈ Region.ready md ops listed) : j < n := by
 rcases Nat.lt_or_ge j n with h' | h'
 · exact h'
 · exact absurd hj (tail_waits h.s h.c h.lt0 h.inv _ i rfl hin hun j h')
theorem wpAnyT_first {i : Nat} {oi : Oper} {v : Value} (hi : ops[i]? = some oi) (hsel : ∀ (j : Nat) (o : Oper) cs b, ops[j]? = some o → o.op ≠ .select cs b)
 (hQ : ∀ c a w, Q (.panic c) (a.put oi.dst v) w → Q (.panic c) a w) (hin : i < n) :
 ∀ (fuel : Nat) (listed : Array Bool) (a : Act) (w : World), Hd md ops n listed →
  (∀ j oj, ops[j]? = some oj → j ≠ i → listed.getD j true = false → (∀ e ∈ oj.after, Region.binds md e = true → e.on ≠ i) → oi.apart ops oj = true) →
  i ∈ Region.ready md ops listed → Soft P ops S oi v a → S w →
  (∀ w', Lat w w' → S w' → wpAnyT P md ops Q S n g fuel (listed.setIfInBounds i true) (a.put oi.dst v) w') → wpAnyT P md ops Q S n g (fuel + 1) listed a w := by
 intro fuel
 induction fuel with
 | zero =>
  intro listed a w hd _ hr hy hS H
  have hun := (mem_ready.1 hr).1
  refine ⟨fun h => (by rw [h] at hr; cases hr), fun j hj => ⟨hd.lt hin hun hj, ?_⟩⟩
  by_cases hji : j = i
  · subst hji; exact hy.wpOp hi hS (fun w' hl hs => ⟨hs, fun w'' hl' hs' => H w'' (hl.trans hl') hs'⟩)
  · have h1 := seqB_ready (H w (Lat.refl w) hS).1 j (ready_mono hj hji)
    have h2 := hd.lt hin hun hj
    omega
 | succ fuel ih =>
  intro listed a w hd hfree hr hy hS H
  have hun := (mem_ready.1 hr).1
  refine ⟨fun h => (by rw [h] at hr; cases hr), fun j hj => ⟨hd.lt hin hun hj, ?_⟩⟩
  by_cases hji : j = i
  · subst hji; exact hy.wpOp hi hS (fun w' hl hs => ⟨hs, fun w'' hl' hs' => H w'' (hl.trans hl') hs'⟩)
  · have h1 := ((H w (Lat.refl w) hS).2 j (ready_mono hj hji)).2
    obtain ⟨hjun, oj, hoj, hall⟩ := mem_ready.1 hj
    have hnot : ∀ e ∈ oj.after, Region.binds md e = true → e.on ≠ i := fun e he hb heq => by
     have h1 := hall e he hb
     have h0 := (mem_ready.1 hr).1
     rw [heq] at h1
     rcases Nat.lt_or_ge i listed.size with h' | h'
     · simp [h'] at h0 h1; rw [h0] at h1; cases h1
     · simp [Array.getElem?_eq_none h'] at h1
    have h2 := wpOp_putSoft hoj (hfree j oj hoj hji hjun hnot) (fun cs b => hsel i oi cs b hi) (fun cs b => hsel j oj cs b hoj) hQ hy h1
    have hfree' : ∀ k ok, ops[k]? = some ok → k ≠ i → (listed.setIfInBounds j true).getD k true = false →
     (∀ e ∈ ok.after, Region.binds md e = true → e.on ≠ i) → oi.apart ops ok = true := fun k ok hk hki hun hno => by
     refine hfree k ok hk hki ?_ hno
     by_cases hjk : j = k
     · subst hjk; exact hjun
     · rw [getD_set_ne true hjk] at hun; exact hun
    refine wpOp_mono (fun a' w' h3 => ⟨h3.2.1, fun w'' hl hs => ih (listed.setIfInBounds j true) a' w'' (hd.set hj (hd.lt hin hun hj)) hfree' (ready_mono hr (Ne.symm hji)) h3.1 hs (fun w3 hl3 hs3 => ?_)⟩) h2
    rw [Array.setIfInBounds_comm _ _ hji]
    exact h3.2.2 w3 (hl.trans hl3) hs3
/-- the same in every later world of S -/
def H (P : Program) (md : Region.Mode) (ops : Array Oper) (Q : Exit → Act → World → Prop) (S : World → Prop) (n g : Nat) (w : World) (fuel : Nat) (listed : Array Bool) (a : Act) : Prop :=
 Hd md ops n listed → ∀ w', Lat w w' → S w' → wpAnyT P md ops Q S n g fuel listed a w'
theorem take {i : Nat} {oi : Oper} {v : Value} {fuel : Nat} {listed : Array Bool} {a : Act} {w : World} (hi : ops.toList[i]? = some oi)
 (hs : Region.noSelect ops = true) (hf : Region.free md ops listed i = true) (hr : (Region.ready md ops listed).contains i = true) (hin : i < n)
 (hQ : ∀ c a w, Q (.panic c) (a.put oi.dst v) w → Q (.panic c) a w) (hy : Soft P ops S oi v a)
 (h : H P md ops Q S n g w fuel (listed.setIfInBounds i true) (a.put oi.dst v)) : H P md ops Q S n g w (fuel + 1) listed a := fun hd w' hl hS =>
 wpAnyT_first (by simpa using hi) (Region.noSelect_spec hs) hQ hin fuel listed a w' hd (Region.free_spec (by simpa using hi) hf) (by simpa using hr) hy hS (fun w'' hl' hs' => h (hd.set (by simpa using hr) hin) w'' (hl.trans hl') hs')
theorem takeV {i : Nat} {oi : Oper} {v : Value} {fuel : Nat} {listed : Array Bool} {a : Act} {w : World} (hi : ops.toList[i]? = some oi)
 (hs : Region.noSelect ops = true) (hf : Region.free md ops listed i = true) (hr : (Region.ready md ops listed).contains i = true) (hin : i < n)
 (hQ : ∀ c a w, Q (.panic c) (a.put oi.dst v) w → Q (.panic c) a w) (hw : Region.wanted oi (yielded ops a.tmps) = true) (hv : ∀ w, S w → (execOp a.eval oi).run P w = .ok (.value v) w)
 (h : H P md ops Q S n g w fuel (listed.setIfInBounds i true) (a.put oi.dst v)) : H P md ops Q S n g w (fuel + 1) listed a :=
 take hi hs hf hr hin hQ (.inl ⟨hw, hv⟩) h
theorem takeU {i : Nat} {oi : Oper} {fuel : Nat} {listed : Array Bool} {a : Act} {w : World} (hi : ops.toList[i]? = some oi)
 (hs : Region.noSelect ops = true) (hf : Region.free md ops listed i = true) (hr : (Region.ready md ops listed).contains i = true) (hin : i < n)
 (hQ : ∀ c a w, Q (.panic c) (a.put oi.dst undef) w → Q (.panic c) a w) (hw : Region.wanted oi (yielded ops a.tmps) = false)
 (h : H P md ops Q S n g w fuel (listed.setIfInBounds i true) (a.put oi.dst undef)) : H P md ops Q S n g w (fuel + 1) listed a :=
 take hi hs hf hr hin hQ (.inr (.inr ⟨hw, rfl⟩)) h
theorem takeC {i : Nat} {oi : Oper} {v : Value} {fuel : Nat} {listed : Array Bool} {a : Act} {w : World} (f : FuncId) (args : Array Value) (hi : ops.toList[i]? = some oi)
 (hs : Region.noSelect ops = true) (hf : Region.free md ops listed i = true) (hr : (Region.ready md ops listed).contains i = true) (hin : i < n)
 (hQ : ∀ c a w, Q (.panic c) (a.put oi.dst v) w → Q (.panic c) a w) (hw : Region.wanted oi (yielded ops a.tmps) = true) (hv : ∀ w, S w → (execOp a.eval oi).run P w = .ok (.enter f args) w)
 (hc : ∀ w, S w → Calls P f args w fun e w' => e = .returned v ∧ Lat w w' ∧ S w')
 (h : H P md ops Q S n g w fuel (listed.setIfInBounds i true) (a.put oi.dst v)) : H P md ops Q S n g w (fuel + 1) listed a :=
 take hi hs hf hr hin hQ (.inr (.inl ⟨hw, f, args, fun w hS => ⟨hv w hS, hc w hS⟩⟩)) h
theorem stepK {i : Nat} {o : Oper} {fuel : Nat} {listed : Array Bool} {a : Act} {w : World} (ho : ops.toList[i]? = some o) (hr : Region.ready md ops listed = [i]) (hin : i < n) (hw : Region.wanted o (yielded ops a.tmps) = true)
 (h : ∀ w', Lat w w' → S w' → ∀ K : Act → World → Prop, Shut (∀ a' w'', S w'' → H P md ops Q S n g w'' fuel (listed.setIfInBounds i true) a' → K a' w'') → Oper.wp P o a w' K Q) : H P md ops Q S n g w (fuel + 1) listed a := by
 intro hd w' hl hS
 refine ⟨fun h0 => (by rw [h0] at hr; cases hr), fun j hj => ?_⟩
 rw [hr] at hj
 obtain rfl := List.mem_singleton.1 hj
 refine ⟨hin, wpOp_step (by simpa using ho) fun K hK => ?_⟩
 rw [if_pos hw]
 exact h w' hl hS K (fun a' w'' hs hh => hK a' w'' ⟨hs, fun w3 hl3 hs3 => hh (hd.set (by rw [hr]; exact List.mem_singleton.2 rfl) hin) w3 hl3 hs3⟩)
/-- the head is done: the tail in its order -/
theorem tail {l : List Oper} {listed : Array Bool} {a : Act} {w : World} (hB : Region.seqB md ops g n listed = true) (hl : ops.toList.drop n = l) (hg : l.length = g)
 (h : ∀ w', Lat w w' → S w' → wpList P ops Q l a w') : H P md ops Q S n g w 0 listed a := fun _ w' hl' hS => by
 subst hg
 exact ⟨hB, wpAny_of_seq l n listed a w' (fun j => by rw [← hl]; simp [List.getElem?_drop]) hB (h w' hl' hS)⟩
theorem start {id : Nat} {a : Act} {w : World} {l : List Oper} (S : World → Prop) (n g : Nat) (hm : P.follows .mixedOrders = true) (hn : n < l.length) (hg : n + g = l.length) (hs : Region.sinkB .any l.toArray n = true) (hc : Region.chainB .any l.toArray n = true) (hS : S w.drew)
 (h : H P .any l.toArray Q S n g w.drew n (Array.replicate l.toArray.size false) a) : (Code.region id l.toArray true).wp P Q a w := by
 refine wp_region_any hm ?_
 have inv0 : HeadInv .any l.toArray n (Array.replicate l.toArray.size false) :=
  ⟨by simp, fun j oj _ hl => (by rw [getD_replicate_false] at hl; cases hl), fun t _ ht => getD_in (by simpa using ht) (getD_replicate_false _ _)⟩
 have := wpAny_of_T _ _ _ _ (h ⟨hs, hc, by simpa using hn, inv0⟩ w.drew (Lat.refl _) hS)
 rw [hg] at this
 simpa using this
end
/-- a whole row loaded -/
theorem qy_ {P : Program} {o : Oper} {a : Act} {w : World} (ty : TypeId) (x : Operand) (ho : o.op = .load ty x) (g : Nat) (hx : a.eval x = .pointer (some ⟨g, 0, none⟩)) (t : TypeId) (cs : Array Value) (hB : Rg.Blk w g t cs) {d : TypeDesc}
 (hu : P.underlying ty = some d) (hd : (match d with | .struct _ | .array _ _ => true | _ => false) = true) (hi : (P.info? ty).map (·.size) = some cs.size) : (execOp a.eval o).run P w = .ok (.value (.agg cs)) w := by
 unfold execOp
 simp only [ho, hx, Instr.loadAt, Instr.sureAddr, Sem.run_bind, Sem.run_pure, Result.andThen_ok, run_loadVar_row w g t ty cs (0, 0) d hB hu hd hi]
end Go.Proofs.YtciibogkfbicfaaGreatDoor.RT
namespace Go.Proofs.YtciibogkfbicfaaGreatDoor.Sp
open Go.RowKit
/-- of what was there nothing has turned, save in the blocks s -/
structure Upd (w w' : World) (s : List Nat) : Prop where
 os : w'.os = w.os
 tape : w'.tape = w.tape
 output : w'.output = w.output
 size : w.heap.size ≤ w'.heap.size
 block : ∀ k, k < w.heap.size → k ∉ s → w'.heap[k]? = w.heap[k]?
theorem Upd.refl (w : World) (s : List Nat) : Upd w w s := ⟨rfl, rfl, rfl, Nat.le_refl _, fun _ _ _ => rfl⟩
theorem Upd.trans {a b c : World} {s t : List Nat} (h : Upd a b s) (k : Upd b c t) (ht : ∀ x ∈ t, x ∈ s ∨ a.heap.size ≤ x) : Upd a c s :=
 ⟨k.os.trans h.os, k.tape.trans h.tape, k.output.trans h.output, Nat.le_trans h.size k.size, fun x hx hs => by
  rw [k.block x (Nat.lt_of_lt_of_le hx h.size) (fun hxt => by rcases ht x hxt with h1 | h1; exact hs h1; omega)]
  exact h.block x hx hs⟩
theorem Upd.of_below {w w' : World} (h : Below w.heap.size w w') : Upd w w' [] := ⟨h.os, h.tape, h.output, h.size, fun k hk _ => h.block k hk⟩
theorem Upd.below {w w' : World} (h : Upd w w' []) : Below w.heap.size w w' := ⟨h.os, h.tape, h.output, h.size, fun k hk => h.block k hk (by simp)⟩
theorem Upd.of_grown {w w' : World} {row : Option Nat} (h : w.grownBy w' row) : Upd w w' row.toList :=
 ⟨h.os, h.tape, h.output, h.size, fun k hk hs => h.block k hk (fun e => hs (by rw [← e]; simp))⟩
theorem Upd.of_grown1 {w w' : World} {b : Nat} (h : w.grownBy w' (some b)) : Upd w w' [b] := Upd.of_grown h
theorem Upd.grown1 {w w' : World} {b : Nat} (h : Upd w w' [b]) : w.grownBy w' (some b) := ⟨h.os, h.tape, h.output, h.size, fun k hk hs => h.block k hk (by intro e; exact hs (by simpa using e))⟩
/-- a piece: what it says of the world, and the blocks that it stands in -/
structure Asn where
 at_ : World → List Nat → Prop
 nd : ∀ {w s}, at_ w s → s.Nodup
 lt : ∀ {w s}, at_ w s → ∀ k ∈ s, k < w.heap.size
 keep : ∀ {w w' : World} {s}, at_ w s → (∀ k ∈ s, w'.heap[k]? = w.heap[k]?) → at_ w' s
def Holds (w : World) : List Asn → List (List Nat) → Prop
 | [], [] => True
 | P :: L, s :: ss => P.at_ w s ∧ Holds w L ss
 | _, _ => False
theorem Holds.get {w : World} : ∀ {L : List Asn} {ss : List (List Nat)}, Holds w L ss → ∀ {i : Nat} {P : Asn}, L[i]? = some P → ∃ s, ss[i]? = some s ∧ P.at_ w s
 | [], [], _, i, P, hi => by simp at hi
 | P :: L, s :: ss, h, 0, Q, hi => by simp at hi; subst hi; exact ⟨s, rfl, h.1⟩
 | P :: L, s :: ss, h, i + 1, Q, hi => by obtain ⟨t, ht, hQ⟩ := Holds.get h.2 (i := i) (by simpa using hi); exact ⟨t, by simpa using ht, hQ⟩
 | [], _ :: _, h, _, _, _ => by cases h
 | _ :: _, [], h, _, _, _ => by cases h
theorem Holds.keep {w w' : World} : ∀ {L : List Asn} {ss : List (List Nat)}, Holds w L ss → (∀ k ∈ ss.flatten, w'.heap[k]? = w.heap[k]?) → Holds w' L ss
 | [], [], _, _ => trivial
 | P :: L, s :: ss, h, hk => ⟨P.keep h.1 (fun k hs => hk k (by simp [hs])), Holds.keep h.2 (fun k hs => hk k (by rw [List.flatten_cons]; exact List.mem_append_right _ hs))⟩
 | [], _ :: _, h, _ => by cases h
 | _ :: _, [], h, _ => by cases h
theorem Holds.lt {w : World} : ∀ {L : List Asn} {ss : List (List Nat)}, Holds w L ss → ∀ k ∈ ss.flatten, k < w.heap.size
 | [], [], _, k, hk => by simp at hk
 | P :: L, s :: ss, h, k, hk => by
  rw [List.flatten_cons, List.mem_append] at hk
  rcases hk with hk | hk
  · exact P.lt h.1 k hk
  · exact Holds.lt h.2 k hk
 | [], _ :: _, h, _, _ => by cases h
 | _ :: _, [], h, _, _ => by cases h
theorem Holds.append {w : World} : ∀ {L M : List Asn} {ss tt : List (List Nat)}, Holds w L ss → Holds w M tt → Holds w (L ++ M) (ss ++ tt)
 | [], _, [], _, _, h => h
 | _ :: _, _, _ :: _, _, h, k => ⟨h.1, Holds.append h.2 k⟩
 | [], _, _ :: _, _, h, _ => by cases h
 | _ :: _, _, [], _, h, _ => by cases h
theorem Holds.set {w w' : World} {Q : Asn} {t : List Nat} (hQ : Q.at_ w' t) : ∀ {L : List Asn} {ss : List (List Nat)}, Holds w L ss → ∀ {i : Nat} {s : List Nat}, ss[i]? = some s → ss.flatten.Nodup → (∀ k ∈ ss.flatten, k ∉ s → w'.heap[k]? = w.heap[k]?) → Holds w' (L.set i Q) (ss.set i t)
 | [], [], _, i, s, hi, _, _ => by simp at hi
 | P :: L, s :: ss, h, 0, s', hi, hn, hk => by
  simp at hi; subst hi
  rw [List.flatten_cons, List.nodup_append] at hn
  exact ⟨hQ, Holds.keep h.2 (fun k hs => hk k (by rw [List.flatten_cons]; exact List.mem_append_right _ hs) (fun h1 => hn.2.2 k h1 k hs rfl))⟩
 | P :: L, s :: ss, h, i + 1, s', hi, hn, hk => by
  rw [List.flatten_cons, List.nodup_append] at hn
  have hi' : ss[i]? = some s' := by simpa using hi
  refine ⟨P.keep h.1 (fun k hs => hk k (by simp [hs]) (fun h1 => hn.2.2 k hs k ?_ rfl)), Holds.set hQ h.2 hi' hn.2.1 (fun k hs => hk k (by rw [List.flatten_cons]; exact List.mem_append_right _ hs))⟩
  exact List.mem_flatten.2 ⟨s', List.mem_of_getElem? hi', h1⟩
 | [], _ :: _, h, _, _, _, _, _ => by cases h
 | _ :: _, [], h, _, _, _, _, _ => by cases h
theorem flat_set_mem {ss : List (List Nat)} {i : Nat} {t : List Nat} {k : Nat} (h : k ∈ (ss.set i t).flatten) : k ∈ t ∨ k ∈ ss.flatten := by
 obtain ⟨u, hu, hk⟩ := List.mem_flatten.1 h
 rcases List.mem_or_eq_of_mem_set hu with h1 | h1
 · exact .inr (List.mem_flatten.2 ⟨u, h1, hk⟩)
 · subst h1; exact .inl hk
theorem flat_set_nodup {t : List Nat} (ht : t.Nodup) : ∀ {ss : List (List Nat)} {i : Nat} {s : List Nat}, ss[i]? = some s → ss.flatten.Nodup → (∀ k ∈ t, k ∈ s ∨ k ∉ ss.flatten) → (ss.set i t).flatten.Nodup
 | [], i, s, hi, _, _ => by simp at hi
 | s :: ss, 0, s', hi, hn, hk => by
  simp at hi; subst hi
  rw [List.flatten_cons, List.nodup_append] at hn
  simp only [List.set_cons_zero, List.flatten_cons]
  rw [List.nodup_append]
  refine ⟨ht, hn.2.1, fun a ha b hb e => ?_⟩
  subst e
  rcases hk a ha with h1 | h1
  · exact hn.2.2 a h1 a hb rfl
  · exact h1 (by rw [List.flatten_cons]; exact List.mem_append_right _ hb)
 | s :: ss, i + 1, s', hi, hn, hk => by
  have hi' : ss[i]? = some s' := by simpa using hi
  rw [List.flatten_cons, List.nodup_append] at hn
  simp only [List.set_cons_succ, List.flatten_cons]
  rw [List.nodup_append]
  refine ⟨hn.1, flat_set_nodup ht hi' hn.2.1 (fun k hkt => ?_), fun a ha b hb e => ?_⟩
  · rcases hk k hkt with h1 | h1
    · exact .inl h1
    · exact .inr (fun h2 => h1 (by rw [List.flatten_cons]; exact List.mem_append_right _ h2))
  · subst e
    rcases flat_set_mem hb with h1 | h1
    · rcases hk a h1 with h2 | h2
      · exact hn.2.2 a ha a (List.mem_flatten.2 ⟨s', List.mem_of_getElem? hi', h2⟩) rfl
      · exact h2 (by rw [List.flatten_cons]; exact List.mem_append_left _ ha)
    · exact hn.2.2 a ha a h1 rfl
/-- from w0 on only the blocks s0 and new ones were written; w holds the pieces L, apart, in such blocks -/
structure Mem (w0 : World) (s0 : List Nat) (w : World) (L : List Asn) : Prop where
 upd : Upd w0 w s0
 ex : ∃ ss, Holds w L ss ∧ ss.flatten.Nodup ∧ ∀ k ∈ ss.flatten, k ∈ s0 ∨ w0.heap.size ≤ k
theorem Mem.enter {w : World} {s : List Nat} {P : Asn} (h : P.at_ w s) : Mem w s w [P] := ⟨Upd.refl w s, [s], ⟨h, trivial⟩, by simpa using P.nd h, fun k hk => .inl (by simpa using hk)⟩
theorem Mem.bel {w0 w : World} {L : List Asn} (h : Mem w0 [] w L) : Below w0.heap.size w0 w := h.upd.below
theorem Mem.size {w0 w : World} {s0 : List Nat} {L : List Asn} (h : Mem w0 s0 w L) : w0.heap.size ≤ w.heap.size := h.upd.size
theorem Mem.get {w0 w : World} {s0 : List Nat} {L : List Asn} (h : Mem w0 s0 w L) (i : Nat) {P : Asn} (hi : L[i]? = some P) : ∃ s, P.at_ w s ∧ ∀ k ∈ s, k ∈ s0 ∨ w0.heap.size ≤ k := by
 obtain ⟨ss, hH, _, hs⟩ := h.ex
 obtain ⟨s, hsi, hP⟩ := hH.get hi
 exact ⟨s, hP, fun k hk => hs k (List.mem_flatten.2 ⟨s, List.mem_of_getElem? hsi, hk⟩)⟩
theorem Mem.below {w0 w w' : World} {s0 : List Nat} {L : List Asn} (h : Mem w0 s0 w L) (hb : Below w.heap.size w w') : Mem w0 s0 w' L := by
 obtain ⟨ss, hH, hn, hs⟩ := h.ex
 exact ⟨h.upd.trans (Upd.of_below hb) (by simp), ss, hH.keep (fun k hk => hb.block k (hH.lt k hk)), hn, hs⟩
/-- a call that made pieces of its own -/
theorem Mem.call0 {w0 w w' : World} {s0 : List Nat} {L N : List Asn} (h : Mem w0 s0 w L) (hc : Mem w [] w' N) : Mem w0 s0 w' (L ++ N) := by
 obtain ⟨ss, hH, hn, hs⟩ := h.ex
 obtain ⟨tt, hT, hm, ht⟩ := hc.ex
 have hlt := hH.lt
 have hge : ∀ k ∈ tt.flatten, w.heap.size ≤ k := fun k hk => by
  rcases ht k hk with h1 | h1
  · simp at h1
  · exact h1
 refine ⟨h.upd.trans hc.upd (by simp), ss ++ tt, (hH.keep (fun k hk => hc.bel.block k (hlt k hk))).append hT, ?_, ?_⟩
 · rw [List.flatten_append, List.nodup_append]
   exact ⟨hn, hm, fun a ha b hb e => by subst e; have := hlt a ha; have := hge a hb; omega⟩
 · intro k hk
   rw [List.flatten_append, List.mem_append] at hk
   rcases hk with hk | hk
   · exact hs k hk
   · exact .inr (Nat.le_trans h.size (hge k hk))
theorem flat_set_out {t : List Nat} {k : Nat} : ∀ {ss : List (List Nat)} {i : Nat} {s : List Nat}, ss[i]? = some s → ss.flatten.Nodup → k ∈ (ss.set i t).flatten → k ∈ t ∨ (k ∈ ss.flatten ∧ k ∉ s)
 | [], i, s, hi, _, _ => by simp at hi
 | s :: ss, 0, s', hi, hn, hk => by
  simp at hi; subst hi
  rw [List.flatten_cons, List.nodup_append] at hn
  rw [List.set_cons_zero, List.flatten_cons, List.mem_append] at hk
  rcases hk with h1 | h1
  · exact .inl h1
  · exact .inr ⟨by rw [List.flatten_cons]; exact List.mem_append_right _ h1, fun h2 => hn.2.2 k h2 k h1 rfl⟩
 | s :: ss, i + 1, s', hi, hn, hk => by
  have hi' : ss[i]? = some s' := by simpa using hi
  rw [List.flatten_cons, List.nodup_append] at hn
  rw [List.set_cons_succ, List.flatten_cons, List.mem_append] at hk
  rcases hk with h1 | h1
  · exact .inr ⟨by rw [List.flatten_cons]; exact List.mem_append_left _ h1, fun h2 => hn.2.2 k h1 k (List.mem_flatten.2 ⟨s', List.mem_of_getElem? hi', h2⟩) rfl⟩
  · rcases flat_set_out hi' hn.2.1 h1 with h2 | h2
    · exact .inl h2
    · exact .inr ⟨by rw [List.flatten_cons]; exact List.mem_append_right _ h2.1, h2.2⟩
/-- one piece, handed to what writes in its blocks alone -/
theorem Mem.at_ {w0 w : World} {s0 : List Nat} {L : List Asn} (h : Mem w0 s0 w L) (i : Nat) {P : Asn} (hi : L[i]? = some P) :
 ∃ s, P.at_ w s ∧ ∀ {w' : World} {Q : Asn} {N : List Asn}, Mem w s w' (Q :: N) → Mem w0 s0 w' (L.set i Q ++ N) := by
 obtain ⟨ss, hH, hn, hs⟩ := h.ex
 obtain ⟨s, hsi, hP⟩ := hH.get hi
 have hlt := hH.lt
 have hmem : ∀ k ∈ s, k ∈ ss.flatten := fun k hk => List.mem_flatten.2 ⟨s, List.mem_of_getElem? hsi, hk⟩
 refine ⟨s, hP, fun {w' Q N} hc => ?_⟩
 obtain ⟨tt, hT, hm, ht⟩ := hc.ex
 cases tt with
 | nil => cases hT
 | cons t tt =>
  rw [List.flatten_cons, List.nodup_append] at hm
  have htin : ∀ k ∈ t, k ∈ s ∨ w.heap.size ≤ k := fun k hk => ht k (by rw [List.flatten_cons]; exact List.mem_append_left _ hk)
  have httin : ∀ k ∈ tt.flatten, k ∈ s ∨ w.heap.size ≤ k := fun k hk => ht k (by rw [List.flatten_cons]; exact List.mem_append_right _ hk)
  refine ⟨h.upd.trans hc.upd (fun k hk => hs k (hmem k hk)), ss.set i t ++ tt, (hH.set hT.1 hsi hn (fun k hk hns => hc.upd.block k (hlt k hk) hns)).append hT.2, ?_, ?_⟩
  · rw [List.flatten_append, List.nodup_append]
    refine ⟨flat_set_nodup hm.1 hsi hn (fun k hk => ?_), hm.2.1, fun a ha b hb e => ?_⟩
    · rcases htin k hk with h1 | h1
      · exact .inl h1
      · exact .inr (fun h2 => by have := hlt k h2; omega)
    · subst e
      rcases flat_set_out hsi hn ha with h1 | h1
      · exact hm.2.2 a h1 a hb rfl
      · rcases httin a hb with h2 | h2
        · exact h1.2 h2
        · have := hlt a h1.1; omega
  · intro k hk
    rw [List.flatten_append, List.mem_append] at hk
    have up : k ∈ s ∨ w.heap.size ≤ k → k ∈ s0 ∨ w0.heap.size ≤ k := fun h1 => by
     rcases h1 with h1 | h1
     · exact hs k (hmem k h1)
     · exact .inr (Nat.le_trans h.size h1)
    rcases hk with hk | hk
    · rcases flat_set_out hsi hn hk with h1 | h1
      · exact up (htin k h1)
      · exact hs k h1.1
    · exact up (httin k hk)
theorem Mem.set1 {w0 w : World} {s0 : List Nat} {L : List Asn} (h : Mem w0 s0 w L) (i : Nat) {P : Asn} (hi : L[i]? = some P) :
 ∃ s, P.at_ w s ∧ ∀ {w' : World} {Q : Asn}, Mem w s w' [Q] → Mem w0 s0 w' (L.set i Q) := by
 obtain ⟨s, hP, hK⟩ := h.at_ i hi
 exact ⟨s, hP, fun {w' Q} hc => by simpa using hK hc⟩
/-- a piece is let go -/
theorem Mem.drop {w0 w : World} {s0 : List Nat} {P : Asn} {L : List Asn} (h : Mem w0 s0 w (P :: L)) : Mem w0 s0 w L := by
 obtain ⟨ss, hH, hn, hs⟩ := h.ex
 cases ss with
 | nil => cases hH
 | cons s ss =>
  rw [List.flatten_cons, List.nodup_append] at hn
  exact ⟨h.upd, ss, hH.2, hn.2.1, fun k hk => hs k (by rw [List.flatten_cons]; exact List.mem_append_right _ hk)⟩
/-- a piece under a quantifier -/
def ex {α : Type} (P : α → Asn) : Asn where
 at_ w s := ∃ x, (P x).at_ w s
 nd := by rintro w s ⟨x, h⟩; exact (P x).nd h
 lt := by rintro w s ⟨x, h⟩; exact (P x).lt h
 keep := by rintro w w' s ⟨x, h⟩ hk; exact ⟨x, (P x).keep h hk⟩
/-- block b is the row cs -/
def blk (b T : Nat) (cs : Array Value) : Asn where
 at_ w s := s = [b] ∧ Rg.Blk w b T cs
 nd := by rintro _ _ ⟨rfl, _⟩; simp
 lt := by rintro _ _ ⟨rfl, h⟩ k hk; simp at hk; subst hk; exact h.lt
 keep := by rintro w w' _ ⟨rfl, h⟩ hk; exact ⟨rfl, by unfold Rg.Blk; rw [hk b (by simp)]; exact h⟩
theorem ownsRow_keep {w w' : World} {B : Nat} {E size : Nat} {v : Value} {n : Nat} {xs : List Value} (h : w.ownsRow B E size v n xs) (hk : ∀ k, v.ownBlock = some k → w'.heap[k]? = w.heap[k]?) : w'.ownsRow B E size v n xs := by
 refine ⟨h.1, ?_⟩
 rcases h.2 with h0 | ⟨g, cap, cur, hv, hb, hg, rest⟩
 · exact .inl h0
 · exact .inr ⟨g, cap, cur, hv, hb, (hk g (by rw [hv]; rfl)).trans hg, rest⟩
/-- v is a slice of n elements of size cells, xs, in a block of its own -/
def ownR (E size : Nat) (v : Value) (n : Nat) (xs : List Value) : Asn where
 at_ w s := s = v.ownBlock.toList ∧ w.ownsRow 0 E size v n xs
 nd := by rintro _ _ ⟨rfl, _⟩; cases v.ownBlock <;> simp
 lt := by rintro w _ ⟨rfl, h⟩ k hk; exact (World.ownsRow.lt h k (by simpa using hk)).2
 keep := by rintro w w' _ ⟨rfl, h⟩ hk; exact ⟨rfl, ownsRow_keep h (fun k hk' => hk k (by rw [hk']; simp))⟩
/-- v is a slice that holds xs, in a block of its own -/
def own (E : TypeId) (v : Value) (xs : List Value) : Asn := ownR E 1 v xs.length xs
section
variable {w0 w w' : World} {s0 : List Nat} {L : List Asn}
theorem Mem.blk (h : Mem w0 s0 w L) (i : Nat) {b T : Nat} {cs : Array Value} (hi : L[i]? = some (blk b T cs)) : Rg.Blk w b T cs := by
 obtain ⟨s, hP, _⟩ := h.get i hi
 exact hP.2
theorem Mem.own (h : Mem w0 s0 w L) (i : Nat) {E : Nat} {v : Value} {xs : List Value} (hi : L[i]? = some (own E v xs)) : Ow.Owns w 0 E v xs := by
 obtain ⟨s, hP, _⟩ := h.get i hi
 exact hP.2
/-- a new block -/
theorem Mem.alloc (h : Mem w0 s0 w L) (cs : Array Value) (T : Nat) : Mem w0 s0 (w.alloc (.cells cs T)) (L ++ [Sp.blk w.heap.size T cs]) :=
 h.call0 ⟨Upd.of_below ((Below.refl _ _).alloc (Nat.le_refl _) _), [[w.heap.size]], ⟨⟨rfl, Rg.Blk.new w _ _⟩, trivial⟩, by simp, by simp⟩
theorem Mem.drew (h : Mem w0 s0 w L) : Mem w0 s0 w.drew L := h.below (Below.drew (Below.refl _ _))
/-- block b was written -/
theorem Mem.store (h : Mem w0 s0 w L) (i : Nat) {b T T' : Nat} {cs cs' : Array Value} (hi : L[i]? = some (Sp.blk b T cs)) (hb : Rg.Blk w' b T' cs') (hg : w.grownBy w' (some b)) : Mem w0 s0 w' (L.set i (Sp.blk b T' cs')) := by
 obtain ⟨s, ⟨rfl, _⟩, hK⟩ := h.set1 i hi
 exact hK ⟨Upd.of_grown1 hg, [[b]], ⟨⟨rfl, hb⟩, trivial⟩, by simp, by simp⟩
end
/-- V is als w, save in the blocks from a to b -/
structure Out (a b : Nat) (w V : World) : Prop where
 size : w.heap.size ≤ V.heap.size
 keep : ∀ k, k < w.heap.size → (k < a ∨ b ≤ k) → V.heap[k]? = w.heap[k]?
theorem Out.refl (a b : Nat) (w : World) : Out a b w w := ⟨Nat.le_refl _, fun _ _ _ => rfl⟩
theorem Out.below {a b : Nat} {w V V' : World} (h : Out a b w V) (hb : Below V.heap.size V V') : Out a b w V' :=
 ⟨Nat.le_trans h.size hb.size, fun k hk ho => (hb.block k (Nat.lt_of_lt_of_le hk h.size)).trans (h.keep k hk ho)⟩
theorem Out.grown {a b g : Nat} {w V V' : World} (h : Out a b w V) (hb : V.grownBy V' (some g)) (hg : a ≤ g) (hg2 : g < b) : Out a b w V' :=
 ⟨Nat.le_trans h.size hb.size, fun k hk ho => (hb.block k (Nat.lt_of_lt_of_le hk h.size) (fun e => by injection e with e; omega)).trans (h.keep k hk ho)⟩
end Go.Proofs.YtciibogkfbicfaaGreatDoor.Sp
namespace Go.Proofs.YtciibogkfbicfaaGreatDoor.RL
open Go.RowKit
section
variable {P : Program} {md : Region.Mode} {ops : Array Oper} {Q : Exit → Act → World → Prop} {S : World → Prop}
theorem tv (i : Nat) {oi : Oper} {v : Value} {fuel : Nat} {listed : Array Bool} {a : Act} {w : World} (hv : ∀ w, S w → (execOp a.eval oi).run P w = .ok (.value v) w)
    (h : H P md ops Q S w fuel (listed.setIfInBounds i true) (a.put oi.dst v)) (hi : ops.toList[i]? = some oi := by rfl)
    (hB : (Region.noSelect ops && (Region.free md ops listed i && (Region.ready md ops listed).contains i)) = true := by kernel_rfl)
    (hQ : ∀ c a w, Q (.panic c) (a.put oi.dst v) w → Q (.panic c) a w := by exact fun _ _ _ h => h) (hw : Region.wanted oi (yielded ops a.tmps) = true := by rfl) : H P md ops Q S w (fuel + 1) listed a := by
  rw [Bool.and_eq_true, Bool.and_eq_true] at hB
  exact takeV hi hB.1 hB.2.1 hB.2.2 hQ hw hv h
theorem tu (i : Nat) {oi : Oper} {v : Value} {fuel : Nat} {listed : Array Bool} {a : Act} {w : World}
    (h : H P md ops Q S w fuel (listed.setIfInBounds i true) (a.put oi.dst v)) (hi : ops.toList[i]? = some oi := by rfl) (hv : ∀ w, S w → (execOp a.eval oi).run P w = .ok (.value v) w := by (intro W hSW; go_simp; try with_reducible rfl))
    (hB : (Region.noSelect ops && (Region.free md ops listed i && (Region.ready md ops listed).contains i)) = true := by kernel_rfl)
    (hQ : ∀ c a w, Q (.panic c) (a.put oi.dst v) w → Q (.panic c) a w := by exact fun _ _ _ h => h) (hw : Region.wanted oi (yielded ops a.tmps) = true := by rfl) : H P md ops Q S w (fuel + 1) listed a := by
  rw [Bool.and_eq_true, Bool.and_eq_true] at hB
  exact takeV hi hB.1 hB.2.1 hB.2.2 hQ hw hv h
theorem tw (i : Nat) {oi : Oper} {v : Value} {fuel : Nat} {listed : Array Bool} {a : Act} {w : World} (hi : ops.toList[i]? = some oi) (hv : ∀ w, S w → (execOp a.eval oi).run P w = .ok (.value v) w)
    (h : H P md ops Q S w fuel (listed.setIfInBounds i true) (a.put oi.dst v))
    (hB : (Region.noSelect ops && (Region.free md ops listed i && (Region.ready md ops listed).contains i)) = true := by kernel_rfl)
    (hQ : ∀ c a w, Q (.panic c) (a.put oi.dst v) w → Q (.panic c) a w := by exact fun _ _ _ h => h) (hw : Region.wanted oi (yielded ops a.tmps) = true := by rfl) : H P md ops Q S w (fuel + 1) listed a := by
  rw [Bool.and_eq_true, Bool.and_eq_true] at hB
  exact takeV hi hB.1 hB.2.1 hB.2.2 hQ hw hv h
theorem tU (i : Nat) {oi : Oper} {fuel : Nat} {listed : Array Bool} {a : Act} {w : World}
    (h : H P md ops Q S w fuel (listed.setIfInBounds i true) (a.put oi.dst undef)) (hi : ops.toList[i]? = some oi := by rfl)
    (hB : (Region.noSelect ops && (Region.free md ops listed i && (Region.ready md ops listed).contains i)) = true := by kernel_rfl)
    (hQ : ∀ c a w, Q (.panic c) (a.put oi.dst undef) w → Q (.panic c) a w := by exact fun _ _ _ h => h) (hw : Region.wanted oi (yielded ops a.tmps) = false := by rfl) : H P md ops Q S w (fuel + 1) listed a := by
  rw [Bool.and_eq_true, Bool.and_eq_true] at hB
  exact takeU hi hB.1 hB.2.1 hB.2.2 hQ hw h
theorem td (i : Nat) {oi : Oper} {v : Value} {fuel : Nat} {listed : Array Bool} {a : Act} {w : World} (f : FuncId) (args : Array Value)
    (hc : ∀ w, S w → Calls P f args w fun e w' => e = .returned v ∧ Lat w w' ∧ S w')
    (h : H P md ops Q S w fuel (listed.setIfInBounds i true) (a.put oi.dst v)) (hi : ops.toList[i]? = some oi := by rfl)
    (hv : ∀ w, (execOp a.eval oi).run P w = .ok (.enter f args) w := by (intro W; go_simp; try with_reducible rfl))
    (hB : (Region.noSelect ops && (Region.free md ops listed i && (Region.ready md ops listed).contains i)) = true := by kernel_rfl)
    (hQ : ∀ c a w, Q (.panic c) (a.put oi.dst v) w → Q (.panic c) a w := by exact fun _ _ _ h => h) (hw : Region.wanted oi (yielded ops a.tmps) = true := by rfl) : H P md ops Q S w (fuel + 1) listed a := by
  rw [Bool.and_eq_true, Bool.and_eq_true] at hB
  exact takeC f args hi hB.1 hB.2.1 hB.2.2 hQ hw hv hc h
theorem tc (i : Nat) {oi : Oper} {v : Value} {fuel : Nat} {listed : Array Bool} {a : Act} {w : World} (f : FuncId) (args : Array Value) (hv : ∀ w, (execOp a.eval oi).run P w = .ok (.enter f args) w)
    (hc : ∀ w, S w → Calls P f args w fun e w' => e = .returned v ∧ Lat w w' ∧ S w')
    (h : H P md ops Q S w fuel (listed.setIfInBounds i true) (a.put oi.dst v)) (hi : ops.toList[i]? = some oi := by rfl)
    (hB : (Region.noSelect ops && (Region.free md ops listed i && (Region.ready md ops listed).contains i)) = true := by kernel_rfl)
    (hQ : ∀ c a w, Q (.panic c) (a.put oi.dst v) w → Q (.panic c) a w := by exact fun _ _ _ h => h) (hw : Region.wanted oi (yielded ops a.tmps) = true := by rfl) : H P md ops Q S w (fuel + 1) listed a := by
  rw [Bool.and_eq_true, Bool.and_eq_true] at hB
  exact takeC f args hi hB.1 hB.2.1 hB.2.2 hQ hw hv hc h
theorem sk (i : Nat) {o : Oper} {fuel : Nat} {listed : Array Bool} {a : Act} {w : World} (h : ∀ w', Lat w w' → S w' → ∀ K : Act → World → Prop, Shut (∀ a' w'', S w'' → H P md ops Q S w'' fuel (listed.setIfInBounds i true) a' → K a' w'') → Oper.wp P o a w' K Q)
    (ho : ops.toList[i]? = some o := by rfl) (hr : Region.ready md ops listed = [i] := by kernel_rfl) (hw : Region.wanted o (yielded ops a.tmps) = true := by rfl) : H P md ops Q S w (fuel + 1) listed a := stepK ho hr hw h
end
end Go.Proofs.YtciibogkfbicfaaGreatDoor.RL
namespace Go.Proofs.YtciibogkfbicfaaGreatDoor.RT
open Go.RowKit
theorem tu (i : Nat) {P : Program} {md : Region.Mode} {ops : Array Oper} {Q : Exit → Act → World → Prop} {S : World → Prop} {n g : Nat} {oi : Oper} {v : Value} {fuel : Nat} {listed : Array Bool} {a : Act} {w : World}
    (h : H P md ops Q S n g w fuel (listed.setIfInBounds i true) (a.put oi.dst v)) (hi : ops.toList[i]? = some oi := by rfl) (hv : ∀ w, S w → (execOp a.eval oi).run P w = .ok (.value v) w := by (intro W hSW; go_simp; try with_reducible rfl))
    (hB : (Region.noSelect ops && (Region.free md ops listed i && (Region.ready md ops listed).contains i)) = true := by kernel_rfl) (hin : i < n := by decide)
    (hQ : ∀ c a w, Q (.panic c) (a.put oi.dst v) w → Q (.panic c) a w := by exact fun _ _ _ h => h) (hw : Region.wanted oi (yielded ops a.tmps) = true := by rfl) : H P md ops Q S n g w (fuel + 1) listed a := by
  rw [Bool.and_eq_true, Bool.and_eq_true] at hB
  exact takeV hi hB.1 hB.2.1 hB.2.2 hin hQ hw hv h
theorem tv (i : Nat) {P : Program} {md : Region.Mode} {ops : Array Oper} {Q : Exit → Act → World → Prop} {S : World → Prop} {n g : Nat} {oi : Oper} {v : Value} {fuel : Nat} {listed : Array Bool} {a : Act} {w : World} (hv : ∀ w, S w → (execOp a.eval oi).run P w = .ok (.value v) w)
    (h : H P md ops Q S n g w fuel (listed.setIfInBounds i true) (a.put oi.dst v)) (hi : ops.toList[i]? = some oi := by rfl)
    (hB : (Region.noSelect ops && (Region.free md ops listed i && (Region.ready md ops listed).contains i)) = true := by kernel_rfl) (hin : i < n := by decide)
    (hQ : ∀ c a w, Q (.panic c) (a.put oi.dst v) w → Q (.panic c) a w := by exact fun _ _ _ h => h) (hw : Region.wanted oi (yielded ops a.tmps) = true := by rfl) : H P md ops Q S n g w (fuel + 1) listed a := by
  rw [Bool.and_eq_true, Bool.and_eq_true] at hB
  exact takeV hi hB.1 hB.2.1 hB.2.2 hin hQ hw hv h
end Go.Proofs.YtciibogkfbicfaaGreatDoor.RT
namespace Go.Proofs.YtciibogkfbicfaaGreatDoor
open Go.RowKit
theorem ϕ {p : Prop} (h : p) : RowKit.Hid p := h
theorem tm {w w1 w2 : World} (h : RowKit.Hid (Below w.heap.size w w1)) (hb : Below w1.heap.size w1 w2) : RowKit.Hid (Below w.heap.size w w2) := h.out.trans (hb.mono h.out.size)
theorem bl {w w1 : World} {b T : Nat} {cs : Array Value} (h : RowKit.Hid (Rg.Blk w b T cs)) (hb : Below w.heap.size w w1) : RowKit.Hid (Rg.Blk w1 b T cs) := h.out.below hb h.out.lt
theorem tn {B : Nat} {w w1 w2 : World} (h : RowKit.Hid (Below B w w1)) (hX : RowKit.Hid (w.heap.size = B)) (hb : Below w1.heap.size w1 w2) : RowKit.Hid (Below B w w2) := h.out.trans (hb.mono (hX.out ▸ h.out.size))
theorem lxA {ops : Array Oper} {rest : List Oper} {o : Oper} {a : Act} {w : World} {Q : Exit → Act → World → Prop} {b off : Nat} {x : Operand} (cs : Array Value) (hc : ∀ j v, cs[j]? = some v → w.cell? ⟨b, off + j, none⟩ = some v) (h : wpList prog ops Q rest (a.put o.dst (.agg cs)) w) (hgd : o.guard = none := by rfl) (ho : o.op = .load 76 x := by rfl)
    (hx : a.eval x = .pointer (some ⟨b, off, none⟩) := by rfl) (hi : (prog.info? 76).map (·.size) = some cs.size := by kernel_rfl) : wpList prog ops Q (o :: rest) a w := Cv.qi_ hgd 76 x ho b off hx cs _ hc underlying76 rfl hi h
theorem lcA {ops : Array Oper} {rest : List Oper} {o : Oper} {a : Act} {w : World} {Q : Exit → Act → World → Prop} {b t : Nat} {x : Operand} (cs : Array Value) (H : Rg.Blk w b t cs) (h : wpList prog ops Q rest (a.put o.dst (.agg cs)) w) (hgd : o.guard = none := by rfl) (ho : o.op = .load 76 x := by rfl)
    (hx : a.eval x = .pointer (some ⟨b, 0, none⟩) := by rfl) (hi : (prog.info? 76).map (·.size) = some cs.size := by (rw [ql_]; kernel_rfl)) : wpList prog ops Q (o :: rest) a w :=
  Cv.qi_ hgd 76 x ho b 0 hx cs _ (fun j v hv => by rw [Nat.zero_add]; exact Rg.Blk.cell H j hv) underlying76 rfl hi h
theorem scA {ops : Array Oper} {rest : List Oper} {o : Oper} {a : Act} {w : World} {Q : Exit → Act → World → Prop} {b : Nat} {x y : Operand} (cs old : Array Value) (hB : Rg.Blk w b 76 old) (hold : old.size = cs.size) (h : ∀ X, Rg.Blk X b 76 cs → w.grownBy X (some b) → wpList prog ops Q rest (a.put o.dst undef) X) (hgd : o.guard = none := by rfl) (ho : o.op = .store 76 x y := by rfl)
    (hx : a.eval x = .pointer (some ⟨b, 0, none⟩) := by rfl) (hy : a.eval y = .agg cs := by rfl) (hi : (prog.info? 76).map (·.size) = some cs.size := by (rw [ql_]; kernel_rfl)) (h1 : cs.all (·.oneCell') = true := by exact u64s_one _) : wpList prog ops Q (o :: rest) a w :=
  Cv.qs_ hgd 76 x y ho b cs old 76 hx hy hB hi hold h1 h
theorem bxA {P : Program} {ops : Array Oper} {rest : List Oper} {o : Oper} {a : Act} {w : World} {Q : Exit → Act → World → Prop} {x : Operand} (T : TypeId) (cs : Array Value) (h : ∀ X, RowKit.Hid (Rg.Blk X w.heap.size T cs) → RowKit.Hid (Below w.heap.size w X) → RowKit.Hid (X.heap.size = w.heap.size + 1) → wpList P ops Q rest (a.put o.dst (.pointer (some ⟨w.heap.size, 0, none⟩))) X)
    (hgd : o.guard = none := by rfl) (ho : o.op = .box T x := by rfl) (hx : a.eval x = .agg cs := by rfl) : wpList P ops Q (o :: rest) a w := Rg.qh_ hgd T x ho cs hx fun X a b c => h X a b c
abbrev z32 : Array Value := #[.int .u8 0, .int .u8 0, .int .u8 0, .int .u8 0, .int .u8 0, .int .u8 0, .int .u8 0, .int .u8 0, .int .u8 0, .int .u8 0, .int .u8 0, .int .u8 0, .int .u8 0, .int .u8 0, .int .u8 0, .int .u8 0, .int .u8 0, .int .u8 0, .int .u8 0, .int .u8 0, .int .u8 0, .int .u8 0, .int .u8 0, .int .u8 0, .int .u8 0, .int .u8 0, .int .u8 0, .int .u8 0, .int .u8 0, .int .u8 0, .int .u8 0, .int .u8 0]
abbrev z64 : Array Value := #[.int .u8 0, .int .u8 0, .int .u8 0, .int .u8 0, .int .u8 0, .int .u8 0, .int .u8 0, .int .u8 0, .int .u8 0, .int .u8 0, .int .u8 0, .int .u8 0, .int .u8 0, .int .u8 0, .int .u8 0, .int .u8 0, .int .u8 0, .int .u8 0, .int .u8 0, .int .u8 0, .int .u8 0, .int .u8 0, .int .u8 0, .int .u8 0, .int .u8 0, .int .u8 0, .int .u8 0, .int .u8 0, .int .u8 0, .int .u8 0, .int .u8 0, .int .u8 0, .int .u8 0, .int .u8 0, .int .u8 0, .int .u8 0, .int .u8 0, .int .u8 0, .int .u8 0, .int .u8 0, .int .u8 0, .int .u8 0, .int .u8 0, .int .u8 0, .int .u8 0, .int .u8 0, .int .u8 0, .int .u8 0, .int .u8 0, .int .u8 0, .int .u8 0, .int .u8 0, .int .u8 0, .int .u8 0, .int .u8 0, .int .u8 0, .int .u8 0, .int .u8 0, .int .u8 0, .int .u8 0, .int .u8 0, .int .u8 0, .int .u8 0, .int .u8 0]
abbrev z33 : Array Value := #[.int .u8 0, .int .u8 0, .int .u8 0, .int .u8 0, .int .u8 0, .int .u8 0, .int .u8 0, .int .u8 0, .int .u8 0, .int .u8 0, .int .u8 0, .int .u8 0, .int .u8 0, .int .u8 0, .int .u8 0, .int .u8 0, .int .u8 0, .int .u8 0, .int .u8 0, .int .u8 0, .int .u8 0, .int .u8 0, .int .u8 0, .int .u8 0, .int .u8 0, .int .u8 0, .int .u8 0, .int .u8 0, .int .u8 0, .int .u8 0, .int .u8 0, .int .u8 0, .string ⟨#[]⟩]
theorem exr {α : Sort _} {a : α} : ∃ x, a = x := ⟨a, rfl⟩
theorem exl {α : Sort _} {a : α} : ∃ x, x = a := ⟨a, rfl⟩
abbrev q20 : Array Value := #[.int .u64 0, .int .u64 0, .int .u64 0, .int .u64 0, .int .u64 0, .int .u64 0, .int .u64 0, .int .u64 0, .int .u64 0, .int .u64 0, .int .u64 0, .int .u64 0, .int .u64 0, .int .u64 0, .int .u64 0, .int .u64 0, .int .u64 0, .int .u64 0, .int .u64 0, .int .u64 0]
end Go.Proofs.YtciibogkfbicfaaGreatDoor
namespace Go.Proofs.YtciibogkfbicfaaGreatDoor.Bo
open Go.RowKit
theorem sizeB : (prog.info? 91).map (·.size) = some 2 := by kernel_rfl
theorem liesB : liesAt prog prog.depth 93 (2 / prog.cellsOf 93) 0 91 1 = true := by kernel_rfl
theorem infoByte : (prog.info? 5).map (fun i => (i.zero, i.size, i.bytes)) = some (some (.int .u8 0), 1, 1) := by kernel_rfl
set_option maxRecDepth 100000 in
theorem copyCheck_used (b : Nat) (w : World) (h0 : w.cell? ⟨b, 0, none⟩ = some (.pointer (some ⟨b, 0, none⟩))) :
 Calls prog 124 #[.pointer (some ⟨b, 0, none⟩)] w fun e w' => e = .returned (.tuple #[]) ∧ w' = w := by
 obtain ⟨j, hj, _⟩ := Option.map_eq_some_iff.1 sizeB
 go_enter func124, ntmps124
 go_wp2
 rw [Lib.run_neq_ptr_same w _ underlying89 hj]
 go_wp2
 go_end0
 exact ⟨rfl, rfl⟩
set_option maxRecDepth 100000 in
theorem copyCheck_fresh (b : Nat) (w : World) (h0 : w.cell? ⟨b, 0, none⟩ = some (.pointer none)) (hsh : w.shape? b = some (93, 2)) (hfz : w.frozen? ⟨b, 0, none⟩ = false) :
 Calls prog 124 #[.pointer (some ⟨b, 0, none⟩)] w fun e w' => e = .returned (.tuple #[]) ∧ w' = w.setCell ⟨b, 0, none⟩ (.pointer (some ⟨b, 0, none⟩)) := by
 obtain ⟨j, hj, hjs⟩ := Option.map_eq_some_iff.1 sizeB
 go_enter func124, ntmps124
 go_wp2
 rw [Lib.run_to_unsafe w ⟨b, 0, none⟩ underlying89 underlying232 hj (by rw [hjs]; decide) hsh (Nat.zero_lt_succ 1)]
 simp only [Result.andThen]
 rw [Oper.upon_value]
 go_wp2
 rw [run_callFunc_extern func148 (by kernel_rfl) (by kernel_rfl) (by kernel_rfl) (e := Extern.AbiNoEscape.same) (by kernel_rfl)]
 rw [Lib.run_noEscape]
 simp only [Result.andThen]
 rw [Oper.upon_value]
 go_wp2
 rw [Lib.run_from_unsafe w ⟨b, 0, none⟩ underlying232 underlying89 hj hsh liesB]
 simp only [Result.andThen]
 rw [Oper.upon_value]
 go_wp2
 go_end0
 exact ⟨rfl, rfl⟩
def KeptO (b : Nat) (w w' : World) : Prop := ∀ (k : Nat) cs T fz, w.heap[k]? = some (.cells cs T fz) → T ≠ 5 → k ≠ b → w'.heap[k]? = some (.cells cs T fz)
structure Calm (B b : Nat) (w w' : World) : Prop where
 below : Below B w w'
 kept : KeptO b w w'
namespace Calm
theorem refl (B b : Nat) (w : World) : Calm B b w w := ⟨Below.refl _ _, fun _ _ _ _ h _ _ => h⟩
theorem trans {B b : Nat} {w w' w'' : World} (h : Calm B b w w') (h' : Calm B b w' w'') : Calm B b w w'' := ⟨h.below.trans h'.below, fun k cs T fz hk hT hb => h'.kept k cs T fz (h.kept k cs T fz hk hT hb) hT hb⟩
theorem of {B b : Nat} {w w' : World} (h : Below w.heap.size w w') (hB : B ≤ w.heap.size) : Calm B b w w' := ⟨h.mono hB, fun k _ _ _ hk _ _ => (h.block k (Array.getElem?_eq_some_iff.1 hk).1).trans hk⟩
theorem size {B b : Nat} {w w' : World} (h : Calm B b w w') : w.heap.size ≤ w'.heap.size := h.below.size
theorem setCell {B b : Nat} (w : World) (hB : B ≤ b) (j : Nat) (v : Value) : Calm B b w (w.setCell ⟨b, j, none⟩ v) :=
 ⟨(Below.refl B w).setCell (p := ⟨b, j, none⟩) hB _, fun k cs T fz hk _ hb => by
  simp only [World.setCell, Array.getElem?_modify]
  rw [if_neg (fun e => hb e.symm)]; exact hk⟩
end Calm
theorem owns_u8 {w : World} {B n : Nat} {v : Value} {bs : List Value} (h : w.ownsRow B 5 1 v n bs) {g : Nat} (hg : v.ownBlock = some g) : ∃ cur fz, w.heap[g]? = some (.cells cur 5 fz) := by
 rcases h.2 with ⟨hv, _⟩ | ⟨g', cap, cur, hv, _, hh, _⟩
 · rw [hv] at hg; simp [Value.ownBlock] at hg
 · rw [hv] at hg
   simp [Value.ownBlock] at hg
   subst hg
   exact ⟨_, _, hh⟩
theorem Calm.grown {B b n : Nat} {w w1 w2 : World} {v : Value} {bs : List Value} (h : Calm B b w w1) (hg : w1.grownBy w2 v.ownBlock) (hB : B ≤ w1.heap.size) (ho : w1.ownsRow B 5 1 v n bs) : Calm B b w w2 :=
 ⟨h.below.grown hg hB (fun k hk => (ho.lt k hk).1), fun k cs T fz hk hT hb => by
  have h1 := h.kept k cs T fz hk hT hb
  refine (hg.block k (Array.getElem?_eq_some_iff.1 h1).1 ?_).trans h1
  intro e
  obtain ⟨cur, fz', hc⟩ := owns_u8 ho e.symm
  rw [h1] at hc
  simp only [Option.some.injEq, Obj.cells.injEq] at hc
  exact hT hc.2.1⟩
theorem copyCheck (B b : Nat) (bs : List Value) (w : World) (h : Lib.IsBuilder 93 5 B b bs w) :
 Calls prog 124 #[.pointer (some ⟨b, 0, none⟩)] w fun e w' => e = .returned (.tuple #[]) ∧ (Lib.BuilderAt 93 5 B b (.pointer (some ⟨b, 0, none⟩)) bs w' ∧ Calm B b w w') := by
 rcases h with h | h
 · refine (copyCheck_fresh b w h.cell0 h.shape h.frozen0).mono ?_
   rintro e w' ⟨rfl, rfl⟩
   exact ⟨rfl, h.used _, Calm.setCell w h.1 0 _⟩
 · refine (copyCheck_used b w h.cell0).mono ?_
   rintro e w' ⟨rfl, rfl⟩
   exact ⟨rfl, h, Calm.refl B b _⟩
set_option maxRecDepth 100000 in
theorem writeByte (B b : Nat) (bs : List Value) (c : Int) (w : World) (h : Lib.IsBuilder 93 5 B b bs w) (hlen : bs.length + 1 ≤ 140737488355328) (hBw : B ≤ w.heap.size) :
 Calls prog 84 #[.pointer (some ⟨b, 0, none⟩), .int .u8 c] w fun e w' => e = .returned .nilIface ∧ (Lib.BuilderAt 93 5 B b (.pointer (some ⟨b, 0, none⟩)) (bs ++ [.int .u8 c]) w' ∧ Calm B b w w') := by
 obtain ⟨i0, hi, hz0, hz1, hz2⟩ := info_parts infoByte
 go_enter func84, ntmps84
 go_wp2_with (go_at_call 124; refine (copyCheck B b bs _ h).mono ?_)
 rintro e w1 ⟨rfl, h1, hb1⟩
 obtain ⟨hB, v, hbk, hown, hne⟩ := h1
 have c0 : w1.cell? ⟨b, 0, none⟩ = some (.pointer (some ⟨b, 0, none⟩)) := by rw [Lib.cell_of_heap hbk]; rfl
 have c1 : w1.cell? ⟨b, 1, none⟩ = some v := by rw [Lib.cell_of_heap hbk]; rfl
 go_wp2_with (at_builtin; refine wpList_append_own _ rfl _ _ 28 rfl B 5 i0 (.int .u8 0) 1 1 underlying28 hi hz0 hz1 hz2 rfl (by decide) _ _ _ rfl (hown.alloc _) ⟨w1.heap.size, 0, none⟩ 1 1 [.int .u8 c] rfl rfl ?c1 ?c2 ?c3 ?c4 ?c5 ?_)
 case c1 =>
  intro j u hj
  match j, hj with
  | 0, hj => simp at hj; subst hj; simp [Addr.add]
 case c2 => intro u hu; simp at hu; subst hu; rfl
 case c3 => unfold maxLen; omega
 case c4 => omega
 case c5 => have := hb1.size; simp; omega
 intro v' w2 hown' hgrow _
 have hlt : b < w1.heap.size := by
  rcases Nat.lt_or_ge b w1.heap.size with h' | h'
  · exact h'
  · simp [Array.getElem?_eq_none h'] at hbk
 have hb2 : w2.heap[b]? = some (.cells #[.pointer (some ⟨b, 0, none⟩), v] 93 (0, 0)) := by
  rw [hgrow.block b (by simp; omega) (fun e => hne e.symm), Lib.alloc_old w1 _ b hlt]
  exact hbk
 have d0 : w2.cell? ⟨b, 0, none⟩ = some (.pointer (some ⟨b, 0, none⟩)) := by rw [Lib.cell_of_heap hb2]; rfl
 have d1 : w2.cell? ⟨b, 1, none⟩ = some v := by rw [Lib.cell_of_heap hb2]; rfl
 have f1 : w2.frozen? ⟨b, 1, none⟩ = false := Lib.frozen_of_heap hb2 1
 obtain ⟨g, cap, rfl⟩ : ∃ g cap, v' = .slice (some ⟨g, 0, none⟩) (bs.length + 1) cap := by
  rcases hown'.2 with ⟨_, h0⟩ | ⟨g, cap, cur, hv, _⟩
  · omega
  · exact ⟨g, cap, hv⟩
 go_wp2
 go_ret
 refine ⟨rfl, ?_, ?_⟩
 · exact Lib.BuilderAt.put (T := 93) (e := 5) hB hb2 (bs' := bs ++ [.int .u8 c]) (by simpa using hown') (by decide)
 · exact ((hb1.trans (Calm.of ((Below.refl _ _).alloc (Nat.le_refl _) _) (by have := hb1.size; omega))).grown hgrow (by have := hb1.size; simp; omega) (hown.alloc _)).trans (Calm.setCell _ hB 1 _)
set_option maxRecDepth 100000 in
theorem writeString (B b : Nat) (bs : List Value) (s : ByteArray) (w : World) (h : Lib.IsBuilder 93 5 B b bs w) (hlen : bs.length + s.size ≤ 140737488355328) (hBw : B ≤ w.heap.size) :
 Calls prog 123 #[.pointer (some ⟨b, 0, none⟩), .string s] w fun e w' => e = .returned (.tuple #[.int .i64 s.size, .nilIface]) ∧ (Lib.BuilderAt 93 5 B b (.pointer (some ⟨b, 0, none⟩)) (bs ++ Lib.strCells s) w' ∧ Calm B b w w') := by
 obtain ⟨i0, hi, hz0, hz1, hz2⟩ := info_parts infoByte
 go_enter func123, ntmps123
 go_wp2_with (go_at_call 124; refine (copyCheck B b bs _ h).mono ?_)
 rintro e w1 ⟨rfl, h1, hb1⟩
 obtain ⟨hB, v, hbk, hown, hne⟩ := h1
 have c0 : w1.cell? ⟨b, 0, none⟩ = some (.pointer (some ⟨b, 0, none⟩)) := by rw [Lib.cell_of_heap hbk]; rfl
 have c1 : w1.cell? ⟨b, 1, none⟩ = some v := by rw [Lib.cell_of_heap hbk]; rfl
 go_wp2_with (at_builtin; refine Lib.wpList_append_own_string _ rfl _ _ 28 9 rfl B 5 i0 underlying28 underlying9 hi hz0 hz1 hz2 _ _ _ rfl hown s rfl ?c3 ?c4 ?c5 ?_)
 case c3 => unfold maxLen; omega
 case c4 => omega
 case c5 => have := hb1.size; omega
 intro v' w2 hown' hgrow _
 have hlt : b < w1.heap.size := by
  rcases Nat.lt_or_ge b w1.heap.size with h' | h'
  · exact h'
  · simp [Array.getElem?_eq_none h'] at hbk
 have hb2 : w2.heap[b]? = some (.cells #[.pointer (some ⟨b, 0, none⟩), v] 93 (0, 0)) := by
  rw [hgrow.block b hlt (fun e => hne e.symm)]
  exact hbk
 have d0 : w2.cell? ⟨b, 0, none⟩ = some (.pointer (some ⟨b, 0, none⟩)) := by rw [Lib.cell_of_heap hb2]; rfl
 have d1 : w2.cell? ⟨b, 1, none⟩ = some v := by rw [Lib.cell_of_heap hb2]; rfl
 have f1 : w2.frozen? ⟨b, 1, none⟩ = false := Lib.frozen_of_heap hb2 1
 obtain ⟨ao, n', cap, rfl⟩ : ∃ ao n' cap, v' = .slice ao n' cap := by
  rcases hown'.2 with ⟨hv, _⟩ | ⟨g, cap, cur, hv, _⟩
  · exact ⟨_, _, _, hv⟩
  · exact ⟨_, _, _, hv⟩
 go_wp2
 go_ret2
 refine ⟨rfl, ?_, ?_⟩
 · exact Lib.BuilderAt.put (T := 93) (e := 5) hB hb2 (bs' := bs ++ Lib.strCells s) (by simpa [Lib.strCells_length] using hown') (by decide)
 · exact (hb1.grown hgrow (by have := hb1.size; omega) hown).trans (Calm.setCell _ hB 1 _)
theorem fresh (w : World) : Lib.IsBuilder 93 5 w.heap.size w.heap.size [] (w.alloc (.cells #[.pointer none, .slice none 0 0] 93)) :=
 .inl ⟨Nat.le_refl _, _, heap_alloc_new _ _, World.ownsRow_nil _ _ _ _, by simp [Value.ownBlock]⟩
theorem cellsB : prog.cellsOf 5 = 1 := by kernel_rfl
def Kept (w w' : World) : Prop := ∀ (k : Nat) cs T fz, w.heap[k]? = some (.cells cs T fz) → T ≠ 5 → w'.heap[k]? = some (.cells cs T fz)
theorem kept_of_block {w w' : World} (h : ∀ k, k < w.heap.size → w'.heap[k]? = w.heap[k]?) : Kept w w' := fun k cs T fz hk _ => (h k (Array.getElem?_eq_some_iff.1 hk).1).trans hk
theorem kept_freeze {w : World} {g n : Nat} {cur : Array Value} {fz : Nat × Nat} (hg : w.heap[g]? = some (.cells cur 5 fz)) : Kept w (w.drew.freeze ⟨g, 0, none⟩ n) := by
 intro k cs T fz' hk hT
 have hne : g ≠ k := by
  rintro rfl
  rw [hg] at hk
  simp only [Option.some.injEq, Obj.cells.injEq] at hk
  exact hT hk.2.1.symm
 unfold World.freeze
 split
 · exact hk
 · simp only [Array.getElem?_modify]
   rw [if_neg hne]
   exact hk
def Read (B b : Nat) (l : List UInt8) (w : World) : Prop := Lib.IsBuilderF 93 5 B b (Lib.byteCells l) w
theorem Read.of {B b : Nat} {l : List UInt8} {w : World} (h : Lib.IsBuilder 93 5 B b (Lib.byteCells l) w) : Read B b l w := Lib.IsBuilderF.of h
theorem Read.at_ {B b : Nat} {l : List UInt8} {w : World} (h : Read B b l w) : ∃ p, (p = .pointer none ∨ p = .pointer (some ⟨b, 0, none⟩)) ∧ Lib.BuilderAtF 93 5 B b p (Lib.byteCells l) w := by
 rcases h with h | h
 · exact ⟨_, .inl rfl, h⟩
 · exact ⟨_, .inr rfl, h⟩
theorem Read.mk {B b : Nat} {l : List UInt8} {w : World} {p : Value} (hp : p = .pointer none ∨ p = .pointer (some ⟨b, 0, none⟩)) (h : Lib.BuilderAtF 93 5 B b p (Lib.byteCells l) w) : Read B b l w := by
 rcases hp with rfl | rfl
 · exact .inl h
 · exact .inr h
theorem Read.below {B b : Nat} {l : List UInt8} {w w' : World} (h : Read B b l w) (hb : Below w.heap.size w w') : Read B b l w' := by
 obtain ⟨p, hp, hA⟩ := h.at_
 have hlt := hA.lt
 obtain ⟨hB, v, hbk, hown, hne⟩ := hA
 refine Read.mk hp ⟨hB, v, (hb.block b hlt).trans hbk, ⟨hown.1, ?_⟩, hne⟩
 rcases hown.2 with h1 | ⟨g', cap', cur', fz', hv, hb', hh, r⟩
 · exact .inl h1
 · exact .inr ⟨g', cap', cur', fz', hv, hb', (hb.block g' (Array.getElem?_eq_some_iff.1 hh).1).trans hh, r⟩
set_option maxRecDepth 100000 in
theorem string_some (B b : Nat) (l : List UInt8) (w : World) (h : Read B b l w) (h0 : l ≠ []) :
 Calls prog 86 #[.pointer (some ⟨b, 0, none⟩)] w fun e w' => e = .returned (.string ⟨l.toArray⟩) ∧ Read B b l w' ∧ Below B w w' ∧ Kept w w' := by
 obtain ⟨p, hp, hA⟩ := h.at_
 have hAd : Lib.BuilderAtF 93 5 B b p (Lib.byteCells l) w.drew := hA
 obtain ⟨hB, v, hbk, hown, hne⟩ := hA
 rw [Lib.byteCells_length] at hown
 have hl0 : l.length ≠ 0 := by simpa using h0
 rcases hown.2 with ⟨_, hz⟩ | ⟨g, cap, cur, fz, rfl, hbg, hg, hfz, hnc, hcm, hcs, htake⟩
 · exact absurd hz hl0
 have hbd : w.drew.heap[b]? = some (.cells #[p, .slice (some ⟨g, 0, none⟩) l.length cap] 93 (0, 0)) := hbk
 have hgd : w.drew.heap[g]? = some (.cells cur 5 fz) := hg
 have c1 : w.drew.cell? ⟨b, 1, none⟩ = some (.slice (some ⟨g, 0, none⟩) l.length cap) := by rw [Lib.cell_of_heap hbd]; rfl
 have r1 : (Builtin.unsafeSliceData_ #[28] 198 #[.slice (some ⟨g, 0, none⟩) l.length cap]).run prog w.drew = .ok (.pointer (some ⟨g, 0, none⟩)) w.drew := Lib.run_unsafeSliceData_row _ _ _ _ _ _ (by omega)
 have r2 : (Builtin.unsafeString_ #[198, 3] 9 #[.pointer (some ⟨g, 0, none⟩), .int .i64 l.length]).run prog w.drew = .ok (.string ⟨l.toArray⟩) (w.drew.freeze ⟨g, 0, none⟩ l.length) :=
  Lib.run_unsafeString_row w.drew 198 3 9 5 underlying198 cellsB g cur.size (by simp [World.shape?, hgd]) l h0 (by omega) (by unfold maxLen at hcm; omega)
   (fun j x hx => hown.cells (g := g) rfl j (.int .u8 x.toNat) (by simp [Lib.byteCells, hx]))
 have hF := hAd.froze (g := g) (cap := cap) (by rw [Lib.byteCells_length]; exact c1)
 rw [Lib.byteCells_length] at hF
 have HF := ϕ (Read.mk hp hF)
 have HK := ϕ (kept_freeze (n := l.length) hg)
 have HB := ϕ (Lib.below_freeze (Below.drew (Below.refl B w)) (p := ⟨g, 0, none⟩) hbg l.length)
 clear hF hAd hbd hgd hbk hown hne hg htake hp hcs hfz
 go_enter func86, ntmps86
 go_wp2
 go_region
 all_goals (go_wp2; go_ret; exact ⟨rfl, HF.out, HB.out, HK.out⟩)
set_option maxRecDepth 100000 in
theorem string_none (B b : Nat) (w : World) (h : Read B b [] w) (hBw : B ≤ w.heap.size) :
 Calls prog 86 #[.pointer (some ⟨b, 0, none⟩)] w fun e w' => e = .returned (.string ⟨#[]⟩) ∧ Read B b [] w' ∧ Below B w w' ∧ Kept w w' := by
 obtain ⟨p, hp, hA⟩ := h.at_
 have HR := ϕ (show Read B b [] w.drew from h)
 have hlt := hA.lt
 obtain ⟨hB, v, hbk, hown, hne⟩ := hA
 have r2 : ∀ (W : World) (q : Option Addr), (Builtin.unsafeString_ #[198, 3] 9 #[.pointer q, .int .i64 0]).run prog W = .ok (.string .empty) W := fun W q => Lib.run_unsafeString_none W _ _ _ q
 rcases hown.2 with ⟨rfl, _⟩ | ⟨g, cap, cur, fz, rfl, hbg, hg, _, _, _, _, _⟩
 · have hbd : w.drew.heap[b]? = some (.cells #[p, .slice none 0 0] 93 (0, 0)) := hbk
   have c1 : w.drew.cell? ⟨b, 1, none⟩ = some (.slice none 0 0) := by rw [Lib.cell_of_heap hbd]; rfl
   have r1 : (Builtin.unsafeSliceData_ #[28] 198 #[.slice none 0 0]).run prog w.drew = .ok (.pointer none) w.drew := rfl
   clear hbd hbk hown hne hp h
   go_enter func86, ntmps86
   go_wp2
   go_region
   all_goals (go_wp2; go_ret; exact ⟨rfl, HR.out, Below.drew (Below.refl B w), kept_of_block fun _ _ => rfl⟩)
 · by_cases hc0 : cap = 0
   · subst hc0
     have hbd : w.drew.heap[b]? = some (.cells #[p, .slice (some ⟨g, 0, none⟩) 0 0] 93 (0, 0)) := hbk
     have hgd : w.drew.heap[g]? = some (.cells cur 5 fz) := hg
     have c1 : w.drew.cell? ⟨b, 1, none⟩ = some (.slice (some ⟨g, 0, none⟩) 0 0) := by rw [Lib.cell_of_heap hbd]; rfl
     have r1 : (Builtin.unsafeSliceData_ #[28] 198 #[.slice (some ⟨g, 0, none⟩) 0 0]).run prog w.drew = .ok (.pointer (some ⟨w.drew.heap.size, 0, none⟩)) (w.drew.alloc (.view ⟨g, 0, none⟩ 5)) :=
      Lib.run_unsafeSliceData_zero w.drew _ _ 5 underlying198 ⟨g, 0, none⟩ 0 (5, cur.size) (by simp [World.shape?, hgd])
     have c2 : (w.drew.alloc (.view ⟨g, 0, none⟩ 5)).cell? ⟨b, 1, none⟩ = some (.slice (some ⟨g, 0, none⟩) 0 0) := by
      have : (w.drew.alloc (.view ⟨g, 0, none⟩ 5)).heap[b]? = _ := (Lib.alloc_old w.drew _ b hlt).trans hbk
      rw [Lib.cell_of_heap this]; rfl
     have c3 : (w.alloc (.view ⟨g, 0, none⟩ 5)).drew.cell? ⟨b, 1, none⟩ = some (.slice (some ⟨g, 0, none⟩) 0 0) := c2
     have c0 : w.cell? ⟨b, 1, none⟩ = some (.slice (some ⟨g, 0, none⟩) 0 0) := c1
     have HV := ϕ (show Below w.heap.size w (w.alloc (.view ⟨g, 0, none⟩ 5)).drew from ((Below.refl _ _).alloc (Nat.le_refl _) _).drew)
     have HRV := ϕ (show Read B b [] (w.alloc (.view ⟨g, 0, none⟩ 5)).drew from Read.mk hp ⟨hB, _, (HV.out.block b hlt).trans hbk, by
      refine ⟨hown.1, ?_⟩
      rcases hown.2 with h1 | ⟨g', cap', cur', fz', hv, hb', hh, r⟩
      · exact .inl h1
      · exact .inr ⟨g', cap', cur', fz', hv, hb', (HV.out.block g' (Array.getElem?_eq_some_iff.1 hh).1).trans hh, r⟩, hne⟩)
     clear hbd hgd hbk hown hne hg hp h
     go_enter func86, ntmps86
     go_wp2
     go_region
     all_goals (go_wp2; go_ret; exact ⟨rfl, HRV.out, HV.out.mono hBw, kept_of_block HV.out.block⟩)
   · have hbd : w.drew.heap[b]? = some (.cells #[p, .slice (some ⟨g, 0, none⟩) 0 cap] 93 (0, 0)) := hbk
     have c1 : w.drew.cell? ⟨b, 1, none⟩ = some (.slice (some ⟨g, 0, none⟩) 0 cap) := by rw [Lib.cell_of_heap hbd]; rfl
     have r1 : (Builtin.unsafeSliceData_ #[28] 198 #[.slice (some ⟨g, 0, none⟩) 0 cap]).run prog w.drew = .ok (.pointer (some ⟨g, 0, none⟩)) w.drew := Lib.run_unsafeSliceData_row _ _ _ _ _ _ hc0
     clear hbd hbk hown hne hg hp h hc0
     go_enter func86, ntmps86
     go_wp2
     go_region
     all_goals (go_wp2; go_ret; exact ⟨rfl, HR.out, Below.drew (Below.refl B w), kept_of_block fun _ _ => rfl⟩)
theorem string_any (B b : Nat) (l : List UInt8) (w : World) (h : Read B b l w) (hBw : B ≤ w.heap.size) :
 Calls prog 86 #[.pointer (some ⟨b, 0, none⟩)] w fun e w' => e = .returned (.string ⟨l.toArray⟩) ∧ Read B b l w' ∧ Below B w w' ∧ Kept w w' := by
 by_cases h0 : l = []
 · subst h0; exact string_none B b w h hBw
 · exact string_some B b l w h h0
end Go.Proofs.YtciibogkfbicfaaGreatDoor.Bo
namespace Go.Proofs.YtciibogkfbicfaaGreatDoor.Be
open Go.Proofs.YtciibogkfbicfaaGreatDoor.Ow
def be : Nat → Nat → List UInt8
 | 0, _ => []
 | n + 1, x => UInt8.ofNat (x / 256 ^ n) :: be n x
theorem be_length (n x : Nat) : (be n x).length = n := by
 induction n with
 | zero => rfl
 | succ n ih => simp [be, ih]
theorem be_get : ∀ (m x k : Nat) (_ : k < m), (be m x)[k]? = some (UInt8.ofNat (x / 256 ^ (m - 1 - k)))
 | m + 1, x, 0, _ => by simp [be]
 | m + 1, x, k + 1, h => by
  have := be_get m x k (by omega)
  rw [show m + 1 - 1 - (k + 1) = m - 1 - k by omega, ← this]; rfl
theorem be_take (m x k : Nat) (h : k < m) : (be m x).take (k + 1) = (be m x).take k ++ [UInt8.ofNat (x / 256 ^ (m - 1 - k))] := by
 rw [List.take_add_one, be_get m x k h]; rfl
theorem byte_val (m x k e : Nat) (he : e = 8 * (m - 1 - k)) : ((UInt8.ofNat (x / 256 ^ (m - 1 - k))).toNat : Int) = (x : Int) / 2 ^ e % 256 := by
 have e2 : (2 : Nat) ^ e = 256 ^ (m - 1 - k) := by rw [he, Nat.pow_mul]
 rw [UInt8.toNat_ofNat', ← e2, Int.natCast_emod, Int.natCast_ediv, Int.natCast_pow]; rfl
end Go.Proofs.YtciibogkfbicfaaGreatDoor.Be
namespace Go.Proofs.YtciibogkfbicfaaGreatDoor.Ow
open Go.RowKit
variable {P : Program}
structure KeptT (T0 : TypeId) (w w' : World) : Prop where
 size : w.heap.size ≤ w'.heap.size
 row : ∀ (k : Nat) (cs : Array Value) (T : TypeId) (fz : Nat × Nat), w.heap[k]? = some (.cells cs T fz) → T ≠ T0 → w'.heap[k]? = some (.cells cs T fz)
theorem KeptT.refl (T0 : TypeId) (w : World) : KeptT T0 w w := ⟨Nat.le_refl _, fun _ _ _ _ h _ => h⟩
theorem KeptT.trans {T0 : TypeId} {w w' w'' : World} (h : KeptT T0 w w') (h' : KeptT T0 w' w'') : KeptT T0 w w'' := ⟨Nat.le_trans h.size h'.size, fun k cs T fz hk hT => h'.row k cs T fz (h.row k cs T fz hk hT) hT⟩
theorem KeptT.below {T0 : TypeId} {w w' : World} (h : Below w.heap.size w w') : KeptT T0 w w' := ⟨h.size, fun k _ _ _ hk _ => (h.block k (Array.getElem?_eq_some_iff.1 hk).1).trans hk⟩
theorem KeptT.grown {T0 : TypeId} {w w' : World} {row : Option Nat} (h : w.grownBy w' row) (hr : ∀ g, row = some g → ∃ cs fz, w.heap[g]? = some (.cells cs T0 fz)) : KeptT T0 w w' :=
 ⟨h.size, fun k cs T fz hk hT => (h.block k (Array.getElem?_eq_some_iff.1 hk).1 (fun e => by
  obtain ⟨cs', fz', h'⟩ := hr k e.symm
  rw [hk] at h'
  simp only [Option.some.injEq, Obj.cells.injEq] at h'
  exact hT h'.2.1)).trans hk⟩
end Go.Proofs.YtciibogkfbicfaaGreatDoor.Ow
namespace Go.Proofs
open Go.Shelf
open Go.RowKit in
def Tryz.lays169_ren : Go.Shelf.Ren := ⟨fun | 169 => 86 | n => n, fun | 70 => 89 | 9 => 9 | 0 => 0 | 72 => 91 | 37 => 28 | 127 => 198 | 3 => 3 | 5 => 5 | n => n, fun | n => n⟩
theorem Tryz.lays169 : Go.Proofs.Lays.n169 prog Tryz.lays169_ren := {
 mixed := by kernel_rfl
 f169 := func86.trans (congrArg some (by kernel_rfl))
 t0 := underlying0
 a0 := isAgg0
 z0 := sizeOf0
 v0 := zeroValue0
 t3 := underlying3
 a3 := isAgg3
 z3 := sizeOf3
 v3 := zeroValue3
 t9 := underlying9
 a9 := isAgg9
 z9 := sizeOf9
 v9 := zeroValue9
 t37 := underlying28
 a37 := isAgg28
 z37 := sizeOf28
 v37 := zeroValue28
 t70 := underlying89
 a70 := isAgg89
 z70 := sizeOf89
 v70 := zeroValue89
 t72 := underlying91
 a72 := isAgg91
 z72 := sizeOf91
 v72 := zeroValue91
 t127 := underlying198
 a127 := isAgg198
 z127 := sizeOf198
 v127 := zeroValue198 }
theorem Tryz.Builder_Extra_169 : Builder.Extra prog Tryz.lays169_ren := {
 sizeBuilder := by kernel_rfl
 liesBuilder := by kernel_rfl
 t5 := underlying5
 a5 := isAgg5
 z5 := sizeOf5
 v5 := zeroValue5
 infoByte := by kernel_rfl
 cellsByte := by kernel_rfl
 sizeByte := by kernel_rfl
 neB5 := by decide }
open Go.RowKit in
open Go.RowKit in
open Go.RowKit in
theorem Tryz.Builder_String_any (B b : Nat) (l : List UInt8) (w : World) (h : Lib.IsBuilder 91 5 B b (Lib.byteCells l) w) (hBw : B ≤ w.heap.size) :
 Calls prog 86 #[.pointer (some ⟨b, 0, none⟩)] w fun e w' => e = .returned (.string ⟨l.toArray⟩) ∧ Below B w w' := Any.Builder_String_any Tryz.lays169 Tryz.Builder_Extra_169 B b l w h hBw
open Go.RowKit in
open Go.RowKit in
def Tryz.lays156_ren : Go.Shelf.Ren := ⟨fun | 156 => 105 | 165 => 137 | 166 => 123 | 169 => 86 | 240 => 124 | 241 => 151 | 276 => 148 | 277 => 173 | n => n, fun | 31 => 31 | 9 => 9 | 3 => 3 | 4 => 4 | 0 => 0 | 20 => 20 | 72 => 91 | 76 => 196 | 70 => 89 | 37 => 28 | 75 => 46 | 127 => 198 | 164 => 232 | 5 => 5 | 80 => 99 | n => n, fun | n => n⟩
theorem Tryz.lays156 : Go.Proofs.Lays.n156 prog Tryz.lays156_ren := {
 mixed := by kernel_rfl
 f156 := func105.trans (congrArg some (by kernel_rfl))
 f165 := func137.trans (congrArg some (by kernel_rfl))
 f166 := func123.trans (congrArg some (by kernel_rfl))
 f169 := func86.trans (congrArg some (by kernel_rfl))
 f240 := func124.trans (congrArg some (by kernel_rfl))
 f241 := func151.trans (congrArg some (by kernel_rfl))
 f276 := func148.trans (congrArg some (by kernel_rfl))
 f277 := func173.trans (congrArg some (by kernel_rfl))
 t0 := underlying0
 a0 := isAgg0
 z0 := sizeOf0
 v0 := zeroValue0
 t3 := underlying3
 a3 := isAgg3
 z3 := sizeOf3
 v3 := zeroValue3
 t4 := underlying4
 a4 := isAgg4
 z4 := sizeOf4
 v4 := zeroValue4
 t9 := underlying9
 a9 := isAgg9
 z9 := sizeOf9
 v9 := zeroValue9
 t20 := underlying20
 a20 := isAgg20
 z20 := sizeOf20
 v20 := zeroValue20
 t31 := underlying31
 a31 := isAgg31
 z31 := sizeOf31
 v31 := zeroValue31
 t37 := underlying28
 a37 := isAgg28
 z37 := sizeOf28
 v37 := zeroValue28
 t70 := underlying89
 a70 := isAgg89
 z70 := sizeOf89
 v70 := zeroValue89
 t72 := underlying91
 a72 := isAgg91
 z72 := sizeOf91
 v72 := zeroValue91
 t75 := underlying46
 a75 := isAgg46
 z75 := sizeOf46
 v75 := zeroValue46
 t76 := underlying196
 a76 := isAgg196
 z76 := sizeOf196
 v76 := zeroValue196
 t127 := underlying198
 a127 := isAgg198
 z127 := sizeOf198
 v127 := zeroValue198
 t164 := underlying232
 a164 := isAgg232
 z164 := sizeOf232
 v164 := zeroValue232 }
theorem Tryz.Builder_Extra_156 : Builder.Extra prog Tryz.lays156_ren := {
 sizeBuilder := by kernel_rfl
 liesBuilder := by kernel_rfl
 t5 := underlying5
 a5 := isAgg5
 z5 := sizeOf5
 v5 := zeroValue5
 infoByte := by kernel_rfl
 cellsByte := by kernel_rfl
 sizeByte := by kernel_rfl
 neB5 := by decide }
open Go.RowKit in
theorem Tryz.strings_Join_none (a : Option Addr) (c : Nat) (sep : ByteArray) (w : World) :
 Calls prog 105 #[.slice a 0 c, .string sep] w fun e w' => e = .returned (.string ⟨#[]⟩) ∧ w' = w := Any.strings_Join_none Tryz.lays156 Tryz.Builder_Extra_156 a c sep w
open Go.RowKit in
theorem Tryz.strings_Join (bk o c : Nat) (xs : List ByteArray) (sep : ByteArray) (w : World) (hcells : ∀ (j : Nat) x, xs[j]? = some x → w.cell? ⟨bk, o + j, none⟩ = some (.string x)) (hbk : bk < w.heap.size) (hN : xs.length ≤ 140737488355328) (hcap : xs.length ≤ c) (hlen : (Lib.join (xs.map (·.data.toList)) sep.data.toList).length ≤ 140737488355328) :
 Calls prog 105 #[.slice (some ⟨bk, o, none⟩) xs.length c, .string sep] w fun e w' => e = .returned (.string ⟨(Lib.join (xs.map (·.data.toList)) sep.data.toList).toArray⟩) ∧ Below w.heap.size w w' := Any.strings_Join Tryz.lays156 Tryz.Builder_Extra_156 bk o c xs sep w hcells hbk hN hcap hlen
open Go.RowKit in
open Go.RowKit in
open Go.RowKit in
open Go.RowKit in
open Go.RowKit in
open Go.RowKit in
open Go.RowKit in
open Go.RowKit in
open Go.RowKit in
open Go.RowKit in
open Go.RowKit Go.Lib in
open Go.RowKit Go.Lib in
open Go.RowKit Go.Lib in
open Go.RowKit Go.Lib in
open Go.RowKit Go.Lib in
open Go.RowKit Go.Lib in
open Go.RowKit Go.Lib in
open Go.RowKit Go.Lib in
def Tryz.lays138_ren : Go.Shelf.Ren := ⟨fun | 138 => 103 | 195 => 134 | 218 => 135 | 143 => 136 | 219 => 150 | 217 => 169 | 225 => 170 | 224 => 171 | 267 => 172 | 266 => 184 | 314 => 185 | n => n, fun | 9 => 9 | 3 => 3 | 4 => 4 | 5 => 5 | 0 => 0 | 46 => 149 | 146 => 263 | 51 => 100 | n => n, fun | 1 => 23 | n => n⟩
theorem Tryz.lays138 : Go.Proofs.Lays.n138 prog Tryz.lays138_ren := {
 mixed := by kernel_rfl
 f138 := func103.trans (congrArg some (by kernel_rfl))
 f143 := func136.trans (congrArg some (by kernel_rfl))
 f195 := func134.trans (congrArg some (by kernel_rfl))
 f217 := func169.trans (congrArg some (by kernel_rfl))
 f218 := func135.trans (congrArg some (by kernel_rfl))
 f219 := func150.trans (congrArg some (by kernel_rfl))
 f224 := func171.trans (congrArg some (by kernel_rfl))
 f225 := func170.trans (congrArg some (by kernel_rfl))
 f266 := func184.trans (congrArg some (by kernel_rfl))
 f267 := func172.trans (congrArg some (by kernel_rfl))
 f314 := func185.trans (congrArg some (by kernel_rfl))
 t0 := underlying0
 a0 := isAgg0
 z0 := sizeOf0
 v0 := zeroValue0
 t3 := underlying3
 a3 := isAgg3
 z3 := sizeOf3
 v3 := zeroValue3
 t4 := underlying4
 a4 := isAgg4
 z4 := sizeOf4
 v4 := zeroValue4
 t5 := underlying5
 a5 := isAgg5
 z5 := sizeOf5
 v5 := zeroValue5
 t9 := underlying9
 a9 := isAgg9
 z9 := sizeOf9
 v9 := zeroValue9
 t46 := underlying149
 a46 := isAgg149
 z46 := sizeOf149
 v46 := zeroValue149
 t51 := underlying100
 a51 := isAgg100
 z51 := sizeOf100
 v51 := zeroValue100
 t146 := underlying263
 a146 := isAgg263
 z146 := sizeOf263
 v146 := zeroValue263
 g1 := by kernel_rfl }
open Go.RowKit Go.Lib in
theorem Tryz.strings_Count_one (s : ByteArray) (c : UInt8) (w : World) :
 Calls prog 103 #[.string s, .string ⟨#[c]⟩] w fun e w' => e = .returned (.int .i64 (Lib.countByte s.data.toList c)) ∧ w' = w := Any.strings_Count_one Tryz.lays138 s c w
open Go.RowKit Go.Lib in
open Go.RowKit Go.Lib in
open Go.RowKit Go.Lib in
open Go.RowKit Go.Lib in
def Tryz.lays190_ren : Go.Shelf.Ren := ⟨fun | 190 => 107 | 125 => 140 | 258 => 139 | 128 => 161 | 129 => 162 | 302 => 152 | 303 => 153 | 304 => 154 | 305 => 155 | 306 => 156 | 307 => 157 | 308 => 158 | 309 => 159 | 310 => 160 | 333 => 174 | 329 => 175 | 330 => 176 | 334 => 177 | 335 => 178 | 336 => 179 | 344 => 186 | n => n, fun | 31 => 31 | 9 => 9 | 3 => 3 | 46 => 149 | 0 => 0 | 51 => 100 | 53 => 73 | 4 => 4 | 183 => 241 | 182 => 240 | 131 => 246 | 5 => 5 | 218 => 257 | 222 => 261 | 228 => 267 | 229 => 268 | n => n, fun | n => n⟩
theorem Tryz.lays190 : Go.Proofs.Lays.n190 prog Tryz.lays190_ren := {
 mixed := by kernel_rfl
 f125 := func140.trans (congrArg some (by kernel_rfl))
 f128 := func161.trans (congrArg some (by kernel_rfl))
 f129 := func162.trans (congrArg some (by kernel_rfl))
 f190 := func107.trans (congrArg some (by kernel_rfl))
 f258 := func139.trans (congrArg some (by kernel_rfl))
 f302 := func152.trans (congrArg some (by kernel_rfl))
 f303 := func153.trans (congrArg some (by kernel_rfl))
 f304 := func154.trans (congrArg some (by kernel_rfl))
 f305 := func155.trans (congrArg some (by kernel_rfl))
 f306 := func156.trans (congrArg some (by kernel_rfl))
 f307 := func157.trans (congrArg some (by kernel_rfl))
 f308 := func158.trans (congrArg some (by kernel_rfl))
 f309 := func159.trans (congrArg some (by kernel_rfl))
 f310 := func160.trans (congrArg some (by kernel_rfl))
 f329 := func175.trans (congrArg some (by kernel_rfl))
 f330 := func176.trans (congrArg some (by kernel_rfl))
 f333 := func174.trans (congrArg some (by kernel_rfl))
 f334 := func177.trans (congrArg some (by kernel_rfl))
 f335 := func178.trans (congrArg some (by kernel_rfl))
 f336 := func179.trans (congrArg some (by kernel_rfl))
 f344 := func186.trans (congrArg some (by kernel_rfl))
 t0 := underlying0
 a0 := isAgg0
 z0 := sizeOf0
 v0 := zeroValue0
 t3 := underlying3
 a3 := isAgg3
 z3 := sizeOf3
 v3 := zeroValue3
 t4 := underlying4
 a4 := isAgg4
 z4 := sizeOf4
 v4 := zeroValue4
 t5 := underlying5
 a5 := isAgg5
 z5 := sizeOf5
 v5 := zeroValue5
 t9 := underlying9
 a9 := isAgg9
 z9 := sizeOf9
 v9 := zeroValue9
 t31 := underlying31
 a31 := isAgg31
 z31 := sizeOf31
 v31 := zeroValue31
 t46 := underlying149
 a46 := isAgg149
 z46 := sizeOf149
 v46 := zeroValue149
 t51 := underlying100
 a51 := isAgg100
 z51 := sizeOf100
 v51 := zeroValue100
 t53 := underlying73
 a53 := isAgg73
 z53 := sizeOf73
 v53 := zeroValue73
 t131 := underlying246
 a131 := isAgg246
 z131 := sizeOf246
 v131 := zeroValue246
 t182 := underlying240
 a182 := isAgg240
 z182 := sizeOf240
 v182 := zeroValue240
 t183 := underlying241
 a183 := isAgg241
 z183 := sizeOf241
 v183 := zeroValue241
 t218 := underlying257
 a218 := isAgg257
 z218 := sizeOf257
 v218 := zeroValue257
 t222 := underlying261
 a222 := isAgg261
 z222 := sizeOf261
 v222 := zeroValue261
 t228 := underlying267
 a228 := isAgg267
 z228 := sizeOf267
 v228 := zeroValue267
 t229 := underlying268
 a229 := isAgg268
 z229 := sizeOf268
 v229 := zeroValue268 }
open Go.Sort Go.RowKit in
theorem Tryz.slices_Sort_string (blk off cap : Nat) (ss : List (List UInt8)) (w : World) (hH : Holds encStr w blk off ss.toArray) (hblk : blk < w.heap.size) (hsz : ss.length < 4611686018427387904) :
 Calls prog 107 #[.slice (some ⟨blk, off, none⟩) ss.length cap] w fun e w' =>
  e = .returned (.tuple #[]) ∧ ∃ n os, w' = grow (putRow encStr (Sort.ahead w n) blk off (ss.mergeSort fun x y => decide (x ≤ y)).toArray) os := Any.slices_Sort_string Tryz.lays190 blk off cap ss w hH hblk hsz
open Go.RowKit Go.Lib in
open Go.RowKit Go.Lib in
open Go.RowKit Go.Lib in
open Go.RowKit Go.Lib in
def Tryz.lays264_ren : Go.Shelf.Ren := ⟨fun | 264 => 112 | n => n, fun | 53 => 73 | 46 => 149 | n => n, fun | n => n⟩
theorem Tryz.lays264 : Go.Proofs.Lays.n264 prog Tryz.lays264_ren := {
 mixed := by kernel_rfl
 f264 := func112.trans (congrArg some (by kernel_rfl))
 t46 := underlying149
 a46 := isAgg149
 z46 := sizeOf149
 v46 := zeroValue149
 t53 := underlying73
 a53 := isAgg73
 z53 := sizeOf73
 v53 := zeroValue73 }
open Go.RowKit Go.Lib in
theorem Tryz.bits_Mul64 (x y : Nat) (hx : x < 18446744073709551616) (hy : y < 18446744073709551616) (w : World) :
 Calls prog 112 #[.int .u64 x, .int .u64 y] w fun e w' => e = .returned (.tuple #[.int .u64 ((x * y / 18446744073709551616 : Nat) : Int), .int .u64 ((x * y % 18446744073709551616 : Nat) : Int)]) ∧ w' = w := Any.bits_Mul64 Tryz.lays264 x y hx hy w
open Go.RowKit Go.Lib in
def Tryz.lays105_ren : Go.Shelf.Ren := ⟨fun | 105 => 145 | 212 => 163 | 99 => 164 | 165 => 137 | 166 => 123 | 170 => 165 | 169 => 86 | 263 => 180 | 264 => 112 | 206 => 181 | 240 => 124 | 241 => 151 | 276 => 148 | 277 => 173 | n => n, fun | 9 => 9 | 3 => 3 | 4 => 4 | 20 => 20 | 0 => 0 | 46 => 149 | 109 => 250 | 5 => 5 | 72 => 91 | 76 => 196 | 51 => 100 | 146 => 263 | 53 => 73 | 148 => 182 | 70 => 89 | 37 => 28 | 75 => 46 | 127 => 198 | 164 => 232 | 80 => 99 | n => n, fun | n => n⟩
theorem Tryz.lays105 : Go.Proofs.Lays.n105 prog Tryz.lays105_ren := {
 mixed := by kernel_rfl
 f99 := func164.trans (congrArg some (by kernel_rfl))
 f105 := func145.trans (congrArg some (by kernel_rfl))
 f165 := func137.trans (congrArg some (by kernel_rfl))
 f166 := func123.trans (congrArg some (by kernel_rfl))
 f169 := func86.trans (congrArg some (by kernel_rfl))
 f170 := func165.trans (congrArg some (by kernel_rfl))
 f206 := func181.trans (congrArg some (by kernel_rfl))
 f212 := func163.trans (congrArg some (by kernel_rfl))
 f240 := func124.trans (congrArg some (by kernel_rfl))
 f241 := func151.trans (congrArg some (by kernel_rfl))
 f263 := func180.trans (congrArg some (by kernel_rfl))
 f264 := func112.trans (congrArg some (by kernel_rfl))
 f276 := func148.trans (congrArg some (by kernel_rfl))
 f277 := func173.trans (congrArg some (by kernel_rfl))
 t0 := underlying0
 a0 := isAgg0
 z0 := sizeOf0
 v0 := zeroValue0
 t3 := underlying3
 a3 := isAgg3
 z3 := sizeOf3
 v3 := zeroValue3
 t4 := underlying4
 a4 := isAgg4
 z4 := sizeOf4
 v4 := zeroValue4
 t5 := underlying5
 a5 := isAgg5
 z5 := sizeOf5
 v5 := zeroValue5
 t9 := underlying9
 a9 := isAgg9
 z9 := sizeOf9
 v9 := zeroValue9
 t20 := underlying20
 a20 := isAgg20
 z20 := sizeOf20
 v20 := zeroValue20
 t37 := underlying28
 a37 := isAgg28
 z37 := sizeOf28
 v37 := zeroValue28
 t46 := underlying149
 a46 := isAgg149
 z46 := sizeOf149
 v46 := zeroValue149
 t51 := underlying100
 a51 := isAgg100
 z51 := sizeOf100
 v51 := zeroValue100
 t53 := underlying73
 a53 := isAgg73
 z53 := sizeOf73
 v53 := zeroValue73
 t70 := underlying89
 a70 := isAgg89
 z70 := sizeOf89
 v70 := zeroValue89
 t72 := underlying91
 a72 := isAgg91
 z72 := sizeOf91
 v72 := zeroValue91
 t75 := underlying46
 a75 := isAgg46
 z75 := sizeOf46
 v75 := zeroValue46
 t76 := underlying196
 a76 := isAgg196
 z76 := sizeOf196
 v76 := zeroValue196
 t109 := underlying250
 a109 := isAgg250
 z109 := sizeOf250
 v109 := zeroValue250
 t127 := underlying198
 a127 := isAgg198
 z127 := sizeOf198
 v127 := zeroValue198
 t146 := underlying263
 a146 := isAgg263
 z146 := sizeOf263
 v146 := zeroValue263
 t148 := underlying182
 a148 := isAgg182
 z148 := sizeOf182
 v148 := zeroValue182
 t164 := underlying232
 a164 := isAgg232
 z164 := sizeOf232
 v164 := zeroValue232 }
theorem Tryz.Builder_Extra_105 : Builder.Extra prog Tryz.lays105_ren := {
 sizeBuilder := by kernel_rfl
 liesBuilder := by kernel_rfl
 t5 := underlying5
 a5 := isAgg5
 z5 := sizeOf5
 v5 := zeroValue5
 infoByte := by kernel_rfl
 cellsByte := by kernel_rfl
 sizeByte := by kernel_rfl
 neB5 := by decide }
open Go.RowKit Go.Lib in
open Go.RowKit Go.Lib in
open Go.RowKit Go.Lib in
open Go.RowKit Go.Lib in
open Go.RowKit Go.Lib in
open Go.RowKit Go.Lib in
open Go.RowKit Go.Lib in
theorem Tryz.strings_Repeat (s : ByteArray) (c : Nat) (w : World) (hc : c ≤ 9223372036854775807) (hlen : s.size * c ≤ 140737488355328) :
 Calls prog 145 #[.string s, .int .i64 c] w fun e w' => e = .returned (.string ⟨(Lib.repeatL s.data.toList c).toArray⟩) ∧ Below w.heap.size w w' := Any.strings_Repeat Tryz.lays105 Tryz.Builder_Extra_105 s c w hc hlen
open Go.RowKit Go.Sort in
theorem Tryz.slices_Sort_string_none (p : Option Addr) (cap : Nat) (w : World) :
 Calls prog 107 #[.slice p 0 cap] w fun e w' => e = .returned (.tuple #[]) ∧ w' = w := Any.slices_Sort_string_none Tryz.lays190 p cap w
end Go.Proofs
namespace Go.Proofs.YtciibogkfbicfaaGreatDoor.Wi
open Go.RowKit Go.Proofs.YtciibogkfbicfaaGreatDoor.Ow Go.Proofs.YtciibogkfbicfaaGreatDoor.Be
def IsOut (B b : Nat) (l : List UInt8) (w : World) : Prop := Lib.IsBuilder 93 5 B b (bv l) w
def Wrote (B b : Nat) (l : List UInt8) (w : World) (e : Ending) (w' : World) : Prop := e = .returned (.pointer (some ⟨b, 0, none⟩)) ∧ IsOut B b l w' ∧ Bo.Calm B b w w'
theorem outFresh (w : World) : IsOut w.heap.size w.heap.size [] (w.alloc (.cells #[.pointer none, .slice none 0 0] 93)) := Bo.fresh w
theorem at_below {B b : Nat} {p : Value} {bs : List Value} {w w' : World} (h : Lib.BuilderAt 93 5 B b p bs w) (hb : Below w.heap.size w w') : Lib.BuilderAt 93 5 B b p bs w' := by
 have hlt := h.lt
 obtain ⟨hB, v, hbk, hown, hne⟩ := h
 exact ⟨hB, v, (hb.block b hlt).trans hbk, World.ownsRow.kept hown (row := none) ⟨hb.os, hb.tape, hb.output, hb.size, fun k hk _ => hb.block k hk⟩ (by cases hv : v.ownBlock <;> simp), hne⟩
theorem IsOut.below {B b : Nat} {l : List UInt8} {w w' : World} (h : IsOut B b l w) (hb : Below w.heap.size w w') : IsOut B b l w' := by
 rcases h with h | h
 · exact .inl (at_below h hb)
 · exact .inr (at_below h hb)
theorem bv_snoc (l : List UInt8) (c : UInt8) (x : Int) (h : x = c.toNat) : bv l ++ [.int .u8 x] = bv (l ++ [c]) := by rw [bv_append, bv_one c x h]
theorem strCells_eq (s : ByteArray) : Lib.strCells s = bv s.data.toList := rfl
theorem Byte_any (B b : Nat) (l : List UInt8) (c : UInt8) (x : Int) (hx : x = c.toNat) (w : World) (h : IsOut B b l w) (hl : l.length + 1 ≤ 140737488355328) (hB : B ≤ w.heap.size) :
 Calls prog 41 #[.pointer (some ⟨b, 0, none⟩), .int .u8 x] w (Wrote B b (l ++ [c]) w) := by
 have H := ϕ h
 have HX := ϕ hx
 clear h hx
 go_enter func41, ntmps41
 go_wp2_with (go_at_call 84; refine (Bo.writeByte B b _ _ _ H.out (by rw [jy_]; exact hl) hB).mono ?_; rintro e w1 ⟨rfl, h1, hb1⟩; have H1 := ϕ h1; have HB1 := ϕ hb1; clear h1 hb1)
 go_ret
 exact ⟨rfl, .inr ((bv_snoc l c x HX.out) ▸ H1.out), HB1.out⟩
theorem Bool_any (B b : Nat) (l : List UInt8) (c : Bool) (w : World) (h : IsOut B b l w) (hl : l.length + 1 ≤ 140737488355328) (hB : B ≤ w.heap.size) :
 Calls prog 42 #[.pointer (some ⟨b, 0, none⟩), .bool c] w (Wrote B b (l ++ [if c then 1 else 0]) w) := by
 have H := ϕ h
 clear h
 cases c
 · go_enter func42, ntmps42
   go_wp2_with (go_at_call 41; refine (Byte_any B b l 0 0 rfl _ H.out hl hB).mono ?_; rintro e w1 ⟨rfl, h1, hb1⟩; have H1 := ϕ h1; have HB1 := ϕ hb1; clear h1 hb1)
   go_ret
   exact ⟨rfl, H1.out, HB1.out⟩
 · go_enter func42, ntmps42
   go_wp2_with (go_at_call 41; refine (Byte_any B b l 1 1 rfl _ H.out hl hB).mono ?_; rintro e w1 ⟨rfl, h1, hb1⟩; have H1 := ϕ h1; have HB1 := ϕ hb1; clear h1 hb1)
   go_ret
   exact ⟨rfl, H1.out, HB1.out⟩
theorem Raw_any (B b : Nat) (l : List UInt8) (s : ByteArray) (w : World) (h : IsOut B b l w) (hl : l.length + s.size ≤ 140737488355328) (hB : B ≤ w.heap.size) :
 Calls prog 83 #[.pointer (some ⟨b, 0, none⟩), .string s] w (Wrote B b (l ++ s.data.toList) w) := by
 have H := ϕ h
 clear h
 go_enter func83, ntmps83
 go_wp2_with (go_at_call 123; refine (Bo.writeString B b _ s _ H.out (by rw [jy_]; exact hl) hB).mono ?_; rintro e w1 ⟨rfl, h1, hb1⟩; have H1 := ϕ h1; have HB1 := ϕ hb1; clear h1 hb1)
 go_ret
 exact ⟨rfl, .inr (by have := H1.out; rw [strCells_eq, ← bv_append] at this; exact this), HB1.out⟩
theorem put4_any (B b : Nat) (l : List UInt8) (n : Nat) (hn : n < 18446744073709551616) (w : World) (h : IsOut B b l w) (hl : l.length + 4 ≤ 140737488355328) (hB : B ≤ w.heap.size) :
 Calls prog 122 #[.pointer (some ⟨b, 0, none⟩), .int .u64 n, .int .i64 4] w (Wrote B b (l ++ be 4 n) w) := by
 have H := ϕ (show IsOut B b (l ++ (be 4 n).take 0) w by rw [List.take_zero, List.append_nil]; exact h)
 clear h
 go_enter func122, ntmps122
 go_wp2_with fail
 go_loopw [7] (fun i wr => ∃ k : Nat, k ≤ 4 ∧ i = .int .i64 (3 - (k : Int)) ∧ IsOut B b (l ++ (be 4 n).take k) wr ∧ Bo.Calm B b w wr) (fun i _ => (intOf i + 1).toNat)
 case atStart => exact ⟨0, Nat.zero_le _, rfl, H.out, Bo.Calm.refl _ _ _⟩
 case round =>
  obtain ⟨k, hk, rfl, hO, hb⟩ := hrel
  have HO := ϕ hO
  have HB := ϕ hb
  have hszb := hb.size
  clear hO hb H
  by_cases hkm : k < 4
  · have hi0 : (0 : Int) ≤ 3 - (k : Int) := by omega
    have hi1 : (0 : Int) ≤ 8 * (3 - (k : Int)) := by omega
    have hmn : min (8 * (3 - (k : Int))).toNat 64 = 8 * (3 - k) := by omega
    have HV := ϕ (byte_val 4 n k (8 * (3 - k)) (by omega))
    have HT := ϕ (be_take 4 n k hkm)
    have hll : (l ++ (be 4 n).take k).length + 1 ≤ 140737488355328 := by rw [List.length_append, List.length_take]; omega
    go_wp2_with fail
    refine Rg.jn_ wr.heap.size 8 (by kernel_rfl) (by kernel_rfl) ?_
    simp only [List.take_succ_cons, List.take_zero, List.drop_succ_cons, List.drop_zero]
    repeat (go_big_quiet_step (fail))
    refine wpQuiet_nil ?_
    rintro _ ⟨s8, rfl⟩
    have hs8 := s8.is.size
    have HO8 := ϕ (show IsOut B b (l ++ (be 4 n).take k) s8.val from HO.out.below s8.is)
    go_wp2_with (go_at_call 84; refine (Bo.writeByte B b _ _ _ HO8.out (by rw [jy_]; exact hll) (by omega)).mono ?_; rintro e w1 ⟨rfl, h1, hb1⟩; have H1 := ϕ h1; have HB1 := ϕ hb1; clear h1 hb1)
    go_roundw
    case rel =>
     have h1 := H1.out
     rw [bv_snoc _ _ _ HV.out.symm, List.append_assoc, ← HT.out] at h1
     have hb' : Bo.Calm B b w w1 := (HB.out.trans (Bo.Calm.of s8.is (by omega))).trans HB1.out
     first
      | exact ⟨k + 1, by omega, by go_num, .inr h1, hb'⟩
      | ((repeat apply Exists.intro); refine ⟨?_, rfl⟩; exact ⟨k + 1, by omega, by go_num, .inr h1, hb'⟩)
    case measure => simp [intOf]; omega
  · obtain rfl : k = 4 := by omega
    have HF := ϕ (show IsOut B b (l ++ be 4 n) wr by have := HO.out; rwa [List.take_of_length_le (Nat.le_of_eq (be_length _ _))] at this)
    go_wp2_with fail
    go_ret
    exact ⟨rfl, HF.out, HB.out⟩
def textL (l : List UInt8) : List UInt8 := be 4 l.length ++ l
def joinC (xs : List ByteArray) : List UInt8 := Lib.join (xs.map (·.data.toList)) [44]
theorem IsOut.lt {B b : Nat} {l : List UInt8} {w : World} (h : IsOut B b l w) : b < w.heap.size := h.elim Lib.BuilderAt.lt Lib.BuilderAt.lt
theorem qu_ (s : ByteArray) : s.data.toList.length = s.size := Array.length_toList
theorem U32_any (B b : Nat) (l : List UInt8) (n : Nat) (hn : n < 4294967296) (w : World) (h : IsOut B b l w) (hl : l.length + 4 ≤ 140737488355328) (hB : B ≤ w.heap.size) :
 Calls prog 82 #[.pointer (some ⟨b, 0, none⟩), .int .u32 n] w (Wrote B b (l ++ be 4 n) w) := by
 have H := ϕ h
 clear h
 go_enter func82, ntmps82
 go_wp2_with (go_at_call 122; refine (put4_any B b l n (by omega) _ H.out hl hB).mono ?_; rintro e w1 ⟨rfl, h1, hb1⟩; have H1 := ϕ h1; have HB1 := ϕ hb1; clear h1 hb1)
 go_ret
 exact ⟨rfl, H1.out, HB1.out⟩
theorem Text_any (B b : Nat) (l : List UInt8) (s : ByteArray) (hs : s.size < 4294967296) (w : World) (h : IsOut B b l w) (hl : l.length + 4 + s.size ≤ 140737488355328) (hB : B ≤ w.heap.size) :
 Calls prog 40 #[.pointer (some ⟨b, 0, none⟩), .string s] w (Wrote B b (l ++ textL s.data.toList) w) := by
 have H := ϕ h
 clear h
 go_enter func40, ntmps40
 go_wp2_with (first
  | (go_at_call 82; refine (U32_any B b l s.size hs _ H.out (by omega) hB).mono ?_; rintro e w1 ⟨rfl, h1, hb1⟩; have H1 := ϕ h1; have HB1 := ϕ hb1; clear h1 hb1)
  | (go_at_call 83; refine (Raw_any B b (l ++ be 4 s.size) s _ H1.out (by rw [List.length_append, be_length]; exact hl) (by have := HB1.out.size; omega)).mono ?_; rintro e w2 ⟨rfl, h2, hb2⟩; have H2 := ϕ h2; have HB2 := ϕ hb2; clear h2 hb2))
 go_ret
 refine ⟨rfl, ?_, HB1.out.trans HB2.out⟩
 have h2 := H2.out
 unfold textL
 rw [qu_, ← List.append_assoc]
 exact h2
theorem Bytes_any (B b : Nat) (l : List UInt8) (w : World) (h : Bo.Read B b l w) (hB : B ≤ w.heap.size) :
 Calls prog 44 #[.pointer (some ⟨b, 0, none⟩)] w fun e w' => e = .returned (.string ⟨l.toArray⟩) ∧ Bo.Read B b l w' ∧ Below B w w' ∧ Bo.Kept w w' := by
 have H := ϕ h
 clear h
 go_enter func44, ntmps44
 go_wp2_with (go_at_call 86; refine (Bo.string_any B b l _ H.out hB).mono ?_; rintro e w1 ⟨rfl, h1, hb1, hk1⟩; have H1 := ϕ h1; have HB1 := ϕ hb1; have HK1 := ϕ hk1; clear h1 hb1 hk1)
 go_ret
 exact ⟨rfl, H1.out, HB1.out, HK1.out⟩
theorem Bytes_eq (B b : Nat) (l : List UInt8) (t : ByteArray) (ht : (⟨l.toArray⟩ : ByteArray) = t) (w : World) (h : Bo.Read B b l w) (hB : B ≤ w.heap.size) :
 Calls prog 44 #[.pointer (some ⟨b, 0, none⟩)] w fun e w' => e = .returned (.string t) ∧ Bo.Read B b l w' ∧ Below B w w' ∧ Bo.Kept w w' := ht ▸ Bytes_any B b l w h hB
def IsIn (w : World) (b : Nat) (s : ByteArray) (e : Value) : Prop := Rg.Blk w b 201 #[.string s, e]
theorem blk_set {w : World} {b T : Nat} {cs : Array Value} (h : Rg.Blk w b T cs) (j : Nat) (v : Value) : Rg.Blk (w.setCell ⟨b, j, none⟩ v) b T (cs.setIfInBounds j v) := by
 unfold Rg.Blk at *
 rw [heap_setCell_same w b j _ _ _ h]
theorem grown_set {a w : World} {b : Nat} (h : a.grownBy w (some b)) (j : Nat) (v : Value) : a.grownBy (w.setCell ⟨b, j, none⟩ v) (some b) :=
 ⟨h.os, h.tape, h.output, by simpa [World.setCell] using h.size, fun k hk hne => (Below.heap_setCell w ⟨b, j, none⟩ v k (fun e => hne (congrArg some e))).trans (h.block k hk hne)⟩
theorem grown_below {a w b' : World} {row : Option Nat} (h : a.grownBy w row) (hb : Below w.heap.size w b') : a.grownBy b' row :=
 ⟨hb.os.trans h.os, hb.tape.trans h.tape, hb.output.trans h.output, Nat.le_trans h.size hb.size, fun k hk hne => (hb.block k (Nat.lt_of_lt_of_le hk h.size)).trans (h.block k hk hne)⟩
structure Errs (w : World) (E : Nat → Value) : Prop where
 is : ∀ k, k ≠ 0 → ∃ a, E k = .iface 271 (.pointer (some a))
 big : w.cell? ⟨6, 0, none⟩ = some (E 4)
 form : w.cell? ⟨5, 0, none⟩ = some (E 3)
 stop : w.cell? ⟨4, 0, none⟩ = some (E 2)
def Gl (b : Nat) : Prop := 6 < b ∧ 5 < b ∧ 4 < b
theorem Errs.gl {w : World} {E : Nat → Value} (h : Errs w E) {b : Nat} (hb : w.heap.size ≤ b) : Gl b := by
 have h1 := World.block_lt_of_cell? w _ h.big
 have h2 := World.block_lt_of_cell? w _ h.form
 have h3 := World.block_lt_of_cell? w _ h.stop
 simp only at h1 h2 h3
 exact ⟨by omega, by omega, by omega⟩
def evV (E : Nat → Value) (c : Nat) : Value := if c = 0 then .nilIface else E c
theorem Errs.keep {w w' : World} {E : Nat → Value} {b : Nat} (h : Errs w E) (hg : w.grownBy w' (some b)) (hb : Gl b) : Errs w' E :=
 ⟨h.is, hg.cell h.big (by intro e; have := hb.1; simp at e; omega), hg.cell h.form (by intro e; have := hb.2.1; simp at e; omega), hg.cell h.stop (by intro e; have := hb.2.2; simp at e; omega)⟩
theorem Errs.below {w w' : World} {E : Nat → Value} (h : Errs w E) (hb : Below w.heap.size w w') : Errs w' E :=
 ⟨h.is, (hb.cell (World.block_lt_of_cell? w _ h.big)).trans h.big, (hb.cell (World.block_lt_of_cell? w _ h.form)).trans h.form, (hb.cell (World.block_lt_of_cell? w _ h.stop)).trans h.stop⟩
theorem evV_zero (E : Nat → Value) : evV E 0 = .nilIface := rfl
theorem evV_pos (E : Nat → Value) {c : Nat} (h : c ≠ 0) : evV E c = E c := if_neg h
theorem fail_none (w : World) (b : Nat) (s : ByteArray) (t : TypeId) (x : Value) (h : IsIn w b s .nilIface) :
 Calls prog 128 #[.pointer (some ⟨b, 0, none⟩), .iface t x] w fun e w' => e = .returned (.tuple #[]) ∧ IsIn w' b ⟨#[]⟩ (.iface t x) ∧ w.grownBy w' (some b) := by
 have h0 := h.cell 0 (v := .string s) rfl
 have h1 := h.cell 1 (v := .nilIface) rfl
 have f0 := h.frozen 0
 have f1 := h.frozen 1
 have HF := ϕ (show IsIn ((w.setCell ⟨b, 0, none⟩ (.string ⟨#[]⟩)).setCell ⟨b, 1, none⟩ (.iface t x)) b ⟨#[]⟩ (.iface t x) from blk_set (blk_set h 0 _) 1 _)
 have HG := ϕ (show w.grownBy ((w.setCell ⟨b, 0, none⟩ (.string ⟨#[]⟩)).setCell ⟨b, 1, none⟩ (.iface t x)) (some b) from grown_set (grown_set (World.grownBy.refl w _) 0 _) 1 _)
 clear h
 go_enter func128, ntmps128
 go_wp2
 go_end0
 exact ⟨rfl, HF.out, HG.out⟩
theorem fail_some (w : World) (b : Nat) (s : ByteArray) (t : TypeId) (x v : Value) (h : IsIn w b s (.iface t x)) :
 Calls prog 128 #[.pointer (some ⟨b, 0, none⟩), v] w fun e w' => e = .returned (.tuple #[]) ∧ w = w' := by
 have h1 := h.cell 1 (v := .iface t x) rfl
 clear h
 go_enter func128, ntmps128
 go_wp2
 go_end0
 exact ⟨rfl, rfl⟩
def rawR (s : ByteArray) (c : Nat) (n : Nat) : ByteArray := if c = 0 ∧ n ≤ s.size then s.extract 0 n else ⟨#[]⟩
def rawS (s : ByteArray) (c : Nat) (n : Nat) : ByteArray := if c = 0 then (if n ≤ s.size then s.extract n s.size else ⟨#[]⟩) else s
def rawC (s : ByteArray) (c : Nat) (n : Nat) : Nat := if c = 0 then (if n ≤ s.size then 0 else 2) else c
def Gave (E : Nat → Value) (b : Nat) (w : World) (v : Value) (s : ByteArray) (c : Nat) (e : Ending) (w' : World) : Prop := e = .returned v ∧ IsIn w' b s (evV E c) ∧ w.grownBy w' (some b)
theorem InRaw_any (w : World) (E : Nat → Value) (b : Nat) (s : ByteArray) (c : Nat) (n : Int) (hn : n ≤ 9223372036854775807) (hs : s.size ≤ 9223372036854775807) (hE : Errs w E) (hb : Gl b) (h : IsIn w b s (evV E c)) :
 Calls prog 129 #[.pointer (some ⟨b, 0, none⟩), .int .i64 n] w (Gave E b w (.string (rawR s c n.toNat)) (rawS s c n.toNat) (rawC s c n.toNat)) := by
 have H := ϕ h
 have HE := ϕ hE
 obtain ⟨m, hm⟩ : ∃ m : Nat, max n 0 = (m : Int) := ⟨n.toNat, by omega⟩
 have hm2 : n.toNat = m := by omega
 rw [hm2]
 have hml : m ≤ 9223372036854775807 := by omega
 by_cases hc : c = 0
 · subst hc
   have h0 := H.out.cell 0 (v := .string s) rfl
   have h1 : w.cell? ⟨b, 1, none⟩ = some .nilIface := H.out.cell 1 rfl
   by_cases hms : m ≤ s.size
   · have HR := ϕ (show rawR s 0 m = s.extract 0 m ∧ rawS s 0 m = s.extract m s.size ∧ rawC s 0 m = 0 from ⟨if_pos ⟨rfl, hms⟩, by unfold rawS; rw [if_pos rfl, if_pos hms], by unfold rawC; rw [if_pos rfl, if_pos hms]⟩)
     have f0 := H.out.frozen 0
     have HF := ϕ (show IsIn (w.setCell ⟨b, 0, none⟩ (.string (s.extract m s.size))) b (s.extract m s.size) .nilIface from blk_set H.out 0 _)
     have HG := ϕ (show w.grownBy (w.setCell ⟨b, 0, none⟩ (.string (s.extract m s.size))) (some b) from grown_set (World.grownBy.refl w _) 0 _)
     have hd : (m : Int) ≤ s.size := by omega
     clear h hE hm2 hn
     go_enter func129, ntmps129
     go_wp2
     go_ret
     exact ⟨by rw [HR.out.1]; rfl, by rw [HR.out.2.1, HR.out.2.2]; exact HF.out, HG.out⟩
   · have HR := ϕ (show rawR s 0 m = ⟨#[]⟩ ∧ rawS s 0 m = ⟨#[]⟩ ∧ rawC s 0 m = 2 from ⟨if_neg fun e => hms e.2, by unfold rawS; rw [if_pos rfl, if_neg hms], by unfold rawC; rw [if_pos rfl, if_neg hms]⟩)
     obtain ⟨a2, ha2⟩ := hE.is 2 (by decide)
     have hst := hE.stop
     rw [ha2] at hst
     have HA := ϕ ha2
     have hd : ¬ (m : Int) ≤ s.size := by omega
     have hd2 : (s.size : Int) < m := by omega
     clear h hE hm2 hn ha2 hms
     go_enter func129, ntmps129
     go_wp2_with (go_at_call 128; refine (fail_none w b s _ _ H.out).mono ?_; rintro e w1 ⟨rfl, h1', hg1⟩; have H1 := ϕ h1'; have HG := ϕ hg1; clear h1' hg1)
     go_ret
     refine ⟨by rw [HR.out.1]; rfl, ?_, HG.out⟩
     rw [HR.out.2.1, HR.out.2.2]
     have := H1.out
     rw [← HA.out] at this
     exact this
 · have HR := ϕ (show rawR s c m = ⟨#[]⟩ ∧ rawS s c m = s ∧ rawC s c m = c from ⟨if_neg fun e => hc e.1, if_neg hc, if_neg hc⟩)
   obtain ⟨a2, ha2⟩ := hE.is 2 (by decide)
   have hst := hE.stop
   rw [ha2] at hst
   obtain ⟨ac, hac⟩ := hE.is c hc
   have hev : evV E c = .iface 271 (.pointer (some ac)) := by rw [evV_pos E hc, hac]
   rw [hev] at h
   have H' := ϕ h
   have h1 : w.cell? ⟨b, 1, none⟩ = some (.iface 271 (.pointer (some ac))) := h.cell 1 rfl
   clear h hE hm2 hn ha2 hac hev hc
   go_enter func129, ntmps129
   go_wp2_with (go_at_call 128; refine (fail_some w b s _ _ _ H'.out).mono ?_; rintro e w1 ⟨rfl, rfl⟩; skip)
   go_ret
   exact ⟨by rw [HR.out.1]; rfl, by rw [HR.out.2.1, HR.out.2.2]; exact H.out, World.grownBy.refl _ _⟩
def numV (l : List UInt8) : Nat := l.foldl (fun a x => a * 256 + x.toNat) 0
theorem numV_snoc (l : List UInt8) (x : UInt8) : numV (l ++ [x]) = numV l * 256 + x.toNat := by unfold numV; rw [List.foldl_append]; rfl
theorem fold_lt (l : List UInt8) : ∀ a, l.foldl (fun a (x : UInt8) => a * 256 + x.toNat) a < (a + 1) * 256 ^ l.length := by
 induction l with
 | nil => intro a; simp
 | cons x l ih =>
  intro a
  have hx := x.toNat_lt
  refine Nat.lt_of_lt_of_le (ih _) ?_
  rw [List.length_cons, Nat.pow_succ, Nat.mul_comm (256 ^ l.length) 256, ← Nat.mul_assoc]
  exact Nat.mul_le_mul_right _ (by show a * 256 + x.toNat + 1 ≤ _; omega)
theorem numV_lt (l : List UInt8) : numV l < 256 ^ l.length := by have := fold_lt l 0; unfold numV; omega
theorem or_byte (a x : Nat) (hx : x < 256) : a * 256 ||| x = a * 256 + x := by
 rw [show a * 256 = 2 ^ 8 * a by omega, Nat.two_pow_add_eq_or_of_lt (by simpa using hx)]
theorem num_next (l : List UInt8) (j : Nat) (x : UInt8) (hx : l[j]? = some x) (hj : j < 8) : numV (l.take (j + 1)) = numV (l.take j) * 256 + x.toNat := by
 rw [List.take_add_one, hx]; exact numV_snoc _ _
theorem rawR_size (s : ByteArray) (c n : Nat) : (rawR s c n).size ≤ n := by
 unfold rawR; split
 · rw [ByteArray.size_extract]; omega
 · exact Nat.zero_le _
theorem InNum_any (w : World) (E : Nat → Value) (b : Nat) (s : ByteArray) (c k : Nat) (hk : k ≤ 8) (hs : s.size ≤ 9223372036854775807) (hE : Errs w E) (hb : Gl b) (h : IsIn w b s (evV E c)) :
 Calls prog 149 #[.pointer (some ⟨b, 0, none⟩), .int .i64 k] w (Gave E b w (.int .u64 (numV (rawR s c k).data.toList : Nat)) (rawS s c k) (rawC s c k)) := by
 have H := ϕ h
 have HE := ϕ hE
 have hrs := rawR_size s c k
 clear h hE
 go_enter func149, ntmps149
 go_wp2_with (first
  | (go_at_call 129; refine (InRaw_any w E b s c k (by omega) hs HE.out hb H.out).mono ?_; rintro e w1 ⟨rfl, h1, hg1⟩; have H1 := ϕ h1; have HG1 := ϕ hg1; clear h1 hg1; rw [Int.toNat_natCast] at *; generalize rawR s c k = r at *)
  | (refine Cv.conv_bytes rfl 9 28 5 _ rfl rfl underlying9 underlying28 underlying5 ?_; intro Y cap hY hfY hbY hnY hcY; have HY := ϕ hY; have HBY := ϕ hbY; clear hY hfY hbY hnY hcY))
 have HIn := ϕ (show IsIn Y b (rawS s c k) (evV E (rawC s c k)) from H1.out.below HBY.out H1.out.lt)
 have HGY := ϕ (grown_below HG1.out HBY.out)
 go_loop [5, 13] (fun n i => ∃ j : Nat, j ≤ r.size ∧ i = .int .i64 j ∧ n = .int .u64 (numV (r.data.toList.take j) : Nat)) (fun _ i => r.size - (intOf i).toNat)
 case atStart => exact ⟨0, Nat.zero_le _, rfl, rfl⟩
 case round =>
  obtain ⟨j, hj, rfl, rfl⟩ := hrel
  by_cases hjr : j < r.size
  · have hd : decide (j < r.size) = true := by simp; exact hjr
    have hx : r.data.toList[j]? = some r[j] := by rw [List.getElem?_eq_getElem (by rw [Array.length_toList]; exact hjr)]; rfl
    have hcell := HY.out j _ hx
    rw [Nat.zero_add] at hcell
    have hlt := numV_lt (r.data.toList.take j)
    have hp : 256 ^ (r.data.toList.take j).length ≤ 256 ^ 7 := Nat.pow_le_pow_right (by decide) (by rw [List.length_take]; omega)
    have h7 : (256 : Nat) ^ 7 = 72057594037927936 := by decide
    have hl7 : numV (r.data.toList.take j) < 72057594037927936 := by omega
    have HN := ϕ (num_next r.data.toList j _ hx (by omega))
    have hb2 := r[j].toNat_lt
    clear hx hlt hp h7
    have hor : bits .or .u64 ((numV (r.data.toList.take j) : Int) * 256) (r[j].toNat : Int) = ((numV (r.data.toList.take (j + 1)) : Nat) : Int) := by
     rw [HN.out, show ((numV (r.data.toList.take j) : Int) * 256) = ((numV (r.data.toList.take j) * 256 : Nat) : Int) by rw [Int.natCast_mul]; rfl, u64_or_nat _ _ (by omega) (by omega), or_byte _ _ (by omega)]
    have HOR := ϕ hor
    clear hor
    go_wp2
    go_round
    case rel => exact ⟨j + 1, by omega, by go_num, by rw [HOR.out]⟩
    case measure => simp [intOf]; omega
  · obtain rfl : j = r.size := by omega
    have HT := ϕ (show r.data.toList.take r.size = r.data.toList from List.take_of_length_le (by rw [Array.length_toList]; exact Nat.le_refl _))
    go_wp2
    go_ret
    exact ⟨by show Ending.returned (.int .u64 ((numV (r.data.toList.take r.size) : Nat) : Int)) = _; rw [HT.out], HIn.out, HGY.out⟩
theorem num1_lt (s : ByteArray) (c : Nat) : numV (rawR s c 1).data.toList < 256 := by
 have h := numV_lt (rawR s c 1).data.toList
 have h2 := rawR_size s c 1
 have h3 : 256 ^ (rawR s c 1).data.toList.length ≤ 256 ^ 1 := Nat.pow_le_pow_right (by decide) (by rw [Array.length_toList]; exact rawR_size s c 1)
 have h4 : (256 : Nat) ^ 1 = 256 := by decide
 omega
theorem InByte_any (w : World) (E : Nat → Value) (b : Nat) (s : ByteArray) (c : Nat) (hs : s.size ≤ 9223372036854775807) (hE : Errs w E) (hb : Gl b) (h : IsIn w b s (evV E c)) :
 Calls prog 126 #[.pointer (some ⟨b, 0, none⟩)] w (Gave E b w (.int .u8 (numV (rawR s c 1).data.toList : Nat)) (rawS s c 1) (rawC s c 1)) := by
 have H := ϕ h
 have HE := ϕ hE
 have hn := num1_lt s c
 clear h hE
 go_enter func126, ntmps126
 go_wp2_with (go_at_call 149; refine (InNum_any w E b s c 1 (by decide) hs HE.out hb H.out).mono ?_; rintro e w1 ⟨rfl, h1, hg1⟩; have H1 := ϕ h1; have HG1 := ϕ hg1; clear h1 hg1)
 go_ret
 exact ⟨by first | rfl | simp | (simp; omega), H1.out, HG1.out⟩
theorem num4_lt (s : ByteArray) (c : Nat) : numV (rawR s c 4).data.toList < 4294967296 := by
 have h := numV_lt (rawR s c 4).data.toList
 have h2 := rawR_size s c 4
 have h3 : 256 ^ (rawR s c 4).data.toList.length ≤ 256 ^ 4 := Nat.pow_le_pow_right (by decide) (by rw [Array.length_toList]; exact rawR_size s c 4)
 have h4 : (256 : Nat) ^ 4 = 4294967296 := by decide
 omega
theorem InU32_any (w : World) (E : Nat → Value) (b : Nat) (s : ByteArray) (c : Nat) (hs : s.size ≤ 9223372036854775807) (hE : Errs w E) (hb : Gl b) (h : IsIn w b s (evV E c)) :
 Calls prog 127 #[.pointer (some ⟨b, 0, none⟩)] w (Gave E b w (.int .u32 (numV (rawR s c 4).data.toList : Nat)) (rawS s c 4) (rawC s c 4)) := by
 have H := ϕ h
 have HE := ϕ hE
 have hn := num4_lt s c
 clear h hE
 go_enter func127, ntmps127
 go_wp2_with (go_at_call 149; refine (InNum_any w E b s c 4 (by decide) hs HE.out hb H.out).mono ?_; rintro e w1 ⟨rfl, h1, hg1⟩; have H1 := ϕ h1; have HG1 := ϕ hg1; clear h1 hg1)
 go_ret
 exact ⟨by first | rfl | simp | (simp; omega), H1.out, HG1.out⟩
def byteR (s : ByteArray) (c : Nat) : Nat := numV (rawR s c 1).data.toList
theorem InBool_any (w : World) (E : Nat → Value) (b : Nat) (s : ByteArray) (c : Nat) (hs : s.size ≤ 9223372036854775807) (hE : Errs w E) (hb : Gl b) (h : IsIn w b s (evV E c)) :
 Calls prog 91 #[.pointer (some ⟨b, 0, none⟩)] w (Gave E b w (.bool (numV (rawR s c 1).data.toList != 0)) (rawS s c 1) (rawC s c 1)) := by
 have H := ϕ h
 have HE := ϕ hE
 have hn := num1_lt s c
 clear h hE
 go_enter func91, ntmps91
 go_wp2_with (go_at_call 126; refine (InByte_any w E b s c hs HE.out hb H.out).mono ?_; rintro e w1 ⟨rfl, h1, hg1⟩; have H1 := ϕ h1; have HG1 := ϕ hg1; clear h1 hg1)
 go_ret
 refine ⟨?_, H1.out, HG1.out⟩
 show Ending.returned (.bool (!(((numV (rawR s c 1).data.toList : Nat) : Int) == 0))) = _
 congr 2
 rw [Bool.eq_iff_iff]; simp
def txtN (s : ByteArray) (c : Nat) : Nat := numV (rawR s c 4).data.toList
def txtBig (s : ByteArray) (c : Nat) (most : Int) : Bool := decide (rawC s c 4 = 0 ∧ most < (txtN s c : Int))
def txtR (s : ByteArray) (c : Nat) (most : Int) : ByteArray := if txtBig s c most then ⟨#[]⟩ else rawR (rawS s c 4) (rawC s c 4) (txtN s c)
def txtS (s : ByteArray) (c : Nat) (most : Int) : ByteArray := if txtBig s c most then ⟨#[]⟩ else rawS (rawS s c 4) (rawC s c 4) (txtN s c)
def txtC (s : ByteArray) (c : Nat) (most : Int) : Nat := if txtBig s c most then 4 else rawC (rawS s c 4) (rawC s c 4) (txtN s c)
theorem rawS_size (s : ByteArray) (c n : Nat) : (rawS s c n).size ≤ s.size := by
 unfold rawS; split
 · split
   · rw [ByteArray.size_extract]; omega
   · exact Nat.zero_le _
 · exact Nat.le_refl _
theorem InText_any (w : World) (E : Nat → Value) (b : Nat) (s : ByteArray) (c : Nat) (most : Int) (hs : s.size ≤ 9223372036854775807) (hE : Errs w E) (hb : Gl b) (h : IsIn w b s (evV E c)) :
 Calls prog 92 #[.pointer (some ⟨b, 0, none⟩), .int .i64 most] w (Gave E b w (.string (txtR s c most)) (txtS s c most) (txtC s c most)) := by
 have H := ϕ h
 have HE := ϕ hE
 have hn : txtN s c < 4294967296 := num4_lt s c
 have hsz := rawS_size s c 4
 obtain ⟨s1, hs1⟩ : ∃ s1, rawS s c 4 = s1 := exr
 obtain ⟨c1, hc1⟩ : ∃ c1, rawC s c 4 = c1 := exr
 obtain ⟨n, hn1⟩ : ∃ n, txtN s c = n := exr
 rw [hs1] at hsz
 rw [hn1] at hn
 have HS1 := ϕ hs1
 have HC1 := ϕ hc1
 have HN1 := ϕ hn1
 clear h hE hs1 hc1 hn1
 by_cases hz : c1 = 0
 · subst hz
   by_cases hm : most < (n : Int)
   · have HR := ϕ (show txtBig s c most = true by unfold txtBig; rw [HC1.out, HN1.out]; simp; exact hm)
     obtain ⟨a4, ha4⟩ := HE.out.is 4 (by decide)
     have HA := ϕ ha4
     clear ha4
     go_enter func92, ntmps92
     go_wp2_with (first
      | (go_at_call 127; refine (InU32_any w E b s c hs HE.out hb H.out).mono ?_; rintro e w1 ⟨rfl, h1, hg1⟩; skip
         rw [HS1.out, HC1.out, evV_zero] at h1
         rw [show numV (rawR s c 4).data.toList = n from HN1.out]
         have hc1 : w1.cell? ⟨b, 1, none⟩ = some .nilIface := h1.cell 1 rfl
         have hE1 := HE.out.keep hg1 hb
         have hbg := hE1.big
         rw [HA.out] at hbg
         have HE1 := ϕ hE1
         have H1 := ϕ h1; have HG1 := ϕ hg1; clear h1 hg1 hE1)
      | (go_at_call 128; refine (fail_none w1 b s1 _ _ H1.out).mono ?_; rintro e w2 ⟨rfl, h2, hg2⟩; skip
         rw [← HA.out] at h2
         have H2 := ϕ (show IsIn w2 b ⟨#[]⟩ (evV E 4) from h2); have HE2 := ϕ (HE1.out.keep hg2 hb); have HG2 := ϕ (World.grownBy.trans HG1.out hg2); clear h2 hg2 hc1 hbg)
      | (go_at_call 129; refine (InRaw_any w2 E b ⟨#[]⟩ 4 _ (by omega) (by decide) HE2.out hb H2.out).mono ?_; rintro e w3 ⟨rfl, h3, hg3⟩; skip
         have H3 := ϕ h3; have HG3 := ϕ (World.grownBy.trans HG2.out hg3); clear h3 hg3))
     go_ret
     refine ⟨?_, ?_, HG3.out⟩
     · unfold txtR; rw [HR.out, if_pos rfl]; rfl
     · unfold txtS txtC; rw [HR.out, if_pos rfl, if_pos rfl]; exact H3.out
   · have HR := ϕ (show txtBig s c most = false by unfold txtBig; rw [HC1.out, HN1.out]; simp; omega)
     have hd : ¬ most < (n : Int) := hm
     go_enter func92, ntmps92
     go_wp2_with (first
      | (go_at_call 127; refine (InU32_any w E b s c hs HE.out hb H.out).mono ?_; rintro e w1 ⟨rfl, h1, hg1⟩; skip
         rw [HS1.out, HC1.out] at h1
         rw [show numV (rawR s c 4).data.toList = n from HN1.out]
         have hc1 : w1.cell? ⟨b, 1, none⟩ = some .nilIface := h1.cell 1 rfl
         have HE1 := ϕ (HE.out.keep hg1 hb)
         have H1 := ϕ h1; have HG1 := ϕ hg1; clear h1 hg1)
      | (go_at_call 129; refine (InRaw_any w1 E b s1 0 _ (by omega) (by omega) HE1.out hb H1.out).mono ?_; rintro e w3 ⟨rfl, h3, hg3⟩; skip
         have H3 := ϕ h3; have HG3 := ϕ (World.grownBy.trans HG1.out hg3); clear h3 hg3))
     go_ret
     refine ⟨?_, ?_, HG3.out⟩
     · unfold txtR; rw [HR.out, if_neg (by decide), HS1.out, HC1.out, HN1.out]; rfl
     · unfold txtS txtC; rw [HR.out, if_neg (by decide), if_neg (by decide), HS1.out, HC1.out, HN1.out]; exact H3.out
 · have HR := ϕ (show txtBig s c most = false by unfold txtBig; rw [HC1.out]; simp [hz])
   obtain ⟨ac, hac⟩ := HE.out.is c1 hz
   have HEV := ϕ (show evV E c1 = .iface 271 (.pointer (some ac)) by rw [evV_pos E hz, hac])
   clear hac hz
   go_enter func92, ntmps92
   go_wp2_with (first
    | (go_at_call 127; refine (InU32_any w E b s c hs HE.out hb H.out).mono ?_; rintro e w1 ⟨rfl, h1, hg1⟩; skip
       rw [HS1.out, HC1.out] at h1
       rw [show numV (rawR s c 4).data.toList = n from HN1.out]
       have h1x := h1; rw [HEV.out] at h1x; have hc1 : w1.cell? ⟨b, 1, none⟩ = some (.iface 271 (.pointer (some ac))) := h1x.cell 1 rfl; clear h1x
       have HE1 := ϕ (HE.out.keep hg1 hb)
       have H1 := ϕ h1; have HG1 := ϕ hg1; clear h1 hg1)
    | (go_at_call 129; refine (InRaw_any w1 E b s1 c1 _ (by omega) (by omega) HE1.out hb H1.out).mono ?_; rintro e w3 ⟨rfl, h3, hg3⟩; skip
       have H3 := ϕ h3; have HG3 := ϕ (World.grownBy.trans HG1.out hg3); clear h3 hg3))
   go_ret
   refine ⟨?_, ?_, HG3.out⟩
   · unfold txtR; rw [HR.out, if_neg (by decide), HS1.out, HC1.out, HN1.out]; rfl
   · unfold txtS txtC; rw [HR.out, if_neg (by decide), if_neg (by decide), HS1.out, HC1.out, HN1.out]; exact H3.out
theorem Of_any (w : World) (s : ByteArray) :
 Calls prog 90 #[.string s] w fun e w' => e = .returned (.pointer (some ⟨w.heap.size, 0, none⟩)) ∧ IsIn w' w.heap.size s .nilIface ∧ Below w.heap.size w w' := by
 have HI := ϕ (show IsIn (w.alloc (.cells #[.string s, .nilIface] 201)) w.heap.size s .nilIface from Rg.Blk.new w _ _)
 have HB := ϕ (show Below w.heap.size w (w.alloc (.cells #[.string s, .nilIface] 201)) from (Below.refl _ _).alloc (Nat.le_refl _) _)
 go_enter func90, ntmps90
 go_wp2
 go_ret
 exact ⟨rfl, HI.out, HB.out⟩
def endC (s : ByteArray) (c : Nat) : Nat := if c = 0 ∧ s.size ≠ 0 then 3 else c
def endS (s : ByteArray) (c : Nat) : ByteArray := if c = 0 then ⟨#[]⟩ else s
theorem empty_of_size {s : ByteArray} (h : s.size = 0) : s = ⟨#[]⟩ := by
 apply ByteArray.ext; apply Array.toList_inj.1
 exact List.eq_nil_of_length_eq_zero (by rw [Array.length_toList]; exact h)
theorem toList_empty {s : ByteArray} (h : s.size = 0) : s.toList = [] := by rw [ByteArray.toList_eq, empty_of_size h]
theorem toList_ne {s : ByteArray} (h : s.size ≠ 0) : s.toList.isEmpty = false := by
 rw [List.isEmpty_eq_false_iff, ByteArray.toList_eq]
 intro e
 have := congrArg List.length e
 rw [Array.length_toList] at this
 exact h this
theorem InEnd_any (w : World) (E : Nat → Value) (b : Nat) (s : ByteArray) (c : Nat) (hE : Errs w E) (hb : Gl b) (h : IsIn w b s (evV E c)) :
 Calls prog 93 #[.pointer (some ⟨b, 0, none⟩)] w (Gave E b w (evV E (endC s c)) (endS s c) (endC s c)) := by
 have H := ϕ h
 have HE := ϕ hE
 have h0 := H.out.cell 0 (v := .string s) rfl
 by_cases hs : s.size = 0
 · have hl := toList_empty hs
   have hl2 : s.toList.isEmpty = true := by rw [hl]; rfl
   have HC := ϕ (show endC s c = c from if_neg fun e => e.2 hs)
   have HS := ϕ (show endS s c = s by unfold endS; split; exact (empty_of_size hs).symm; rfl)
   have h1 := H.out.cell 1 (v := evV E c) rfl
   clear h hE hs
   go_enter func93, ntmps93
   go_wp2
   go_ret
   exact ⟨by rw [HC.out]; rfl, by rw [HC.out, HS.out]; exact H.out, World.grownBy.refl _ _⟩
 · have hl2 := toList_ne hs
   obtain ⟨a3, ha3⟩ := HE.out.is 3 (by decide)
   have hfm := HE.out.form
   rw [ha3] at hfm
   have HA := ϕ ha3
   clear ha3
   by_cases hz : c = 0
   · subst hz
     have HC := ϕ (show endC s 0 = 3 from if_pos ⟨rfl, hs⟩)
     have HS := ϕ (show endS s 0 = ⟨#[]⟩ from rfl)
     clear h hE hs
     go_enter func93, ntmps93
     go_wp2_with (go_at_call 128; refine (fail_none w b s _ _ H.out).mono ?_; rintro e w2 ⟨rfl, h2, hg2⟩; skip
                  have h3 := h2.cell 1 (v := .iface 271 (.pointer (some a3))) rfl
                  rw [← HA.out] at h2
                  have H2 := ϕ (show IsIn w2 b ⟨#[]⟩ (evV E 3) from h2); have HG2 := ϕ hg2; clear h2 hg2)
     go_ret
     exact ⟨by rw [HC.out]; show _ = Ending.returned (E 3); rw [HA.out]; rfl, by rw [HC.out, HS.out]; exact H2.out, HG2.out⟩
   · have HC := ϕ (show endC s c = c from if_neg fun e => hz e.1)
     have HS := ϕ (show endS s c = s from if_neg hz)
     obtain ⟨ac, hac⟩ := HE.out.is c hz
     have HEV := ϕ (show evV E c = .iface 271 (.pointer (some ac)) by rw [evV_pos E hz, hac])
     have h1 : w.cell? ⟨b, 1, none⟩ = some (.iface 271 (.pointer (some ac))) := by rw [HEV.out] at h; exact h.cell 1 rfl
     have H' := ϕ (HEV.out ▸ h)
     clear h hE hs hac hz
     go_enter func93, ntmps93
     go_wp2_with (go_at_call 128; refine (fail_some w b s _ _ _ H'.out).mono ?_; rintro e w2 ⟨rfl, rfl⟩; skip)
     go_ret
     exact ⟨by rw [HC.out, HEV.out]; rfl, by rw [HC.out, HS.out]; exact H.out, World.grownBy.refl _ _⟩
def okB (x : UInt8) : Bool := decide (33 ≤ x.toNat) && decide (x.toNat ≤ 126) && decide (x.toNat ≠ 44)
def nameB (l : List UInt8) : Bool := l.all okB && decide (0 < l.length) && decide (l.length ≤ 64)
theorem all_take_succ (l : List UInt8) (k : Nat) (x : UInt8) (hx : l[k]? = some x) (h : (l.take k).all okB = true) (ho : okB x = true) : (l.take (k + 1)).all okB = true := by
 rw [List.take_add_one, hx, List.all_append, h]; simp [ho]
theorem nameB_bad (l : List UInt8) (k : Nat) (x : UInt8) (hx : l[k]? = some x) (ho : okB x = false) : nameB l = false := by
 have : l.all okB = false := by
  rw [Bool.eq_false_iff]
  intro h
  have := List.all_eq_true.1 h x (List.mem_of_getElem? hx)
  rw [ho] at this; cases this
 unfold nameB; rw [this]; rfl
theorem get_list (s : ByteArray) (k : Nat) (h : k < s.size) : s.data.toList[k]? = some s[k] := by rw [List.getElem?_eq_getElem (by rw [Array.length_toList]; exact h)]; rfl
theorem Name_any (w : World) (s : ByteArray) (hs : s.size ≤ 9223372036854775807) :
 Calls prog 104 #[.string s] w fun e w' => e = .returned (.bool (nameB s.data.toList)) ∧ w = w' := by
 have HL := ϕ (show s.data.toList.length = s.size from Array.length_toList)
 go_enter func104, ntmps104
 go_wp2
 go_loop [6] (fun i => ∃ k : Nat, k ≤ s.size ∧ i = .int .i64 k ∧ (s.data.toList.take k).all okB = true) (fun i => s.size - (intOf i).toNat)
 case atStart => exact ⟨0, Nat.zero_le _, rfl, rfl⟩
 case round =>
  obtain ⟨k, hk, rfl, hall⟩ := hrel
  have HAll := ϕ hall
  clear hall
  by_cases hlt : k < s.size
  · have hik : (k : Int) < s.size := by omega
    have HX := ϕ (get_list s k hlt)
    by_cases h1 : s[k].toNat < 33
    · have HV := ϕ (nameB_bad _ _ _ HX.out (show okB s[k] = false by unfold okB; simp; omega))
      have hd : decide ((s[k].toNat : Int) < 33) = true := by simp; omega
      clear h1
      go_wp2
      go_ret
      exact ⟨by rw [HV.out]; rfl, rfl⟩
    · have hd1 : decide ((s[k].toNat : Int) < 33) = false := by simp; omega
      by_cases h2 : 126 < s[k].toNat
      · have HV := ϕ (nameB_bad _ _ _ HX.out (show okB s[k] = false by unfold okB; simp; omega))
        have hd : decide ((126 : Int) < (s[k].toNat : Int)) = true := by simp; omega
        clear h1 h2
        go_wp2
        go_ret
        exact ⟨by rw [HV.out]; rfl, rfl⟩
      · have hd2 : decide ((126 : Int) < (s[k].toNat : Int)) = false := by rw [decide_eq_false_iff_not]; omega
        by_cases h3 : s[k].toNat = 44
        · have HV := ϕ (nameB_bad _ _ _ HX.out (show okB s[k] = false by unfold okB; simp [h3]))
          have hd3 : ((s[k].toNat : Int) == 44) = true := by simp; omega
          clear h1 h2 h3
          go_wp2
          go_ret
          exact ⟨by rw [HV.out]; rfl, rfl⟩
        · have HAll' := ϕ (all_take_succ _ _ _ HX.out HAll.out (show okB s[k] = true by unfold okB; simp; omega))
          have hd3 : ((s[k].toNat : Int) == 44) = false := by simp; omega
          clear h1 h2 h3
          go_wp2
          go_round
          case rel =>
           first
            | exact ⟨k + 1, by omega, by go_num, HAll'.out⟩
            | ((repeat apply Exists.intro); refine ⟨?_, rfl⟩; exact ⟨k + 1, by omega, by go_num, HAll'.out⟩)
          case measure => simp [intOf]; omega
  · obtain rfl : k = s.size := by omega
    have HA := ϕ (show s.data.toList.all okB = true by have := HAll.out; rwa [List.take_of_length_le (by rw [HL.out]; exact Nat.le_refl _)] at this)
    clear HAll
    by_cases h0 : s.size = 0
    · have hl := toList_empty h0
      have hl2 : s.toList.isEmpty = true := by rw [hl]; rfl
      have HV := ϕ (show nameB s.data.toList = false by unfold nameB; rw [HL.out, h0]; simp)
      clear h0
      go_wp2
      go_ret
      exact ⟨by rw [HV.out]; rfl, rfl⟩
    · have hl2 := toList_ne h0
      by_cases h64 : s.size ≤ 64
      · have HV := ϕ (show nameB s.data.toList = true by unfold nameB; rw [HL.out, HA.out, decide_eq_true (show 0 < s.size by omega), decide_eq_true h64]; rfl)
        have hd : decide ((s.size : Int) ≤ 64) = true := by simp; omega
        clear h0
        go_wp2
        go_ret
        exact ⟨by rw [HV.out]; rfl, rfl⟩
      · have HV := ϕ (show nameB s.data.toList = false by unfold nameB; rw [HL.out, decide_eq_false h64]; simp)
        have hd : decide ((s.size : Int) ≤ 64) = false := by simp; omega
        clear h0
        go_wp2
        go_ret
        exact ⟨by rw [HV.out]; rfl, rfl⟩
theorem txtR_size (s : ByteArray) (c : Nat) (most : Int) : (txtR s c most).size ≤ s.size := by
 unfold txtR
 split
 · exact Nat.zero_le _
 · unfold rawR
   split
   · rw [ByteArray.size_extract]
     have := rawS_size s c 4
     omega
   · exact Nat.zero_le _
theorem infoU8 : (prog.info? 5).map (fun i => (i.zero, i.size, i.bytes)) = some (some (.int .u8 0), 1, 1) := by kernel_rfl
def mkS (l : List UInt8) : ByteArray := ⟨l.toArray⟩
theorem mkS_list (l : List UInt8) : (mkS l).data.toList = l := rfl
theorem mkS_size (l : List UInt8) : (mkS l).size = l.length := List.size_toArray
theorem mkS_of (s : ByteArray) : mkS s.data.toList = s := by apply ByteArray.ext; apply Array.toList_inj.1; rfl
open Go.Proofs.YtciibogkfbicfaaGreatDoor.Cl Go.Proofs.YtciibogkfbicfaaGreatDoor.Cv
variable {P : Program}
theorem store_slice {ops : Array Oper} {rest : List Oper} {o : Oper} {a : Act} {w : World} {Q : Exit → Act → World → Prop} (hgd : o.guard = none) (ty : TypeId) (x y : Operand) (ho : o.op = .store ty x y)
 {b j T : Nat} {cs : Array Value} {old : Value} {A : Option Addr} {n c : Nat} {e : TypeId} (hx : a.eval x = .pointer (some ⟨b, j, none⟩)) (hy : a.eval y = .slice A n c) (hu : P.underlying ty = some (.slice e)) (hi : (P.info? ty).map (·.size) = some 1) (hR : Rg.Blk w b T cs) (hj : cs[j]? = some old)
 (h : ∀ w', Rg.Blk w' b T (cs.setIfInBounds j (.slice A n c)) → w.grownBy w' (some b) → wpList P ops Q rest (a.put o.dst undef) w') : wpList P ops Q (o :: rest) a w :=
 wpList_plain hgd fun _ hK => by
  have hx' := hx
  have hy' := hy
  have hc := hR.cell j hj
  have hf := hR.frozen j
  simp [go_sem] at hx' hy'
  unfold Oper.wp execOp
  cases hq : P.info? ty with
  | none => simp [hq] at hi
  | some i =>
  have hs : i.size = 1 := by simpa [hq] using hi
  simp [ho, hx', hy', go_sem, hc, hf, hu, sizeOf, typeInfo, hq, hs]
  have hB : Rg.Blk (w.setCell ⟨b, j, none⟩ (.slice A n c)) b T (cs.setIfInBounds j (.slice A n c)) := by
   have h2 := hR
   unfold Rg.Blk at *
   rw [heap_setCell_same w b j _ _ _ h2]
  have := hK _ _ (h _ hB (grown_setCell w b j _))
  simpa [go_sem] using this
def RdS (w : World) (B : Nat) (A : Option Addr) (xs : List Value) : Prop := ∀ (j : Nat) (x : Value), xs[j]? = some x → ∃ (g : Nat) (cur : Array Value) (fz : Nat × Nat), A = some ⟨g, 0, none⟩ ∧ B ≤ g ∧ w.heap[g]? = some (.cells cur 9 fz) ∧ cur[j]? = some x
theorem RdS.below {w w' : World} {B : Nat} {A : Option Addr} {xs : List Value} (h : RdS w B A xs) (hb : Below w.heap.size w w') : RdS w' B A xs := fun j x hx => by
 obtain ⟨g, cur, fz, hA, hB, hg, hc⟩ := h j x hx
 exact ⟨g, cur, fz, hA, hB, (hb.block g (Array.getElem?_eq_some_iff.1 hg).1).trans hg, hc⟩
theorem RdS.of {w : World} {B C : Nat} {A : Option Addr} {n c : Nat} {xs : List Value} (h : Owns w B 9 (.slice A n c) xs) (hC : C ≤ B) : RdS w C A xs := fun j x hx => by
 rcases h.2 with ⟨_, h0⟩ | ⟨g, cap, cur, hv, hB, hg, _⟩
 · rw [List.eq_nil_of_length_eq_zero h0] at hx; simp at hx
 · have hcell := World.ownsRow.cells h (g := g) (by rw [hv]; rfl) j x hx
   have hadd : (⟨g, 0, none⟩ : Addr).add j = ⟨g, j, none⟩ := by unfold Addr.add; split <;> simp_all
   rw [hadd] at hcell
   injection hv with e1 _ _
   exact ⟨g, cur, _, e1, Nat.le_trans hC hB, hg, (Lib.cell_of_heap hg j).symm.trans hcell⟩
end Go.Proofs.YtciibogkfbicfaaGreatDoor.Wi
namespace Go.Proofs.YtciibogkfbicfaaGreatDoor.Wi
open Go.RowKit Go.Proofs.YtciibogkfbicfaaGreatDoor.Ow Go.Proofs.YtciibogkfbicfaaGreatDoor.Be
def okN (x : ByteArray) : Bool := nameB x.data.toList
theorem all_take (l : List ByteArray) (k : Nat) (x : ByteArray) (hx : l[k]? = some x) (h : (l.take k).all okN = true) (ho : okN x = true) : (l.take (k + 1)).all okN = true := by
 rw [List.take_add_one, hx, List.all_append, h]; simp [ho]
theorem all_bad (l : List ByteArray) (k : Nat) (x : ByteArray) (hx : l[k]? = some x) (ho : okN x = false) : l.all okN = false := by
 rw [List.all_eq_false]
 exact ⟨x, List.mem_of_getElem? hx, by simp [ho]⟩
theorem raw_back (s : ByteArray) (a b : List UInt8) (n : Nat) (hs : s.data.toList = a ++ b) (hn : a.length = n) : (rawR s 0 n).data.toList = a ∧ (rawS s 0 n).data.toList = b ∧ rawC s 0 n = 0 := by
 have hz : s.size = a.length + b.length := by rw [← qu_, hs, List.length_append]
 have hle : n ≤ s.size := by omega
 refine ⟨?_, ?_, ?_⟩
 · unfold rawR
   rw [if_pos ⟨rfl, hle⟩]
   have : (s.extract 0 n).data.toList = s.data.toList.take n := by simp only [ByteArray.data_extract, Array.toList_extract, List.extract_eq_take_drop, List.drop_zero, Nat.sub_zero]
   rw [this, hs, ← hn, List.take_left]
 · unfold rawS
   rw [if_pos rfl, if_pos hle]
   have : (s.extract n s.size).data.toList = s.data.toList.drop n := by
    simp only [ByteArray.data_extract, Array.toList_extract, List.extract_eq_take_drop]
    rw [List.take_of_length_le (by rw [List.length_drop, qu_]; omega)]
   rw [this, hs, ← hn, List.drop_left]
 · unfold rawC
   rw [if_pos rfl, if_pos hle]
theorem numV_be : ∀ (k N : Nat), numV (be k N) = N % 256 ^ k
 | 0, N => by simp [numV, be, Nat.mod_one]
 | k + 1, N => by
  have h : ∀ (l : List UInt8) (a : Nat), l.foldl (fun a (x : UInt8) => a * 256 + x.toNat) a = a * 256 ^ l.length + numV l := by
   intro l
   induction l with
   | nil => intro a; simp [numV]
   | cons y l ih =>
    intro a
    have h0 := ih (0 * 256 + y.toNat)
    have h1 := ih (a * 256 + y.toNat)
    unfold numV at *
    rw [List.foldl_cons, List.foldl_cons, h1, h0, List.length_cons, Nat.pow_succ]
    simp only [Nat.add_mul, Nat.mul_assoc, Nat.zero_mul, Nat.zero_add, Nat.mul_comm 256]
    omega
  have ih := numV_be k N
  show List.foldl _ 0 (UInt8.ofNat (N / 256 ^ k) :: be k N) = _
  rw [List.foldl_cons, h, be_length, ih, UInt8.toNat_ofNat']
  have e : N % (256 ^ k * 256) = N % 256 ^ k + 256 ^ k * (N / 256 ^ k % 256) := Nat.mod_mul
  rw [show (256 : Nat) ^ (k + 1) = 256 ^ k * 256 from rfl, e, Nat.mul_comm (256 ^ k), Nat.zero_mul, Nat.zero_add]
  exact Nat.add_comm _ _
theorem txt_back (s : ByteArray) (a b : List UInt8) (most : Int) (hs : s.data.toList = textL a ++ b) (ha : a.length < 4294967296) (hm : (a.length : Int) ≤ most) :
 (txtR s 0 most).data.toList = a ∧ (txtS s 0 most).data.toList = b ∧ txtC s 0 most = 0 := by
 unfold textL at hs
 rw [List.append_assoc] at hs
 obtain ⟨h1, h2, h3⟩ := raw_back s (be 4 a.length) (a ++ b) 4 hs (be_length _ _)
 have hn : txtN s 0 = a.length := by
  unfold txtN; rw [h1, numV_be]; exact Nat.mod_eq_of_lt ha
 have hb : txtBig s 0 most = false := by
  unfold txtBig; rw [hn]; simp; intro _; omega
 obtain ⟨g1, g2, g3⟩ := raw_back (rawS s 0 4) a b a.length h2 rfl
 unfold txtR txtS txtC
 rw [hb, h3, hn]
 exact ⟨g1, g2, g3⟩
attribute [local go_sem ↓] Go.wp_at_zero Go.wp_at_succ
end Go.Proofs.YtciibogkfbicfaaGreatDoor.Wi
namespace Go.Proofs.YtciibogkfbicfaaGreatDoor.Bl
open Go.RowKit Go.Proofs.YtciibogkfbicfaaGreatDoor.Wi Go.Proofs.YtciibogkfbicfaaGreatDoor.Ow Go.Proofs.YtciibogkfbicfaaGreatDoor.Be
@[irreducible] def algoB : ByteArray := ⟨#[115, 115, 104, 45, 101, 100, 50, 53, 53, 49, 57]⟩
theorem algo_eq : (⟨#[115, 115, 104, 45, 101, 100, 50, 53, 53, 49, 57]⟩ : ByteArray) = algoB := by unfold algoB; rfl
theorem jj_ : algoB.size = 11 := by unfold algoB; rfl
theorem algo_list : algoB.toList = [115, 115, 104, 45, 101, 100, 50, 53, 53, 49, 57] := by rw [ByteArray.toList_eq]; unfold algoB; rfl
def blobL (l : List UInt8) : List UInt8 := textL algoB.data.toList ++ textL l
theorem qx_ (l : List UInt8) : (blobL l).length = 19 + l.length := by
 unfold blobL textL
 simp only [List.length_append, be_length, qu_, jj_]
 omega
def opW (s : ByteArray) : ByteArray := txtR s 0 s.size
def opX (s : ByteArray) : ByteArray := txtR (txtS s 0 s.size) (txtC s 0 s.size) s.size
def opS (s : ByteArray) : ByteArray := txtS (txtS s 0 s.size) (txtC s 0 s.size) s.size
def opE (s : ByteArray) : Nat := txtC (txtS s 0 s.size) (txtC s 0 s.size) s.size
def opC (s : ByteArray) (size wrong : Nat) : Nat :=
 if endC (opS s) (opE s) ≠ 0 then endC (opS s) (opE s) else if opW s = algoB ∧ (opX s).size = size then 0 else wrong
def opR (s : ByteArray) (size wrong : Nat) : ByteArray := if opC s size wrong = 0 then opX s else ⟨#[]⟩
theorem opR_size (s : ByteArray) (size wrong : Nat) (hw : wrong ≠ 0) (h : opC s size wrong = 0) : (opR s size wrong).size = size ∧ opR s size wrong = opX s := by
 have e : opR s size wrong = opX s := by unfold opR; rw [if_pos h]
 refine ⟨?_, e⟩
 rw [e]
 unfold opC at h
 split at h
 · rename_i h2; exact absurd h h2
 · split at h
   · rename_i h3; exact h3.2
   · exact absurd h hw
theorem blob_back (s : ByteArray) (l : List UInt8) (hs : s.data.toList = blobL l) (hl : l.length ≤ 1000) (wrong : Nat) : opC s l.length wrong = 0 ∧ (opR s l.length wrong).data.toList = l := by
 have hz : s.size = 19 + l.length := by rw [← qu_, hs, qx_]
 obtain ⟨a1, a2, a3⟩ := txt_back s algoB.data.toList (textL l) s.size (by rw [hs]; rfl) (by rw [qu_, jj_]; omega) (by rw [qu_, jj_, hz]; omega)
 obtain ⟨b1, b2, b3⟩ := txt_back (txtS s 0 s.size) l [] s.size (by rw [a2, List.append_nil]) (by omega) (by rw [hz]; omega)
 have hE : opE s = 0 := by unfold opE; rw [a3]; exact b3
 have hS : (opS s).size = 0 := by unfold opS; rw [a3, ← qu_, b2]; rfl
 have hX : (opX s).data.toList = l := by unfold opX; rw [a3]; exact b1
 have hW : opW s = algoB := by unfold opW; apply ByteArray.ext; apply Array.toList_inj.1; exact a1
 have hC : opC s l.length wrong = 0 := by
  unfold opC
  have : endC (opS s) (opE s) = 0 := by unfold endC; rw [hE, hS]; rfl
  rw [this, if_neg (by simp), if_pos ⟨hW, by rw [← qu_, hX]⟩]
 exact ⟨hC, by unfold opR; rw [if_pos hC, hX]⟩
end Go.Proofs.YtciibogkfbicfaaGreatDoor.Bl
namespace Go.Proofs.YtciibogkfbicfaaGreatDoor.Au
open Go.RowKit Go.Proofs.YtciibogkfbicfaaGreatDoor.Wi Go.Proofs.YtciibogkfbicfaaGreatDoor.Ow Go.Proofs.YtciibogkfbicfaaGreatDoor.Be Go.Proofs.YtciibogkfbicfaaGreatDoor.Bl
@[irreducible] def connB : ByteArray := ⟨#[115, 115, 104, 45, 99, 111, 110, 110, 101, 99, 116, 105, 111, 110]⟩
@[irreducible] def methB : ByteArray := ⟨#[112, 117, 98, 108, 105, 99, 107, 101, 121]⟩
@[irreducible] def authB : ByteArray := ⟨#[115, 115, 104, 45, 117, 115, 101, 114, 97, 117, 116, 104]⟩
theorem conn_eq : (⟨#[115, 115, 104, 45, 99, 111, 110, 110, 101, 99, 116, 105, 111, 110]⟩ : ByteArray) = connB := by unfold connB; rfl
theorem meth_eq : (⟨#[112, 117, 98, 108, 105, 99, 107, 101, 121]⟩ : ByteArray) = methB := by unfold methB; rfl
theorem auth_eq : (⟨#[115, 115, 104, 45, 117, 115, 101, 114, 97, 117, 116, 104]⟩ : ByteArray) = authB := by unfold authB; rfl
theorem conn_size : connB.size = 14 := by unfold connB; rfl
theorem meth_size : methB.size = 9 := by unfold methB; rfl
theorem auth_size : authB.size = 12 := by unfold authB; rfl
def sgdL (id user key : List UInt8) : List UInt8 :=
 ((((((([] ++ textL id) ++ [50]) ++ textL user) ++ textL connB.data.toList) ++ textL methB.data.toList) ++ [1]) ++ textL algoB.data.toList) ++ textL (blobL key)
def reqL (key sig : List UInt8) : List UInt8 := ((([] ++ [1]) ++ textL algoB.data.toList) ++ textL (blobL key)) ++ textL (blobL sig)
theorem jd_ (l : List UInt8) : (textL l).length = 4 + l.length := by unfold textL; rw [List.length_append, be_length]
theorem sgdL_length {id user key : List UInt8} (h1 : id.length = 32) (h2 : key.length = 32) : (sgdL id user key).length = 143 + user.length := by
 unfold sgdL
 simp only [List.length_append, List.length_nil, List.length_cons, jd_, qx_, qu_, conn_size, meth_size, jj_, h1, h2]
 omega
theorem reqL_length {key sig : List UInt8} (h2 : key.length = 32) (h3 : sig.length = 64) : (reqL key sig).length = 158 := by
 unfold reqL
 simp only [List.length_append, List.length_nil, List.length_cons, jd_, qx_, qu_, jj_, h2, h3]
def rdB (s : ByteArray) : Nat := byteR s 0
def rdS0 (s : ByteArray) : ByteArray := rawS s 0 1
def rdC0 (s : ByteArray) : Nat := rawC s 0 1
def rdW (s : ByteArray) : ByteArray := txtR (rdS0 s) (rdC0 s) s.size
def rdS1 (s : ByteArray) : ByteArray := txtS (rdS0 s) (rdC0 s) s.size
def rdC1 (s : ByteArray) : Nat := txtC (rdS0 s) (rdC0 s) s.size
def rdX (s : ByteArray) : ByteArray := txtR (rdS1 s) (rdC1 s) s.size
def rdS2 (s : ByteArray) : ByteArray := txtS (rdS1 s) (rdC1 s) s.size
def rdC2 (s : ByteArray) : Nat := txtC (rdS1 s) (rdC1 s) s.size
def rdG (s : ByteArray) : ByteArray := if rdB s ≠ 0 then txtR (rdS2 s) (rdC2 s) s.size else ⟨#[]⟩
def rdS3 (s : ByteArray) : ByteArray := if rdB s ≠ 0 then txtS (rdS2 s) (rdC2 s) s.size else rdS2 s
def rdC3 (s : ByteArray) : Nat := if rdB s ≠ 0 then txtC (rdS2 s) (rdC2 s) s.size else rdC2 s
def rdE (s : ByteArray) : Nat := endC (rdS3 s) (rdC3 s)
def rdK (s : ByteArray) : List UInt8 := (opX (rdX s)).data.toList
def rdZ (s : ByteArray) : List UInt8 := (opX (rdG s)).data.toList
structure RdOk (s : ByteArray) : Prop where
 done : rdE s = 0
 key : opC (rdX s) 32 10 = 0
 word : rdW s = algoB
 sig : rdB s ≠ 0 → opC (rdG s) 64 11 = 0
theorem raw_len {s : ByteArray} {c n : Nat} (h : rawC s c n = 0) : c = 0 ∧ n ≤ s.size ∧ (rawR s c n).size = n ∧ (rawS s c n).size = s.size - n := by
 unfold rawC at h
 split at h
 · rename_i hc
   split at h
   · rename_i hn
     refine ⟨hc, hn, ?_, ?_⟩
     · unfold rawR
       rw [if_pos ⟨hc, hn⟩, ByteArray.size_extract]
       omega
     · unfold rawS
       rw [if_pos hc, if_pos hn, ByteArray.size_extract]
       omega
   · omega
 · rename_i hc
   exact absurd h hc
theorem txt_len {s : ByteArray} {c : Nat} {m : Int} (h : txtC s c m = 0) : c = 0 ∧ s.size = 4 + (txtR s c m).size + (txtS s c m).size := by
 unfold txtC at h
 split at h
 · omega
 · rename_i hb
   obtain ⟨h1, h2, h3, h4⟩ := raw_len h
   obtain ⟨g1, g2, g3, g4⟩ := raw_len h1
   refine ⟨g1, ?_⟩
   unfold txtR txtS
   rw [if_neg hb, if_neg hb, h3, h4]
   omega
theorem end_len {s : ByteArray} {c : Nat} (h : endC s c = 0) : c = 0 ∧ s.size = 0 := by
 unfold endC at h
 split at h
 · omega
 · rename_i hn
   exact ⟨h, Decidable.byContradiction fun e => hn ⟨h, e⟩⟩
theorem op_len {s : ByteArray} {size wrong : Nat} (hw : wrong ≠ 0) (h : opC s size wrong = 0) : s.size = 19 + size := by
 unfold opC at h
 split at h
 · rename_i he
   exact absurd h he
 · rename_i he
   split at h
   · rename_i hq
     obtain ⟨h1, h2⟩ := end_len (Decidable.byContradiction he)
     obtain ⟨h3, h4⟩ := txt_len h1
     obtain ⟨_, h6⟩ := txt_len h3
     have e1 : (txtR s 0 s.size).size = 11 := by rw [show txtR s 0 s.size = algoB from hq.1, jj_]
     have e2 : (txtR (txtS s 0 s.size) (txtC s 0 s.size) s.size).size = size := hq.2
     have e3 : (txtS (txtS s 0 s.size) (txtC s 0 s.size) s.size).size = 0 := h2
     omega
   · exact absurd h hw
theorem RdOk.size {s : ByteArray} (h : RdOk s) : s.size = 71 ∨ s.size = 158 := by
 obtain ⟨h1, h2, h3, h4⟩ := h
 obtain ⟨a1, a2⟩ := end_len h1
 have k := op_len (by decide) h2
 have core : rdC2 s = 0 → s.size = 71 + (rdS2 s).size := fun hc => by
  obtain ⟨b1, b2⟩ := txt_len (show txtC (rdS1 s) (rdC1 s) s.size = 0 from hc)
  obtain ⟨c1, c2⟩ := txt_len (show txtC (rdS0 s) (rdC0 s) s.size = 0 from b1)
  obtain ⟨_, d2, _, d4⟩ := raw_len (show rawC s 0 1 = 0 from c1)
  have e1 : (txtR (rdS0 s) (rdC0 s) s.size).size = 11 := by rw [show txtR (rdS0 s) (rdC0 s) s.size = algoB from h3, jj_]
  have e2 : (txtR (rdS1 s) (rdC1 s) s.size).size = 51 := k
  have e3 : (rdS1 s).size = (txtS (rdS0 s) (rdC0 s) s.size).size := rfl
  have e4 : (rdS2 s).size = (txtS (rdS1 s) (rdC1 s) s.size).size := rfl
  have e5 : (rdS0 s).size = (rawS s 0 1).size := rfl
  omega
 by_cases hb : rdB s ≠ 0
 · have k2 := op_len (by decide) (h4 hb)
   have e3 : rdC3 s = txtC (rdS2 s) (rdC2 s) s.size := by unfold rdC3; rw [if_pos hb]
   have e4 : rdS3 s = txtS (rdS2 s) (rdC2 s) s.size := by unfold rdS3; rw [if_pos hb]
   have e5 : rdG s = txtR (rdS2 s) (rdC2 s) s.size := by unfold rdG; rw [if_pos hb]
   rw [e3] at a1
   rw [e4] at a2
   rw [e5] at k2
   obtain ⟨b1, b2⟩ := txt_len a1
   have := core b1
   omega
 · have e3 : rdC3 s = rdC2 s := by unfold rdC3; rw [if_neg hb]
   have e4 : rdS3 s = rdS2 s := by unfold rdS3; rw [if_neg hb]
   rw [e3] at a1
   rw [e4] at a2
   have := core a1
   omega
theorem head_rd {s : ByteArray} {x : UInt8} {key r : List UInt8} (hs : s.data.toList = [x] ++ (textL algoB.data.toList ++ (textL (blobL key) ++ r))) (hk : key.length = 32) :
 rdB s = x.toNat ∧ rdW s = algoB ∧ (rdX s).data.toList = blobL key ∧ (rdS2 s).data.toList = r ∧ rdC2 s = 0 := by
 have hz : s.size = 71 + r.length := by
  rw [← qu_, hs]
  simp only [List.length_append, List.length_nil, List.length_cons, jd_, qx_, qu_, jj_, hk]
  omega
 obtain ⟨a1, a2, a3⟩ := raw_back s [x] _ 1 hs rfl
 have e0 : rdC0 s = 0 := a3
 obtain ⟨b1, b2, b3⟩ := txt_back (rdS0 s) algoB.data.toList _ s.size a2 (by rw [qu_, jj_]; omega) (by rw [qu_, jj_, hz]; omega)
 have e1 : rdC1 s = 0 := by unfold rdC1; rw [e0]; exact b3
 have s1 : (rdS1 s).data.toList = textL (blobL key) ++ r := by unfold rdS1; rw [e0]; exact b2
 obtain ⟨c1, c2, c3⟩ := txt_back (rdS1 s) (blobL key) r s.size s1 (by rw [qx_, hk]; omega) (by rw [qx_, hk, hz]; omega)
 refine ⟨?_, ?_, ?_, ?_, ?_⟩
 · unfold rdB byteR
   rw [a1]
   simp [numV]
 · unfold rdW
   rw [e0]
   apply ByteArray.ext; apply Array.toList_inj.1; exact b1
 · unfold rdX
   rw [e1]
   exact c1
 · unfold rdS2
   rw [e1]
   exact c2
 · unfold rdC2
   rw [e1]
   exact c3
theorem rd_req {s : ByteArray} {key sig : List UInt8} (hs : s.data.toList = reqL key sig) (hk : key.length = 32) (hg : sig.length = 64) :
 RdOk s ∧ rdB s ≠ 0 ∧ rdX s = ⟨(blobL key).toArray⟩ ∧ rdK s = key ∧ rdZ s = sig := by
 obtain ⟨h1, h2, h3, h4, h5⟩ := head_rd (s := s) (x := 1) (key := key) (r := textL (blobL sig)) (by rw [hs]; unfold reqL; simp only [List.append_assoc, List.nil_append]) hk
 have hz : s.size = 158 := by rw [← qu_, hs, reqL_length hk hg]
 obtain ⟨k1, k2⟩ := blob_back (rdX s) key h3 (by omega) 10
 rw [hk] at k1 k2
 have hb : rdB s ≠ 0 := by rw [h1]; decide
 obtain ⟨c1, c2, c3⟩ := txt_back (rdS2 s) (blobL sig) [] s.size (by rw [h4, List.append_nil]) (by rw [qx_, hg]; omega) (by rw [qx_, hg, hz]; omega)
 have eg : rdG s = txtR (rdS2 s) 0 s.size := by unfold rdG; rw [if_pos hb, h5]
 obtain ⟨g1, g2⟩ := blob_back (rdG s) sig (by rw [eg]; exact c1) (by omega) 11
 rw [hg] at g1 g2
 refine ⟨⟨?_, k1, h2, fun _ => g1⟩, hb, ?_, ?_, ?_⟩
 · unfold rdE rdS3 rdC3
   rw [if_pos hb, if_pos hb, h5, c3]
   unfold endC
   rw [if_neg (fun e => e.2 (by rw [← qu_, c2]; rfl))]
 · apply ByteArray.ext; apply Array.toList_inj.1; rw [h3]
 · unfold rdK
   rw [← (opR_size (rdX s) 32 10 (by decide) k1).2]
   exact k2
 · unfold rdZ
   rw [← (opR_size (rdG s) 64 11 (by decide) g1).2]
   exact g2
end Go.Proofs.YtciibogkfbicfaaGreatDoor.Au
namespace Go.Proofs.YtciibogkfbicfaaGreatDoor.Kx
open Go.RowKit Go.Proofs.YtciibogkfbicfaaGreatDoor.Cl
def M : Nat := 18446744073709551616
def M2 : Nat := 340282366920938463463374607431768211456
def W : Nat := 2251799813685248
structure E where
 a : Nat
 b : Nat
 c : Nat
 d : Nat
 e : Nat
deriving DecidableEq
def E.l (x : E) : List Nat := [x.a, x.b, x.c, x.d, x.e]
theorem E.len (x : E) : x.l.length = 5 := rfl
def E.ok (x : E) : Prop := ∀ j, nth x.l j < M
def E.fit (x : E) : Prop := ∀ j, nth x.l j ≤ M
def it {S : Type} (f : Nat → S → S) : Nat → S → S
 | 0, s => s
 | n + 1, s => f n (it f n s)
def carry : E → E
 | ⟨a, b, c, d, e⟩ =>
  let a1 := a % M
  let b1 := (b + a1 / W) % M
  let c1 := (c + b1 / W) % M
  let d1 := (d + c1 / W) % M
  let e1 := (e + d1 / W) % M
  ⟨(a1 % W + e1 / W * 19 % M) % M, b1 % W, c1 % W, d1 % W, e1 % W⟩
def cr (i : Nat) (s : Nat × List Nat) : Nat × List Nat := ((nth s.2 i + s.1) % M / W, s.2.set i ((nth s.2 i + s.1) % M % W))
theorem carry_it (x : E) : (it cr 5 (0, x.l)).2.set 0 ((nth (it cr 5 (0, x.l)).2 0 + (it cr 5 (0, x.l)).1 * 19 % M) % M) = (carry x).l := by
 cases x
 simp [it, cr, nth, E.l, carry]
theorem cr_len (i : Nat) (s : Nat × List Nat) : (cr i s).2.length = s.2.length := by unfold cr; simp
theorem it_cr_len (n : Nat) (s : Nat × List Nat) : (it cr n s).2.length = s.2.length := by
 induction n with
 | zero => rfl
 | succ n ih => unfold it; rw [cr_len, ih]
theorem jb_ {l : List Nat} {i j v : Nat} (h : i ≠ j) : nth (l.set i v) j = nth l j := by unfold nth; simp [List.getElem?_set, h]
theorem nth_set {l : List Nat} {i : Nat} (h : i < l.length) (v : Nat) : nth (l.set i v) i = v := by unfold nth; simp [h]
theorem jv_ (x : Nat) : x % M < M := Nat.mod_lt _ (by decide)
theorem qq_ (x : Nat) : x % W < W := Nat.mod_lt _ (by decide)
theorem W_lt_M : W < M := by decide
theorem E.ok5 {a b c d e : Nat} (ha : a < M) (hb : b < M) (hc : c < M) (hd : d < M) (he : e < M) : E.ok ⟨a, b, c, d, e⟩ := fun j => by
 match j with
 | 0 => exact ha
 | 1 => exact hb
 | 2 => exact hc
 | 3 => exact hd
 | 4 => exact he
 | j + 5 => simp [E.l, nth, M]
theorem carry_ok (x : E) : (carry x).ok := by
 cases x
 exact E.ok5 (jv_ _) (Nat.lt_trans (qq_ _) W_lt_M) (Nat.lt_trans (qq_ _) W_lt_M) (Nat.lt_trans (qq_ _) W_lt_M) (Nat.lt_trans (qq_ _) W_lt_M)
def small (n : Nat) : E := ⟨n % W, n / W, 0, 0, 0⟩
def zip2 (f : Nat → Nat → Nat) (ys : List Nat) (i : Nat) (l : List Nat) : List Nat := l.set i (f (nth l i) (nth ys i))
theorem it_zip_len (f : Nat → Nat → Nat) (ys : List Nat) (n : Nat) (l : List Nat) : (it (zip2 f ys) n l).length = l.length := by
 induction n with
 | zero => rfl
 | succ n ih => unfold it zip2; rw [List.length_set]; exact ih
def addF (x y : Nat) : Nat := (x + y) % M
def subF (x y : Nat) : Nat := (x + (M - y)) % M
def add1 : E → E → E
 | ⟨a, b, c, d, e⟩, ⟨a', b', c', d', e'⟩ => ⟨(a + a') % M, (b + b') % M, (c + c') % M, (d + d') % M, (e + e') % M⟩
def add (x y : E) : E := carry (add1 x y)
theorem add_it (x y : E) : it (zip2 addF y.l) 5 x.l = (add1 x y).l := by
 cases x; cases y
 simp [it, zip2, addF, nth, E.l, add1]
def tw : Nat := 4503599627370494
def tw0 : Nat := 4503599627370458
def subM (m x y : Nat) : Nat := (x + (m - y)) % m
def sub1g (m t0 t : Nat) : E → E → E
 | ⟨a, b, c, d, e⟩, ⟨a', b', c', d', e'⟩ => ⟨((a + t0) % m + (m - a')) % m, ((b + t) % m + (m - b')) % m, ((c + t) % m + (m - c')) % m, ((d + t) % m + (m - d')) % m, ((e + t) % m + (m - e')) % m⟩
def twG (m t : Nat) (j : Nat) (l : List Nat) : List Nat := l.set (j + 1) ((nth l (j + 1) + t) % m)
theorem sub_itg (m t0 t : Nat) (x y : E) : it (zip2 (subM m) y.l) 5 (it (twG m t) 4 (x.l.set 0 ((nth x.l 0 + t0) % m))) = (sub1g m t0 t x y).l := by
 cases x; cases y
 simp [it, zip2, twG, subM, nth, E.l, sub1g]
def sub1 (x y : E) : E := sub1g M tw0 tw x y
def sub (x y : E) : E := carry (sub1 x (carry y))
def twR (j : Nat) (l : List Nat) : List Nat := twG M tw j l
theorem it_tw_len (n : Nat) (l : List Nat) : (it twR n l).length = l.length := by
 induction n with
 | zero => rfl
 | succ n ih => unfold it twR twG; rw [List.length_set]; exact ih
theorem sub_it (x y : E) : it (zip2 subF y.l) 5 (it twR 4 (x.l.set 0 ((nth x.l 0 + tw0) % M))) = (sub1 x y).l := sub_itg M tw0 tw x y
def mulT (xs ys : List Nat) (i k : Nat) (ts : List Nat) : List Nat :=
 if i + k < 5 then ts.set (i + k) (nth ts (i + k) + nth xs i * nth ys k) else ts.set (i + k - 5) (nth ts (i + k - 5) + nth xs i * 19 % M * nth ys k)
def mulR (xs ys : List Nat) (i : Nat) (ts : List Nat) : List Nat := it (mulT xs ys i) 5 ts
def mulS (xs ys : List Nat) : List Nat := it (mulR xs ys) 5 [0, 0, 0, 0, 0]
theorem mulT_len (xs ys : List Nat) (i k : Nat) (ts : List Nat) : (mulT xs ys i k ts).length = ts.length := by unfold mulT; split <;> simp
theorem it_mulT_len (xs ys : List Nat) (i n : Nat) (ts : List Nat) : (it (mulT xs ys i) n ts).length = ts.length := by
 induction n with
 | zero => rfl
 | succ n ih => unfold it; rw [mulT_len, ih]
theorem it_mulR_len (xs ys : List Nat) (n : Nat) (ts : List Nat) : (it (mulR xs ys) n ts).length = ts.length := by
 induction n with
 | zero => rfl
 | succ n ih => rw [show it (mulR xs ys) (n + 1) ts = it (mulT xs ys n) 5 (it (mulR xs ys) n ts) from rfl, it_mulT_len, ih]
def rd (ts : List Nat) (i : Nat) (s : Nat × List Nat) : Nat × List Nat := ((nth ts i + s.1) % M2 / W % M, s.2.set i ((nth ts i + s.1) % M2 % W))
theorem it_rd_len (ts : List Nat) (n : Nat) (s : Nat × List Nat) : (it (rd ts) n s).2.length = s.2.length := by
 induction n with
 | zero => rfl
 | succ n ih => unfold it rd; rw [List.length_set]; exact ih
theorem it_rd_c (ts : List Nat) (n : Nat) : (it (rd ts) n (0, [0, 0, 0, 0, 0])).1 < M := by
 cases n with
 | zero => show (0 : Nat) < M; decide
 | succ n => unfold it rd; exact jv_ _
def mul : E → E → E
 | ⟨a0, a1, a2, a3, a4⟩, ⟨b0, b1, b2, b3, b4⟩ =>
  let c1 := a1 * 19 % M
  let c2 := a2 * 19 % M
  let c3 := a3 * 19 % M
  let c4 := a4 * 19 % M
  let s0 := (a0 * b0 + c1 * b4 + c2 * b3 + c3 * b2 + c4 * b1) % M2
  let s1 := (a0 * b1 + a1 * b0 + c2 * b4 + c3 * b3 + c4 * b2 + s0 / W % M) % M2
  let s2 := (a0 * b2 + a1 * b1 + a2 * b0 + c3 * b4 + c4 * b3 + s1 / W % M) % M2
  let s3 := (a0 * b3 + a1 * b2 + a2 * b1 + a3 * b0 + c4 * b4 + s2 / W % M) % M2
  let s4 := (a0 * b4 + a1 * b3 + a2 * b2 + a3 * b1 + a4 * b0 + s3 / W % M) % M2
  let t := (s4 / W % M * 19 + s0 % W)
  carry ⟨t % W, (s1 % W + t / W % M) % M, s2 % W, s3 % W, s4 % W⟩
theorem mulS_eq (a0 a1 a2 a3 a4 b0 b1 b2 b3 b4 : Nat) : mulS [a0, a1, a2, a3, a4] [b0, b1, b2, b3, b4] =
 [a0 * b0 + a1 * 19 % M * b4 + a2 * 19 % M * b3 + a3 * 19 % M * b2 + a4 * 19 % M * b1,
  a0 * b1 + a1 * b0 + a2 * 19 % M * b4 + a3 * 19 % M * b3 + a4 * 19 % M * b2,
  a0 * b2 + a1 * b1 + a2 * b0 + a3 * 19 % M * b4 + a4 * 19 % M * b3,
  a0 * b3 + a1 * b2 + a2 * b1 + a3 * b0 + a4 * 19 % M * b4,
  a0 * b4 + a1 * b3 + a2 * b2 + a3 * b1 + a4 * b0] := by
 simp [mulS, mulR, mulT, it, nth]
def mulE (x y : E) : E :=
 let s := it (rd (mulS x.l y.l)) 5 (0, [0, 0, 0, 0, 0])
 let t := s.1 * 19 + nth s.2 0
 carry ⟨t % W, (nth s.2 1 + t / W % M) % M, nth s.2 2, nth s.2 3, nth s.2 4⟩
theorem mulE_eq (x y : E) : mulE x y = mul x y := by
 cases x; cases y
 simp only [mulE, E.l, mulS_eq]
 simp [it, rd, nth, mul]
theorem mul_ok (x y : E) : (mul x y).ok := by rw [← mulE_eq]; unfold mulE; exact carry_ok _
def sq (x : E) : E := mul x x
def least1 : E → E
 | ⟨a, b, c, d, e⟩ =>
  let k := (e + (d + (c + (b + (a + 19) % M / W) % M / W) % M / W) % M / W) % M / W
  let a1 := (a + k * 19 % M) % M
  let b1 := (b + a1 / W) % M
  let c1 := (c + b1 / W) % M
  let d1 := (d + c1 / W) % M
  let e1 := (e + d1 / W) % M
  ⟨a1 % W, b1 % W, c1 % W, d1 % W, e1 % W⟩
def least (x : E) : E := least1 (carry (carry x))
def lc (l : List Nat) (i : Nat) (c : Nat) : Nat := (nth l i + c) % M / W
theorem least_it (x : E) : (it cr 5 (0, x.l.set 0 ((nth x.l 0 + it (lc x.l) 5 19 * 19 % M) % M))).2 = (least1 x).l := by
 cases x
 simp [it, cr, lc, nth, E.l, least1]
theorem least_fit (x : E) : ∀ j, nth (least x).l j < W := by
 unfold least
 cases carry (carry x)
 intro j
 match j with
 | 0 => exact qq_ _
 | 1 => exact qq_ _
 | 2 => exact qq_ _
 | 3 => exact qq_ _
 | 4 => exact qq_ _
 | j + 5 => simp [E.l, nth, W]
def zero (x : E) : Bool := least x == ⟨0, 0, 0, 0, 0⟩
def pw (low : Nat) (x : E) : Nat → E
 | 0 => small 1
 | k + 1 => let o := sq (pw low x k); if (decide (8 ≤ 254 - k) || low / 2 ^ (254 - k) % 2 == 1) = true then mul o x else o
theorem wrapM (x : Nat) : IntKind.u64.wrap (x : Int) = ((x % M : Nat) : Int) := by rw [IntKind.wrap_u64]; unfold M; omega
theorem wrap_add (x y : Nat) : IntKind.u64.wrap ((x : Int) + (y : Int)) = (((x + y) % M : Nat) : Int) := by rw [← wrapM]; congr 1
theorem wrap_mul (x y : Nat) : IntKind.u64.wrap ((x : Int) * (y : Int)) = ((x * y % M : Nat) : Int) := by rw [← wrapM]; congr 1
theorem and_mask (x : Nat) (hx : x < M) : bits .and .u64 (x : Int) 2251799813685247 = ((x % W : Nat) : Int) := by
 have h := u64_and_nat x 2251799813685247 hx (by decide)
 rw [show ((2251799813685247 : Nat) : Int) = 2251799813685247 from rfl] at h
 rw [h]
 have h2 := Nat.and_two_pow_sub_one_eq_mod x 51
 rw [show (2 ^ 51 - 1 : Nat) = 2251799813685247 from rfl, show (2 ^ 51 : Nat) = W from rfl] at h2
 rw [h2]
theorem qd_ {P : Program} {ops : Array Oper} {rest : List Oper} {o : Oper} {a : Act} {w : World} {Q : Exit → Act → World → Prop} (h : wpList P ops Q (o :: rest) a w) : wpList P ops Q (o :: rest) a w := h
theorem jf_ {w : World} {b T : Nat} {xs : List Nat} (h : Row w b T xs) : Rg.Blk w b T (u64s xs) := h
theorem qb_ {w w' : World} {b g T : Nat} {cs : Array Value} (h : Rg.Blk w b T cs) (hg : w.grownBy w' (some g)) (hn : g ≠ b) : Rg.Blk w' b T cs := by
 have hl := h.lt
 unfold Rg.Blk at *
 rw [hg.block b hl (fun e => hn (Option.some.inj e).symm)]; exact h
theorem _root_.Go.RowKit.Below.qr_ {B : Nat} {w w' : World} (h : Below B w w') (hB : w.heap.size = B) : B ≤ w'.heap.size := hB ▸ h.size
theorem row_set_cell {w : World} {b T j v : Nat} {l : List Nat} (h : Row w b T (l.set j v)) (hj : j < l.length) : w.cell? ⟨b, j, none⟩ = some (.int .u64 (v : Nat)) := by
 have h1 := h.cell j (by rw [List.length_set]; exact hj)
 rw [nth_set hj] at h1
 exact h1
def Z5 : Array Value := #[.int .u64 0, .int .u64 0, .int .u64 0, .int .u64 0, .int .u64 0]
theorem cr_eq (i : Nat) (s : Nat × List Nat) : cr i s = ((nth s.2 i + s.1) % M / W, s.2.set i ((nth s.2 i + s.1) % M % W)) := rfl
theorem ql_ (x : E) : (u64s x.l).size = 5 := rfl
theorem carry_any (w : World) (x : E) : Calls prog 113 #[.agg (u64s x.l)] w fun e w' => e = .returned (.agg (u64s (carry x).l)) ∧ Below w.heap.size w w' := by
 go_enter func113, ntmps113
 go_upto_region 1 with (refine Rg.qh_ rfl 76 _ rfl (u64s x.l) rfl ?_; intro X hX hbX hnX; have HX := ϕ hX; have HBX := ϕ hbX; clear hX hbX hnX)
 obtain ⟨xb, hxb⟩ : ∃ xb, w.heap.size = xb := exr
 obtain ⟨rb, hrb⟩ : ∃ rb, X.heap.size = rb := exr
 have HR := ϕ (show Row (X.alloc (.cells Z5 76)) xb 76 x.l from (hxb ▸ HX.out).alloc _)
 have HZ := ϕ (show Rg.Blk (X.alloc (.cells Z5 76)) rb 76 Z5 from Rg.Blk.newAt hrb.symm _ _)
 have HB := ϕ (show Below xb w (X.alloc (.cells Z5 76)) from hxb ▸ HBX.out.alloc HBX.out.size _)
 have HNE := ϕ (show xb ≠ rb ∧ xb ≤ rb from by have h1 := HX.out.lt; constructor <;> omega)
 have HXB := ϕ hxb
 rw [hxb, hrb, show (#[.int .u64 0, .int .u64 0, .int .u64 0, .int .u64 0, .int .u64 0] : Array Value) = Z5 from rfl]
 generalize X.alloc (.cells Z5 76) = Y at *
 clear HX HBX hxb hrb
 go_upto_region 3 with fail
 go_loopw [3, 5] (fun c i wr => ∃ k : Nat, k ≤ 5 ∧ i = .int .i64 k ∧ c = .int .u64 ((it cr k (0, x.l)).1 : Nat) ∧ Row wr xb 76 (it cr k (0, x.l)).2 ∧ Rg.Blk wr rb 76 Z5 ∧ Below xb w wr) (fun _ i _ => 5 - (intOf i).toNat)
 case atStart => exact ⟨0, Nat.zero_le _, rfl, rfl, HR.out, HZ.out, HB.out⟩
 case round =>
  obtain ⟨k, hk, rfl, rfl, hr, hz, hb⟩ := hrel
  clear HR HZ HB
  have HR := ϕ hr
  have HZ := ϕ hz
  have HB := ϕ hb
  have HL := ϕ (show (it cr k (0, x.l)).2.length = 5 by rw [it_cr_len]; rfl)
  by_cases hk5 : k < 5
  · have hd : decide (k < 5) = true := by simp; exact hk5
    have hki : (k : Int) < 5 := by omega
    have hk0 : (0 : Int) ≤ k := by omega
    have c1 := hr.cell k (by rw [HL.out]; exact hk5)
    have hst : it cr (k + 1) (0, x.l) = cr k (it cr k (0, x.l)) := rfl
    rw [cr_eq] at hst
    clear hr hz hb
    obtain ⟨n1, hn1⟩ : ∃ n1, nth (it cr k (0, x.l)).2 k = n1 := exr
    obtain ⟨q1, hq1⟩ : ∃ q1, (it cr k (0, x.l)).1 = q1 := exr
    obtain ⟨v1, hv1⟩ : ∃ v1, (n1 + q1) % M = v1 := exr
    have e1 : IntKind.u64.wrap ((n1 : Int) + (q1 : Int)) = (v1 : Int) := by rw [wrap_add, hv1]
    have e2 : bits .and .u64 (v1 : Int) 2251799813685247 = ((v1 % W : Nat) : Int) := and_mask v1 (hv1 ▸ jv_ _)
    have HN1 := ϕ hn1
    have HQ1 := ϕ hq1
    have HV1 := ϕ hv1
    rw [hn1] at c1
    rw [hn1, hq1, hv1] at hst
    have HST := ϕ hst
    rw [hq1]
    clear hn1 hq1 hv1 hst
    have HLK := ϕ (show k < (it cr k (0, x.l)).2.length by rw [HL.out]; exact hk5)
    have HLK2 := ϕ (show k < ((it cr k (0, x.l)).2.set k v1).length by rw [List.length_set, HL.out]; exact hk5)
    have tok1 := trivial
    go_wp2_with (first
     | (have _t := tok1; (with_reducible refine qd_ ?_); refine qt_ rfl 73 _ _ rfl (b := xb) (j := k) (v := v1) rfl rfl underlying73 (by kernel_rfl) HR.out HLK.out ?_; intro V hV hgV; have HRV := ϕ hV; have HZV := ϕ (qb_ HZ.out hgV HNE.out.1); have HBV := ϕ (HB.out.grown hgV (HB.out.qr_ HXB.out) (fun j e => by cases e; exact Nat.le_refl _)); have c2 := row_set_cell hV HLK.out; clear hV hgV c1; have tok2 := trivial; clear _t tok1)
     | (have _t := tok2; (with_reducible refine qd_ ?_); refine qt_ rfl 73 _ _ rfl (b := xb) (j := k) (v := v1 % W) rfl rfl underlying73 (by kernel_rfl) HRV.out HLK2.out ?_; intro V2 hV hgV; rw [List.set_set] at hV; have HRW := ϕ hV; have HZW := ϕ (qb_ HZV.out hgV HNE.out.1); have HBW := ϕ (HBV.out.grown hgV (HBV.out.qr_ HXB.out) (fun j e => by cases e; exact Nat.le_refl _)); clear hV hgV c2 _t tok2))
    go_roundw
    case rel =>
     have REL := ϕ (show ∃ k' : Nat, k' ≤ 5 ∧ Value.int .i64 ((k : Int) + 1) = .int .i64 k' ∧ Value.int .u64 ((v1 : Int) / 2251799813685248) = .int .u64 ((it cr k' (0, x.l)).1 : Nat) ∧ Row V2 xb 76 (it cr k' (0, x.l)).2 ∧ Rg.Blk V2 rb 76 Z5 ∧ Below xb w V2 from ⟨k + 1, hk5, rfl, by rw [HST.out]; rfl, by rw [HST.out]; exact HRW.out, HZW.out, HBW.out⟩)
     first
      | exact REL.out
      | ((repeat apply Exists.intro); refine ⟨?_, rfl⟩; exact REL.out)
    case measure => (first | (simp [intOf]; done) | (simp [intOf]; omega))
  · obtain rfl : k = 5 := by omega
    have hd : decide ((5 : Nat) < 5) = false := by simp
    have c1 := hr.cell 0 (by rw [HL.out]; decide)
    have HCI := ϕ (carry_it x)
    clear hr hz hb
    obtain ⟨q1, hq1⟩ : ∃ q1, (it cr 5 (0, x.l)).1 = q1 := exr
    obtain ⟨l1, hl1⟩ : ∃ l1, (it cr 5 (0, x.l)).2 = l1 := exr
    rw [hq1, hl1] at HCI
    rw [hl1] at c1 HR HL
    rw [hq1]
    obtain ⟨n1, hn1⟩ : ∃ n1, nth l1 0 = n1 := exr
    rw [hn1] at c1 HCI
    have e1 : IntKind.u64.wrap ((q1 : Int) * 19) = ((q1 * 19 % M : Nat) : Int) := wrap_mul q1 19
    have e2 : IntKind.u64.wrap ((n1 : Int) + ((q1 * 19 % M : Nat) : Int)) = (((n1 + q1 * 19 % M) % M : Nat) : Int) := wrap_add _ _
    have HLK := ϕ (show 0 < l1.length by rw [HL.out]; decide)
    clear hq1 hl1 hn1
    generalize hp1 : q1 * 19 % M = p1 at *
    generalize hv1 : (n1 + p1) % M = v1 at *
    clear hp1 hv1
    have tok1 := trivial
    go_wp2_with (first
     | (have _t := tok1; (with_reducible refine qd_ ?_); refine qt_ rfl 73 _ _ rfl (b := xb) (j := 0) (v := v1) rfl rfl underlying73 (by kernel_rfl) HR.out HLK.out ?_; intro V hV hgV; have HRV := ϕ hV; have HZV := ϕ (qb_ HZ.out hgV HNE.out.1); have HBV := ϕ (HB.out.grown hgV (HB.out.qr_ HXB.out) (fun j e => by cases e; exact Nat.le_refl _)); rw [HCI.out] at HRV; clear hV hgV c1; clear _t tok1)
     | ((with_reducible refine qd_ ?_); refine lcA (u64s (carry x).l) (jf_ HRV.out) ?_)
     | ((with_reducible refine qd_ ?_); refine scA (u64s (carry x).l) Z5 HZV.out rfl ?_; intro V3 hV hgV; have HZZ := ϕ hV; have HBZ := ϕ (HBV.out.grown hgV (HBV.out.qr_ HXB.out) (fun j e => by cases e; exact HNE.out.2)); clear hV hgV))
    refine bodyPost_ret (v := .agg (u64s (carry x).l))
     (results_cell_row results113 _ _ rb 76 _ (0, 0) _ rfl HZZ.out underlying76 rfl (by rw [ql_]; kernel_rfl)) rfl ?_
    exact ⟨rfl, HXB.out ▸ HBZ.out⟩
theorem it_zero {S : Type} (f : Nat → S → S) (s : S) : it f 0 s = s := rfl
theorem it_zip_succ (f : Nat → Nat → Nat) (ys : List Nat) (k : Nat) (l : List Nat) : it (zip2 f ys) (k + 1) l = (it (zip2 f ys) k l).set k (f (nth (it (zip2 f ys) k l) k) (nth ys k)) := rfl
theorem jo_ {w w' : World} {b g T : Nat} {xs : List Nat} (h : Row w b T xs) (hg : w.grownBy w' (some g)) (hn : g ≠ b) : Row w' b T xs := qb_ (jf_ h) hg hn
theorem Add_any (w : World) (x y : E) : Calls prog 71 #[.agg (u64s x.l), .agg (u64s y.l)] w fun e w' => e = .returned (.agg (u64s (add x y).l)) ∧ Below w.heap.size w w' := by
 go_enter func71, ntmps71
 have tok1 := trivial
 go_upto_region 1 with (first
  | (have _t := tok1; (with_reducible refine qd_ ?_); refine bxA 76 (u64s x.l) ?_; intro X HX HBX HNX; have tok2 := trivial; clear _t tok1)
  | (have _t := tok2; (with_reducible refine qd_ ?_); refine bxA 76 (u64s y.l) ?_; intro X2 HY2 HBY HNY; clear _t tok2))
 obtain ⟨xb, hxb⟩ : ∃ xb, w.heap.size = xb := exr
 obtain ⟨yb, hyb⟩ : ∃ yb, X.heap.size = yb := exr
 obtain ⟨rb, hrb⟩ : ∃ rb, X2.heap.size = rb := exr
 have HR := ϕ (show Row (X2.alloc (.cells Z5 76)) xb 76 x.l from ((hxb ▸ HX.out).below HBY.out (hxb ▸ HX.out.lt)).alloc _)
 have HY := ϕ (show Row (X2.alloc (.cells Z5 76)) yb 76 y.l from (hyb ▸ HY2.out).alloc _)
 have HZ := ϕ (show Rg.Blk (X2.alloc (.cells Z5 76)) rb 76 Z5 from Rg.Blk.newAt hrb.symm _ _)
 have HB := ϕ (show Below xb w (X2.alloc (.cells Z5 76)) from hxb ▸ (HBX.out.trans (HBY.out.mono HBX.out.size)).alloc (Nat.le_trans HBX.out.size HBY.out.size) _)
 have HNE := ϕ (show xb ≠ yb ∧ xb ≠ rb ∧ xb ≤ rb from by have h1 := HNX.out; have h2 := HNY.out; refine ⟨?_, ?_, ?_⟩ <;> omega)
 have HN2 := ϕ (show yb ≠ rb ∧ xb ≤ yb from by have h1 := HNX.out; have h2 := HNY.out; refine ⟨?_, ?_⟩ <;> omega)
 have HXB := ϕ hxb
 rw [hxb, hyb, hrb, show (#[.int .u64 0, .int .u64 0, .int .u64 0, .int .u64 0, .int .u64 0] : Array Value) = Z5 from rfl]
 generalize X2.alloc (.cells Z5 76) = Z at *
 clear HX HBX HY2 HBY HNX HNY hxb hyb hrb
 go_upto_region 2 with fail
 go_loopw [6] (fun i wr => ∃ k : Nat, k ≤ 5 ∧ i = .int .i64 k ∧ Row wr xb 76 (it (zip2 addF y.l) k x.l) ∧ Row wr yb 76 y.l ∧ Rg.Blk wr rb 76 Z5 ∧ Below xb w wr) (fun i _ => 5 - (intOf i).toNat)
 case atStart => exact ⟨0, Nat.zero_le _, rfl, by rw [it_zero]; exact HR.out, HY.out, HZ.out, HB.out⟩
 case round =>
  obtain ⟨k, hk, rfl, hr, hy, hz, hb⟩ := hrel
  clear HR HY HZ HB
  have HR := ϕ hr
  have HY := ϕ hy
  have HZ := ϕ hz
  have HB := ϕ hb
  have HL := ϕ (show (it (zip2 addF y.l) k x.l).length = 5 by rw [it_zip_len]; rfl)
  clear hr hy hz hb
  by_cases hk5 : k < 5
  · have hd : decide (k < 5) = true := by simp; exact hk5
    have hki : (k : Int) < 5 := by omega
    have hk0 : (0 : Int) ≤ k := by omega
    have HLK := ϕ (show k < (it (zip2 addF y.l) k x.l).length by rw [HL.out]; exact hk5)
    have HLY := ϕ (show k < (y.l).length from hk5)
    have hst := it_zip_succ addF y.l k x.l
    obtain ⟨n1, hn1⟩ : ∃ n1, nth (it (zip2 addF y.l) k x.l) k = n1 := exr
    obtain ⟨n2, hn2⟩ : ∃ n2, nth y.l k = n2 := exr
    have e3 : IntKind.u64.wrap ((n1 : Int) + (n2 : Int)) = ((addF n1 n2 : Nat) : Int) := wrap_add n1 n2
    rw [hn1, hn2] at hst
    obtain ⟨v1, hv1⟩ : ∃ v1, addF n1 n2 = v1 := exr
    rw [hv1] at hst e3
    have HST := ϕ hst
    have HN1 := ϕ hn1
    have HN2 := ϕ hn2
    clear hst hn1 hn2 hv1
    go_upto_region 4 with fail
    refine RT.start (fun W => Below wr.heap.size wr W) 11 1 (by kernel_rfl) (by decide) rfl (by kernel_rfl) (by kernel_rfl) (Below.drew (Below.refl _ _)) ?_
    refine RT.tu 0 ?_; try go_frame
    refine RT.tu 1 ?_; try go_frame
    refine RT.tu 2 ?_; try go_frame
    refine' RT.tv 3 ?hk4 ?_
    case hk4 => (intro W hSW; have k1 := (HR.out.below hSW HR.out.lt).cell k HLK.out; rw [HN1.out] at k1; go_simp; try with_reducible rfl)
    try go_frame
    refine RT.tu 4 ?_; try go_frame
    refine RT.tu 5 ?_; try go_frame
    refine RT.tu 6 ?_; try go_frame
    refine' RT.tv 7 ?hk8 ?_
    case hk8 => (intro W hSW; have k2 := (HY.out.below hSW HY.out.lt).cell k HLY.out; rw [HN2.out] at k2; go_simp; try with_reducible rfl)
    try go_frame
    refine' RT.tv 8 ?hk9 ?_
    case hk9 => (intro W hSW; have e3x := e3; go_simp; try with_reducible rfl)
    try go_frame
    refine RT.tu 9 ?_; try go_frame
    refine RT.tu 10 ?_; try go_frame
    refine RT.tail (by kernel_rfl) rfl rfl ?_
    intro wd hlwd hswd
    have hlx : Below wr.heap.size wr wd := (Below.drew (Below.refl _ _)).trans hlwd
    have HRd := ϕ (HR.out.below hlx HR.out.lt)
    have HYd := ϕ (HY.out.below hlx HY.out.lt)
    have HZd := bl HZ hlx
    have HBd := tn HB HXB hlx
    clear hlwd hswd hlx
    refine qt_ rfl 73 _ _ rfl (b := xb) (j := k) (v := v1) rfl rfl underlying73 (by kernel_rfl) HRd.out HLK.out ?_
    intro V hV hgV
    have HRV := ϕ hV
    have HYV := ϕ (jo_ HYd.out hgV HNE.out.1)
    have HZV := ϕ (qb_ HZd.out hgV HNE.out.2.1)
    have HBV := ϕ (HBd.out.grown hgV (HBd.out.qr_ HXB.out) (fun j e => by cases e; exact Nat.le_refl _))
    clear hV hgV
    go_wp2_with fail
    go_roundw
    case rel =>
     have REL := ϕ (show ∃ k' : Nat, k' ≤ 5 ∧ Value.int .i64 ((k : Int) + 1) = .int .i64 k' ∧ Row V xb 76 (it (zip2 addF y.l) k' x.l) ∧ Row V yb 76 y.l ∧ Rg.Blk V rb 76 Z5 ∧ Below xb w V from ⟨k + 1, hk5, rfl, by rw [HST.out]; exact HRV.out, HYV.out, HZV.out, HBV.out⟩)
     first
      | exact REL.out
      | ((repeat apply Exists.intro); refine ⟨?_, rfl⟩; exact REL.out)
    case measure => (first | (simp [intOf]; done) | (simp [intOf]; omega))
  · obtain rfl : k = 5 := by omega
    have hd : decide ((5 : Nat) < 5) = false := by simp
    have HRC := ϕ (show Row wr xb 76 (add1 x y).l from by rw [← add_it x y]; exact HR.out)
    go_wp2_with (first
     | ((with_reducible refine qd_ ?_); refine lcA (u64s (add1 x y).l) (jf_ HRC.out) ?_)
     | (go_at_call 113; refine (carry_any _ (add1 x y)).mono ?_; rintro e w9 ⟨rfl, hb9⟩; have HZ9 := bl HZ hb9; have HB9 := tn HB HXB hb9; clear hb9)
     | ((with_reducible refine qd_ ?_); refine scA (u64s (carry (add1 x y)).l) Z5 HZ9.out (by rw [ql_]; rfl) ?_; intro V3 hV hgV; have HZZ := ϕ hV; have HBZ := ϕ (HB9.out.grown hgV (HB9.out.qr_ HXB.out) (fun j e => by cases e; exact HNE.out.2.2)); clear hV hgV))
    refine bodyPost_ret (v := .agg (u64s (carry (add1 x y)).l))
     (results_cell_row results71 _ _ rb 76 _ (0, 0) _ rfl HZZ.out underlying76 rfl (by rw [ql_]; kernel_rfl)) rfl ?_
    exact ⟨rfl, HXB.out ▸ HBZ.out⟩
theorem wrap_sub (x y : Nat) (h : y ≤ M) : IntKind.u64.wrap ((x : Int) - (y : Int)) = (((x + (M - y)) % M : Nat) : Int) := by rw [IntKind.wrap_u64]; unfold M at *; omega
theorem wrap_subF (x y : Nat) (h : y < M) : IntKind.u64.wrap ((x : Int) - (y : Int)) = ((subF x y : Nat) : Int) := by unfold subF; exact wrap_sub x y (Nat.le_of_lt h)
theorem carry_lt (y : E) (k : Nat) : nth (carry y).l k < M := carry_ok y k
theorem it_tw_succ (k : Nat) (l : List Nat) : it twR (k + 1) l = (it twR k l).set (k + 1) ((nth (it twR k l) (k + 1) + tw) % M) := rfl
theorem wrap_tw0 (n : Nat) : IntKind.u64.wrap ((n : Int) + 4503599627370458) = (((n + tw0) % M : Nat) : Int) := by rw [IntKind.wrap_u64]; unfold tw0 M; omega
theorem wrap_tw (n : Nat) : IntKind.u64.wrap ((n : Int) + 4503599627370494) = (((n + tw) % M : Nat) : Int) := by rw [IntKind.wrap_u64]; unfold tw M; omega
theorem Sub_any (w : World) (x y : E) : Calls prog 109 #[.agg (u64s x.l), .agg (u64s y.l)] w fun e w' => e = .returned (.agg (u64s (sub x y).l)) ∧ Below w.heap.size w w' := by
 go_enter func109, ntmps109
 have tok1 := trivial
 go_upto_region 1 with (first
  | (have _t := tok1; (with_reducible refine qd_ ?_); refine bxA 76 (u64s x.l) ?_; intro X HX HBX HNX; have tok2 := trivial; clear _t tok1)
  | (have _t := tok2; (with_reducible refine qd_ ?_); refine bxA 76 (u64s y.l) ?_; intro X2 HY2 HBY HNY; clear _t tok2))
 obtain ⟨xb, hxb⟩ : ∃ xb, w.heap.size = xb := exr
 obtain ⟨yb, hyb⟩ : ∃ yb, X.heap.size = yb := exr
 obtain ⟨rb, hrb⟩ : ∃ rb, X2.heap.size = rb := exr
 have HR := ϕ (show Row (X2.alloc (.cells Z5 76)) xb 76 x.l from ((hxb ▸ HX.out).below HBY.out (hxb ▸ HX.out.lt)).alloc _)
 have HY := ϕ (show Row (X2.alloc (.cells Z5 76)) yb 76 y.l from (hyb ▸ HY2.out).alloc _)
 have HZ := ϕ (show Rg.Blk (X2.alloc (.cells Z5 76)) rb 76 Z5 from Rg.Blk.newAt hrb.symm _ _)
 have HB := ϕ (show Below xb w (X2.alloc (.cells Z5 76)) from hxb ▸ (HBX.out.trans (HBY.out.mono HBX.out.size)).alloc (Nat.le_trans HBX.out.size HBY.out.size) _)
 have HNE := ϕ (show xb ≠ yb ∧ xb ≠ rb ∧ xb ≤ rb from by have h1 := HNX.out; have h2 := HNY.out; refine ⟨?_, ?_, ?_⟩ <;> omega)
 have HN2 := ϕ (show yb ≠ rb ∧ xb ≤ yb from by have h1 := HNX.out; have h2 := HNY.out; refine ⟨?_, ?_⟩ <;> omega)
 have HXB := ϕ hxb
 rw [hxb, hyb, hrb, show (#[.int .u64 0, .int .u64 0, .int .u64 0, .int .u64 0, .int .u64 0] : Array Value) = Z5 from rfl]
 generalize X2.alloc (.cells Z5 76) = Z at *
 clear HX HBX HY2 HBY HNX HNY hxb hyb hrb
 go_upto_region 2 with (first
  | ((with_reducible refine qd_ ?_); refine lcA (u64s y.l) (jf_ HY.out) ?_)
  | (go_at_call 113; refine (carry_any _ y).mono ?_; rintro e w9 ⟨rfl, hb9⟩; have HR9 := ϕ (HR.out.below hb9 HR.out.lt); have HY9 := ϕ (HY.out.below hb9 HY.out.lt); have HZ9 := bl HZ hb9; have HB9 := tn HB HXB hb9; clear hb9)
  | ((with_reducible refine qd_ ?_); refine scA (u64s (carry y).l) (u64s y.l) (jf_ HY9.out) (by rw [ql_, ql_]) ?_; intro V1 hV hgV; have HY1 := ϕ (show Row V1 yb 76 (carry y).l from hV); have HR1 := ϕ (jo_ HR9.out hgV HNE.out.1.symm); have HZ1 := ϕ (qb_ HZ9.out hgV HN2.out.1); have HB1 := ϕ (HB9.out.grown hgV (HB9.out.qr_ HXB.out) (fun j e => by cases e; exact HN2.out.2)); clear hV hgV))
 clear HR HY HZ HB HR9 HY9 HZ9 HB9
 have c0 := HR1.out.cell 0 (by rw [E.len]; decide)
 obtain ⟨n0, hn0⟩ : ∃ n0, nth x.l 0 = n0 := exr
 have e0 : IntKind.u64.wrap ((n0 : Int) + 4503599627370458) = (((n0 + tw0) % M : Nat) : Int) := wrap_tw0 n0
 rw [hn0] at c0
 obtain ⟨m0, hm0⟩ : ∃ m0, (n0 + tw0) % M = m0 := exr
 rw [hm0] at e0
 have HM0 := ϕ (show (nth x.l 0 + tw0) % M = m0 by rw [hn0]; exact hm0)
 clear hn0 hm0
 go_upto_region 3 with ((with_reducible refine qd_ ?_); refine qt_ rfl 73 _ _ rfl (b := xb) (j := 0) (v := m0) rfl rfl underlying73 (by kernel_rfl) HR1.out (by rw [E.len]; decide) ?_; intro V2 hV hgV; rw [← HM0.out] at hV; have HR0 := ϕ hV; have HY := ϕ (jo_ HY1.out hgV HNE.out.1); have HZ := ϕ (qb_ HZ1.out hgV HNE.out.2.1); have HB := ϕ (HB1.out.grown hgV (HB1.out.qr_ HXB.out) (fun j e => by cases e; exact Nat.le_refl _)); clear hV hgV)
 clear c0 e0 HR1 HY1 HZ1 HB1 HM0
 obtain ⟨l1, hl1⟩ : ∃ l1, x.l.set 0 ((nth x.l 0 + tw0) % M) = l1 := exr
 have HR := ϕ (show Row V2 xb 76 l1 from by rw [← hl1]; exact HR0.out)
 have HL1 := ϕ (show l1.length = 5 by rw [← hl1, List.length_set]; rfl)
 have HSE0 := ϕ (show ∀ l2, it twR 4 l1 = l2 → it (zip2 subF (carry y).l) 5 l2 = (sub1 x (carry y)).l from fun l2 e => by rw [← e, ← hl1]; exact sub_it x (carry y))
 clear HR0 hl1
 go_upto_region 4 with fail
 go_loopw [5] (fun i wr => ∃ k : Nat, k ≤ 4 ∧ i = .int .i64 ((k : Int) + 1) ∧ Row wr xb 76 (it twR k l1) ∧ Row wr yb 76 (carry y).l ∧ Rg.Blk wr rb 76 Z5 ∧ Below xb w wr) (fun i _ => 5 - (intOf i).toNat)
 case atStart => exact ⟨0, Nat.zero_le _, rfl, by rw [it_zero]; exact HR.out, HY.out, HZ.out, HB.out⟩
 case round =>
  obtain ⟨k, hk, rfl, hr, hy, hz, hb⟩ := hrel
  clear HR HY HZ HB
  have HR := ϕ hr
  have HY := ϕ hy
  have HZ := ϕ hz
  have HB := ϕ hb
  have HL := ϕ (show (it twR k l1).length = 5 by rw [it_tw_len]; exact HL1.out)
  clear hr hy hz hb
  by_cases hk4 : k < 4
  · have hd : decide ((k : Int) + 1 < 5) = true := by simp; omega
    have hki : (k : Int) + 1 < 5 := by omega
    have hk0 : (0 : Int) ≤ (k : Int) + 1 := by omega
    have c1 := HR.out.cell (k + 1) (by rw [HL.out]; omega)
    have HLK := ϕ (show k + 1 < (it twR k l1).length by rw [HL.out]; omega)
    have hst := it_tw_succ k l1
    obtain ⟨n1, hn1⟩ : ∃ n1, nth (it twR k l1) (k + 1) = n1 := exr
    have e1 : IntKind.u64.wrap ((n1 : Int) + 4503599627370494) = (((n1 + tw) % M : Nat) : Int) := wrap_tw n1
    rw [hn1] at hst c1
    obtain ⟨v1, hv1⟩ : ∃ v1, (n1 + tw) % M = v1 := exr
    rw [hv1] at hst e1
    have HST := ϕ hst
    clear hst hn1 hv1
    have hnt : ((k : Int) + 1).toNat = k + 1 := by omega
    go_wp2_with ((with_reducible refine qd_ ?_); refine qt_ rfl 73 _ _ rfl (b := xb) (j := k + 1) (v := v1) rfl rfl underlying73 (by kernel_rfl) HR.out HLK.out ?_; intro V hV hgV; have HRV := ϕ hV; have HYV := ϕ (jo_ HY.out hgV HNE.out.1); have HZV := ϕ (qb_ HZ.out hgV HNE.out.2.1); have HBV := ϕ (HB.out.grown hgV (HB.out.qr_ HXB.out) (fun j e => by cases e; exact Nat.le_refl _)); clear hV hgV)
    go_roundw
    case rel =>
     have REL := ϕ (show ∃ k' : Nat, k' ≤ 4 ∧ Value.int .i64 ((k : Int) + 1 + 1) = .int .i64 ((k' : Int) + 1) ∧ Row V xb 76 (it twR k' l1) ∧ Row V yb 76 (carry y).l ∧ Rg.Blk V rb 76 Z5 ∧ Below xb w V from ⟨k + 1, hk4, rfl, by rw [HST.out]; exact HRV.out, HYV.out, HZV.out, HBV.out⟩)
     first
      | exact REL.out
      | ((repeat apply Exists.intro); refine ⟨?_, rfl⟩; exact REL.out)
    case measure => (first | (simp [intOf]; done) | (simp [intOf]; omega))
  · obtain rfl : k = 4 := by omega
    have hd : decide (((4 : Nat) : Int) + 1 < 5) = false := by simp
    obtain ⟨l2, hl2⟩ : ∃ l2, it twR 4 l1 = l2 := exr
    rw [hl2] at HR HL
    have HSE := ϕ (HSE0.out l2 hl2)
    clear hl2 HSE0
    have HL2 := HL
    go_upto_region 8 with fail
    go_loopw [26] (fun i wr => ∃ k : Nat, k ≤ 5 ∧ i = .int .i64 k ∧ Row wr xb 76 (it (zip2 subF (carry y).l) k l2) ∧ Row wr yb 76 (carry y).l ∧ Rg.Blk wr rb 76 Z5 ∧ Below xb w wr) (fun i _ => 5 - (intOf i).toNat)
    case atStart => exact ⟨0, Nat.zero_le _, rfl, by rw [it_zero]; exact HR.out, HY.out, HZ.out, HB.out⟩
    case round =>
     obtain ⟨k, hk, rfl, hr, hy, hz, hb⟩ := hrel
     clear HR HY HZ HB
     have HR := ϕ hr
     have HY := ϕ hy
     have HZ := ϕ hz
     have HB := ϕ hb
     have HL := ϕ (show (it (zip2 subF (carry y).l) k l2).length = 5 by rw [it_zip_len]; exact HL2.out)
     clear hr hy hz hb
     by_cases hk5 : k < 5
     · have hd : decide (k < 5) = true := by simp; exact hk5
       have hki : (k : Int) < 5 := by omega
       have hk0 : (0 : Int) ≤ k := by omega
       have HLK := ϕ (show k < (it (zip2 subF (carry y).l) k l2).length by rw [HL.out]; exact hk5)
       have HLY := ϕ (show k < ((carry y).l).length from hk5)
       have hst := it_zip_succ subF (carry y).l k l2
       obtain ⟨n1, hn1⟩ : ∃ n1, nth (it (zip2 subF (carry y).l) k l2) k = n1 := exr
       obtain ⟨n2, hn2⟩ : ∃ n2, nth (carry y).l k = n2 := exr
       have HLE := ϕ (carry_lt y k)
       rw [hn2] at HLE
       have e3 : IntKind.u64.wrap ((n1 : Int) - (n2 : Int)) = ((subF n1 n2 : Nat) : Int) := wrap_subF n1 n2 HLE.out
       rw [hn1, hn2] at hst
       obtain ⟨v1, hv1⟩ : ∃ v1, subF n1 n2 = v1 := exr
       rw [hv1] at hst e3
       have HST := ϕ hst
       have HN1 := ϕ hn1
       have HN2 := ϕ hn2
       clear hst hn1 hn2 hv1
       go_upto_region 10 with fail
       refine RT.start (fun W => Below wr.heap.size wr W) 11 1 (by kernel_rfl) (by decide) rfl (by kernel_rfl) (by kernel_rfl) (Below.drew (Below.refl _ _)) ?_
       refine RT.tu 0 ?_; try go_frame
       refine RT.tu 1 ?_; try go_frame
       refine RT.tu 2 ?_; try go_frame
       refine' RT.tv 3 ?hk4 ?_
       case hk4 => (intro W hSW; have k1 := (HR.out.below hSW HR.out.lt).cell k HLK.out; rw [HN1.out] at k1; go_simp; try with_reducible rfl)
       try go_frame
       refine RT.tu 4 ?_; try go_frame
       refine RT.tu 5 ?_; try go_frame
       refine RT.tu 6 ?_; try go_frame
       refine' RT.tv 7 ?hk8 ?_
       case hk8 => (intro W hSW; have k2 := (HY.out.below hSW HY.out.lt).cell k HLY.out; rw [HN2.out] at k2; go_simp; try with_reducible rfl)
       try go_frame
       refine' RT.tv 8 ?hk9 ?_
       case hk9 => (intro W hSW; have e3x := e3; go_simp; try with_reducible rfl)
       try go_frame
       refine RT.tu 9 ?_; try go_frame
       refine RT.tu 10 ?_; try go_frame
       refine RT.tail (by kernel_rfl) rfl rfl ?_
       intro wd hlwd hswd
       have hlx : Below wr.heap.size wr wd := (Below.drew (Below.refl _ _)).trans hlwd
       have HRd := ϕ (HR.out.below hlx HR.out.lt)
       have HYd := ϕ (HY.out.below hlx HY.out.lt)
       have HZd := bl HZ hlx
       have HBd := tn HB HXB hlx
       clear hlwd hswd hlx
       refine qt_ rfl 73 _ _ rfl (b := xb) (j := k) (v := v1) rfl rfl underlying73 (by kernel_rfl) HRd.out HLK.out ?_
       intro V hV hgV
       have HRV := ϕ hV
       have HYV := ϕ (jo_ HYd.out hgV HNE.out.1)
       have HZV := ϕ (qb_ HZd.out hgV HNE.out.2.1)
       have HBV := ϕ (HBd.out.grown hgV (HBd.out.qr_ HXB.out) (fun j e => by cases e; exact Nat.le_refl _))
       clear hV hgV
       go_wp2_with fail
       go_roundw
       case rel =>
        have REL := ϕ (show ∃ k' : Nat, k' ≤ 5 ∧ Value.int .i64 ((k : Int) + 1) = .int .i64 k' ∧ Row V xb 76 (it (zip2 subF (carry y).l) k' l2) ∧ Row V yb 76 (carry y).l ∧ Rg.Blk V rb 76 Z5 ∧ Below xb w V from ⟨k + 1, hk5, rfl, by rw [HST.out]; exact HRV.out, HYV.out, HZV.out, HBV.out⟩)
        first
         | exact REL.out
         | ((repeat apply Exists.intro); refine ⟨?_, rfl⟩; exact REL.out)
       case measure => (first | (simp [intOf]; done) | (simp [intOf]; omega))
     · obtain rfl : k = 5 := by omega
       have hd : decide ((5 : Nat) < 5) = false := by simp
       have HRC := ϕ (show Row wr xb 76 (sub1 x (carry y)).l from by rw [← HSE.out]; exact HR.out)
       go_wp2_with (first
        | ((with_reducible refine qd_ ?_); refine lcA (u64s (sub1 x (carry y)).l) (jf_ HRC.out) ?_)
        | (go_at_call 113; refine (carry_any _ (sub1 x (carry y))).mono ?_; rintro e w9 ⟨rfl, hb9⟩; have HZ9 := bl HZ hb9; have HB9 := tn HB HXB hb9; clear hb9)
        | ((with_reducible refine qd_ ?_); refine Cv.qs_ rfl 76 _ _ rfl rb (u64s (carry (sub1 x (carry y))).l) Z5 76 rfl rfl HZ9.out (by rw [ql_]; kernel_rfl) (by rw [ql_]; rfl) (u64s_one _) ?_; intro V3 hV hgV; have HZZ := ϕ hV; have HBZ := ϕ (HB9.out.grown hgV (HB9.out.qr_ HXB.out) (fun j e => by cases e; exact HNE.out.2.2)); clear hV hgV))
       refine bodyPost_ret (v := .agg (u64s (carry (sub1 x (carry y))).l))
        (results_cell_row results109 _ _ rb 76 _ (0, 0) _ rfl HZZ.out underlying76 rfl (by rw [ql_]; kernel_rfl)) rfl ?_
       exact ⟨rfl, HXB.out ▸ HBZ.out⟩
def fl : List Nat → List Nat
 | [] => []
 | t :: ts => t % M :: t / M % M :: fl ts
theorem fl_len : ∀ ts : List Nat, (fl ts).length = 2 * ts.length
 | [] => rfl
 | t :: ts => by simp [fl, fl_len ts]; omega
theorem fl_lo : ∀ (ts : List Nat) (j : Nat), nth (fl ts) (2 * j) = nth ts j % M
 | [], j => by simp [fl, nth]
 | t :: ts, 0 => rfl
 | t :: ts, j + 1 => by
  have h := fl_lo ts j
  rw [show 2 * (j + 1) = 2 * j + 2 by omega]
  exact h
theorem fl_hi : ∀ (ts : List Nat) (j : Nat), nth (fl ts) (2 * j + 1) = nth ts j / M % M
 | [], j => by simp [fl, nth]
 | t :: ts, 0 => rfl
 | t :: ts, j + 1 => by
  have h := fl_hi ts j
  rw [show 2 * (j + 1) + 1 = 2 * j + 1 + 2 by omega]
  exact h
theorem fl_set : ∀ (ts : List Nat) (j t : Nat), ((fl ts).set (2 * j) (t % M)).set (2 * j + 1) (t / M % M) = fl (ts.set j t)
 | [], j, t => by simp [fl]
 | u :: ts, 0, t => rfl
 | u :: ts, j + 1, t => by
  have h := fl_set ts j t
  rw [show 2 * (j + 1) = 2 * j + 2 by omega, show 2 * j + 2 + 1 = 2 * j + 1 + 2 by omega]
  simp only [fl, List.set_cons_succ, h]
theorem sum_lo (t p : Nat) : (t % M + p % M) % M = (t + p) % M := (Nat.add_mod t p M).symm
theorem sum_hi (t p : Nat) : (t / M % M + p / M + (t % M + p % M) / M) % M = (t + p) / M % M := by
 unfold M
 omega
theorem add64_run (x y c : Nat) (hc : c ≤ 1) (w : World) :
 (callFunc 111 #[.int .u64 (x : Int), .int .u64 (y : Int), .int .u64 (c : Int)]).run prog w =
  .ok (.value (.tuple #[.int .u64 (((x + y + c) % M : Nat) : Int), .int .u64 (((x + y + c) / M : Nat) : Int)])) w := by
 rw [run_callFunc_extern func111 (by kernel_rfl) (by kernel_rfl) (by kernel_rfl) (e := add64Entry) (by kernel_rfl), run_add64 x y c (by omega) (by omega) (by omega) (by omega)]
 simp only [Result.andThen]
 unfold M
 congr 5 <;> omega
theorem add64_0 (x y : Nat) (w : World) :
 (callFunc 111 #[.int .u64 (x : Int), .int .u64 (y : Int), .int .u64 0]).run prog w =
  .ok (.value (.tuple #[.int .u64 (((x + y) % M : Nat) : Int), .int .u64 (((x + y) / M : Nat) : Int)])) w := add64_run x y 0 (by decide) w
theorem fl_cell_hi {w : World} {b T j v t h0 : Nat} {ts : List Nat} (h : Row w b T ((fl ts).set (2 * j) v)) (hj : 2 * j + 1 < (fl ts).length) (ht : nth ts j = t) (hh : t / M % M = h0) : w.cell? ⟨b, 2 * j + 1, none⟩ = some (.int .u64 (h0 : Nat)) := by
 have h1 := h.cell (2 * j + 1) (by rw [List.length_set]; exact hj)
 rw [jb_ (show 2 * j ≠ 2 * j + 1 by omega), fl_hi, ht, hh] at h1
 exact h1
theorem sumadd_any (w : World) (b T j : Nat) (ts : List Nat) (hj : j < ts.length) (a c : Nat) (ha : a < M) (hc : c < M) (hB : Row w b T (fl ts)) :
 Calls prog 110 #[.pointer (some ⟨b, 2 * j, none⟩), .int .u64 a, .int .u64 c] w fun e w' => (∃ v, e = .returned v) ∧ Row w' b T (fl (ts.set j (nth ts j + a * c))) ∧ w.grownBy w' (some b) := by
 have HR := ϕ hB
 have HLK := ϕ (show 2 * j < (fl ts).length by rw [fl_len]; omega)
 have HLK2 := ϕ (show 2 * j + 1 < (fl ts).length by rw [fl_len]; omega)
 have HLK3 := ϕ (show ∀ v, 2 * j + 1 < ((fl ts).set (2 * j) v).length from fun v => by rw [List.length_set]; exact HLK2.out)
 have c0 := hB.cell (2 * j) HLK.out
 have HMU := ϕ (fun W => Tryz.bits_Mul64 a c ha hc W)
 rw [fl_lo] at c0
 obtain ⟨t, ht⟩ : ∃ t, nth ts j = t := exr
 have h1 := sum_lo t (a * c)
 have h2 := sum_hi t (a * c)
 have HT := ϕ ht
 rw [ht] at c0 ⊢
 have HPQ := ϕ (show t % M < M ∧ a * c % M < M from ⟨jv_ _, jv_ _⟩)
 obtain ⟨l0, hl0⟩ : ∃ l0, t % M = l0 := exr
 obtain ⟨h0, hh0⟩ : ∃ h0, t / M % M = h0 := exr
 obtain ⟨p1, hp1⟩ : ∃ p1, a * c / M = p1 := exr
 obtain ⟨p2, hp2⟩ : ∃ p2, a * c % M = p2 := exr
 rw [hl0, hp2] at h1 h2 HPQ
 rw [hp1, hh0] at h2
 rw [hl0] at c0
 rw [show (18446744073709551616 : Nat) = M from rfl, hp1, hp2] at HMU
 obtain ⟨q, hq⟩ : ∃ q, (l0 + p2) / M = q := exr
 rw [hq] at h2
 have HQ := ϕ (show q ≤ 1 by have := HPQ.out; unfold M at *; omega)
 have HSET := ϕ (show ((fl ts).set (2 * j) ((l0 + p2) % M)).set (2 * j + 1) ((h0 + p1 + q) % M) = fl (ts.set j (t + a * c)) from by rw [h1, h2, fl_set])
 have HA0 := ϕ (fun W => add64_0 l0 p2 W)
 have HA1 := ϕ (fun W => add64_run h0 p1 q HQ.out W)
 rw [hq] at HA0
 obtain ⟨v1, hv1⟩ : ∃ v1, (l0 + p2) % M = v1 := exr
 obtain ⟨v2, hv2⟩ : ∃ v2, (h0 + p1 + q) % M = v2 := exr
 rw [hv1] at HA0 HSET
 rw [hv2] at HA1 HSET
 have HH0 := ϕ hh0
 clear hB ha hc ht h1 h2 hl0 hh0 hp1 hp2 hq hv1 hv2
 go_enter func110, ntmps110
 have tok1 := trivial
 go_wp2_with (first
  | (go_at_call 112; refine (HMU.out _).mono ?_; rintro e w2 ⟨rfl, rfl⟩; skip)
  | (simp only [HA0.out])
  | (simp only [HA1.out])
  | (have _t := tok1; (with_reducible refine qd_ ?_); refine qt_ rfl 73 _ _ rfl (b := b) (j := 2 * j) (v := v1) rfl rfl underlying73 (by kernel_rfl) HR.out HLK.out ?_; intro V hV hgV; have HRV := ϕ hV; have HG := ϕ hgV; have c1 := fl_cell_hi hV HLK2.out HT.out HH0.out; clear hV hgV c0; have tok2 := trivial; clear _t tok1)
  | (have _t := tok2; (with_reducible refine qd_ ?_); refine qt_ rfl 73 _ _ rfl (b := b) (j := 2 * j + 1) (v := v2) rfl rfl underlying73 (by kernel_rfl) HRV.out (HLK3.out v1) ?_; intro V2 hV hgV; rw [HSET.out] at hV; have HRW := ϕ hV; have HG2 := ϕ (HG.out.trans hgV); clear hV hgV c1 _t tok2))
 go_end0
 exact ⟨⟨_, rfl⟩, HRW.out, HG2.out⟩
theorem two_lo (t q : Nat) : (t % M + q) % M = (t + q) % M2 % M := by unfold M M2; omega
theorem two_hi (t q : Nat) (hq : q < M) : (t / M % M + (t % M + q) / M) % M = (t + q) % M2 / M := by unfold M M2 at *; omega
theorem two_or (h l : Nat) (hl : l < M) (hh : h < M) : (h * 8192 % M ||| l / W) = (h * M + l) / W % M := by
 have h1 : l / W < 2 ^ 13 := by unfold W M at *; omega
 have h2 : h * 8192 % M = (h % W) * 2 ^ 13 := by unfold W M; omega
 rw [h2, ← Nat.shiftLeft_eq, ← Nat.shiftLeft_add_eq_or_of_lt h1, Nat.shiftLeft_eq]
 unfold W M at *
 omega
theorem two_c (t q : Nat) (hq : q < M) : ((t / M % M + (t % M + q) / M) % M * 8192 % M ||| (t % M + q) % M / W) = (t + q) % M2 / W % M := by
 rw [two_or _ _ (jv_ _) (jv_ _), two_hi t q hq, two_lo]
 congr 2
 have := Nat.div_add_mod ((t + q) % M2) M
 rw [Nat.mul_comm]; exact this
theorem two_m (t q : Nat) : (t % M + q) % M % W = (t + q) % M2 % W := by rw [two_lo]; unfold M M2 W; omega
theorem wrap_shl (x : Nat) : IntKind.u64.wrap ((x : Int) * 8192) = ((x * 8192 % M : Nat) : Int) := by rw [IntKind.wrap_u64]; unfold M; omega
theorem wrap_or (x y : Nat) (hx : x < M) (hy : y < M) : bits .or .u64 (x : Int) (y : Int) = ((x ||| y : Nat) : Int) := u64_or_nat x y hx hy
end Go.Proofs.YtciibogkfbicfaaGreatDoor.Kx
namespace Go.Proofs.YtciibogkfbicfaaGreatDoor.Cl
open Go.RowKit
theorem index_words {P : Program} (ty elem : TypeId) (len : Nat) (xs : List Nat) (j : Nat) (hu : P.underlying ty = some (.array len elem)) (he : P.underlying elem = some (.int .u64))
 (hi : (P.info? elem).map (·.size) = some 1) (hl : xs.length = len) (hj : j < len) (w : World) :
 (Instr.index ty (.agg (u64s xs)) (.int .i64 (j : Int))).run P w = .ok (.int .u64 (nth xs j : Nat)) w := by
 cases hq : P.info? elem with
 | none => simp [hq] at hi
 | some i =>
 have hs : i.size = 1 := by simpa [hq] using hi
 have h2 : (u64s xs)[j]? = some (.int .u64 (nth xs j : Nat)) := by simp [u64s, nth, List.getElem?_eq_getElem (show j < xs.length by omega)]
 unfold Instr.index
 simp [go_sem, run_underlying hu, run_underlying he, hq, hs, sizeOf, typeInfo, hj, h2, part, isAgg]
end Go.Proofs.YtciibogkfbicfaaGreatDoor.Cl
