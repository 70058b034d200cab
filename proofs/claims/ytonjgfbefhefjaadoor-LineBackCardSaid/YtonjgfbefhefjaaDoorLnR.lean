/- A range over strings.SplitSeq at a blank: the iterator keeps what is left in a cell of its own. -/
import Derived.RangeFuncNested
import Derived.RangeFuncBound
import Derived.RangeFuncCalls
import Derived.RangeFuncLeaves
import Derived.OwnWalkIn
import Derived.TacticsInMore
import Derived.LoopNIn
import Derived.LoopIn
import Derived.Test.YtonjgfbefhefjaaDoorLnH
set_option linter.unusedVariables false
set_option linter.unusedSimpArgs false
namespace Go.Proofs.YtonjgfbefhefjaaDoor.Ln
open Go Go.RowKit Go.Proofs.YtonjgfbefhefjaaDoor.Ow
attribute [local go_sem] Oper.semAt_some
/-- what is said abides new blocks, a turn of block b, and a turn of what is no cells from B on -/
def Abs (B b : Nat) (I : List (List UInt8) → World → Prop) : Prop :=
  ∀ s W W' row, I s W → W.grownBy W' row → (∀ r, row = some r → r = b ∨ (B ≤ r ∧ ∃ o : Obj, W.heap[r]? = some o ∧ o.isCells = false)) → I s W'
theorem Abs.alloc {B b : Nat} {I : List (List UInt8) → World → Prop} (h : Abs B b I) {s : List (List UInt8)} {W : World} (o : Obj) (hs : I s W) : I s (W.alloc o) :=
  h s W _ none hs (World.grownBy_alloc W o none) (fun r e => by cases e)
theorem Abs.putObj {B b : Nat} {I : List (List UInt8) → World → Prop} (h : Abs B b I) {s : List (List UInt8)} {W : World} {l : Nat} {o : Obj} (o' : Obj) (hs : I s W) (hB : B ≤ l) (hl : W.heap[l]? = some o) (ho : o.isCells = false) : I s (W.putObj l o') :=
  h s W _ (some l) hs (grownBy_putObj' W l o') (fun r e => by cases e; exact .inr ⟨hB, o, hl, ho⟩)
/-- a round leaves the iterator's own cells -/
def Kp (bp bs bv : Nat) (W W' : World) : Prop := W'.heap[bp]? = W.heap[bp]? ∧ W'.heap[bs]? = W.heap[bs]? ∧ W'.heap[bv]? = W.heap[bv]?
theorem Kp.trans {bp bs bv : Nat} {A B C : World} (h : Kp bp bs bv A B) (k : Kp bp bs bv B C) : Kp bp bs bv A C := ⟨k.1.trans h.1, k.2.1.trans h.2.1, k.2.2.trans h.2.2⟩
/-- the iterator's boxes: the separator, what is left, how much of the separator is kept -/
structure SqAt (W : World) (bp bs bv : Nat) (r : List UInt8) : Prop where
  p : Rg.Blk W bp 9 #[.string ⟨#[32]⟩]
  s : Rg.Blk W bs 9 #[.string (strB r)]
  v : Rg.Blk W bv 3 #[.int .i64 0]
  ps : bp ≠ bs
  vs : bv ≠ bs
theorem SqAt.kp {W W' : World} {bp bs bv : Nat} {r : List UInt8} (h : SqAt W bp bs bv r) (k : Kp bp bs bv W W') : SqAt W' bp bs bv r :=
  ⟨k.1.trans h.p, k.2.1.trans h.s, k.2.2.trans h.v, h.ps, h.vs⟩
theorem SqAt.set {W : World} {bp bs bv : Nat} {r : List UInt8} (h : SqAt W bp bs bv r) (t : List UInt8) : SqAt (W.setCell ⟨bs, 0, none⟩ (.string (strB t))) bp bs bv t :=
  ⟨by unfold Rg.Blk; rw [heap_setCell_other W ⟨bs, 0, none⟩ bp _ h.ps]; exact h.p, blk_set h.s, by unfold Rg.Blk; rw [heap_setCell_other W ⟨bs, 0, none⟩ bv _ h.vs]; exact h.v, h.ps, h.vs⟩
theorem ib_none {c : UInt8} : ∀ {l : List UInt8}, Lib.indexByte l c = -1 → c ∉ l
  | [], _ => by simp
  | b :: l, h => by
    unfold Lib.indexByte at h
    by_cases hb : (b == c) = true
    · rw [if_pos hb] at h; cases h
    · rw [if_neg hb] at h
      by_cases h1 : Lib.indexByte l c == -1
      · have := ib_none (l := l) (by simpa using h1)
        intro hm
        rcases List.mem_cons.1 hm with e | hm
        · exact hb (by simp [e])
        · exact this hm
      · rw [if_neg h1] at h
        have := Lib.indexByte_ge l c
        omega
theorem ib_some {c : UInt8} : ∀ {l : List UInt8} {i : Nat}, Lib.indexByte l c = (i : Int) → l = l.take i ++ c :: l.drop (i + 1) ∧ c ∉ l.take i ∧ i < l.length
  | [], i, h => by simp [Lib.indexByte] at h
  | b :: l, i, h => by
    unfold Lib.indexByte at h
    by_cases hb : (b == c) = true
    · rw [if_pos hb] at h
      have : i = 0 := by omega
      subst this
      have : b = c := by simpa using hb
      subst this
      simp
    · rw [if_neg hb] at h
      by_cases h1 : (Lib.indexByte l c == -1) = true
      · rw [if_pos h1] at h; omega
      · rw [if_neg h1] at h
        obtain ⟨j, rfl⟩ : ∃ j, i = j + 1 := by
          have h2 := Lib.indexByte_ge l c
          have h3 : ¬ Lib.indexByte l c = -1 := by simpa using h1
          exact ⟨i - 1, by omega⟩
        obtain ⟨e1, e2, e3⟩ := ib_some (l := l) (c := c) (i := j) (by omega)
        refine ⟨?_, ?_, by simpa using e3⟩
        · rw [List.take_succ_cons, List.drop_succ_cons, List.cons_append, ← e1]
        · rw [List.take_succ_cons]
          intro hm
          rcases List.mem_cons.1 hm with e | hm
          · exact hb (by simp [e])
          · exact e2 hm
theorem ib_cases (l : List UInt8) (c : UInt8) : Lib.indexByte l c = -1 ∨ ∃ i : Nat, Lib.indexByte l c = (i : Int) := by
  have := Lib.indexByte_ge l c
  by_cases h : Lib.indexByte l c < 0
  · exact .inl (by omega)
  · exact .inr ⟨(Lib.indexByte l c).toNat, by omega⟩
/-- how much is left -/
def left (bs : Nat) (W : World) : Nat := match W.cell? ⟨bs, 0, none⟩ with
  | some (.string s) => s.size
  | _ => 0
theorem left_eq {W : World} {bp bs bv : Nat} {r : List UInt8} (h : SqAt W bp bs bv r) : left bs W = r.length := by
  unfold left
  rw [h.s.cell 0 (v := .string (strB r)) rfl]
  exact strB_size r
theorem ext_takeL (l : List UInt8) (k : Nat) : (strB l).extract 0 k = strB (l.take k) := by
  apply list_inj
  simp [strB]
theorem ext_dropL (l : List UInt8) (k : Nat) : (strB l).extract k l.length = strB (l.drop k) := by
  apply list_inj
  rw [ByteArray.data_extract, Array.toList_extract, List.extract_eq_take_drop]
  show ((l.drop k).take (l.length - k)) = l.drop k
  rw [List.take_of_length_le]
  rw [List.length_drop]; exact Nat.le_refl _
set_option maxRecDepth 100000 in
set_option maxHeartbeats 2000000 in
theorem split_seq (n : Nat) (hn : 1 ≤ n) (bp bs bv : Nat) (r0 : List UInt8) (hr0 : r0.length ≤ 1000000) (l : Nat) (J Jx : List (List UInt8) → World → Prop) (B : Nat) (hJ : Abs B bs J) (hJx : Abs B bs Jx)
    (hY : ∀ pre x W1, J pre W1 → (pre ++ [x]) <+: sp r0 → YieldAt Fence.wide (n - 1) Tryd.prog l #[.string (strB x)] W1 fun e W' =>
      (e = .returned (.bool true) ∧ J (pre ++ [x]) W' ∧ Kp bp bs bv W1 W') ∨ (e = .returned (.bool false) ∧ Jx (pre ++ [x]) W'))
    (W : World) (hsq : SqAt W bp bs bv r0) (h0 : J [] W) :
    CallsIn Fence.wide n Tryd.prog 54 #[.func (.yield l) #[] #[], .pointer (some ⟨bp, 0, none⟩), .pointer (some ⟨bs, 0, none⟩), .pointer (some ⟨bv, 0, none⟩)] W fun e W' => (∃ v, e = .returned v) ∧
      ((∃ ys, ys = sp r0 ∧ J ys W') ∨ (∃ pre, pre <+: sp r0 ∧ Jx pre W')) := by
  refine callsIn_of_wp Tryd.func54 rfl trivial ?_ rfl
  simp only [Tryd.ntmps54, List.size_toArray, List.length_cons, List.length_nil, Nat.reduceAdd, Nat.reduceSub, Array.replicate_succ, Array.replicate_zero, List.push_toArray, List.append_toArray, List.nil_append, List.cons_append]
  have HSQ := Lib.hid hsq
  have HJ0 := Lib.hid h0
  have HY := Lib.hid hY
  have c1 := hsq.p.cell 0 (v := .string ⟨#[32]⟩) rfl
  clear hsq h0 hY
  gi_wp2
  clear c1
  gi_loopw [7] (fun _ wr => ∃ (pre : List (List UInt8)) (r : List UInt8), sp r0 = pre ++ sp r ∧ r.length ≤ r0.length ∧ SqAt wr bp bs bv r ∧ J pre wr) (fun _ wr => left bs wr)
  case atStart => exact ⟨[], r0, rfl, Nat.le_refl _, HSQ.out, HJ0.out⟩
  case round =>
    obtain ⟨pre, r, hx, hle, hsq, hJs⟩ := hrel
    have HX := Lib.hid hx
    have HSQ1 := Lib.hid hsq
    have HJ1 := Lib.hid hJs
    have hrl : r.length ≤ 1000000 := Nat.le_trans hle hr0
    have c1 := hsq.p.cell 0 (v := .string ⟨#[32]⟩) rfl
    have c2 := hsq.s.cell 0 (v := .string (strB r)) rfl
    have c3 := hsq.v.cell 0 (v := .int .i64 0) rfl
    clear hx hsq hJs HSQ HJ0
    rcases ib_cases r 32 with hi | ⟨i, hi⟩
    · have hn := Lib.hid (ib_none hi)
      have HS1 := Lib.hid (sp_one (ib_none hi))
      obtain ⟨fn, tmps, assign, body, hy, hR⟩ := HY.out pre r wr HJ1.out (by rw [HX.out, HS1.out]; exact List.prefix_refl _)
      have HR := Lib.hid hR
      clear hR
      have hcall : ∀ W, CallsIn Fence.wide (n - 1) Tryd.prog 45 #[.string (strB r), .string ⟨#[32]⟩] W fun e w' => e = .returned (.int .i64 (-1)) ∧ W = w' := fun W => callsIn_wide.2 (by have := Tryd.strings_Index_one (strB r) 32 W; rw [show (strB r).data.toList = r from rfl, hi] at this; exact this.mono fun e w' h => ⟨h.1, h.2.symm⟩)
      have HCA := Lib.hid hcall
      clear hcall hi
      gi_wp2_with (refine ⟨trivial, ?_⟩; refine (HCA.out _).mono ?_; rintro e w' ⟨rfl, rfl⟩)
      refine HR.out.mono ?_
      rintro e W3 (⟨rfl, hJ3, hk3⟩ | ⟨rfl, hJx3⟩)
      · gi_wp2
        go_end0
        exact ⟨⟨_, rfl⟩, .inl ⟨sp r0, rfl, by rw [HX.out, HS1.out]; exact hJ3⟩⟩
      · gi_wp2
        go_end0
        exact ⟨⟨_, rfl⟩, .inr ⟨pre ++ [r], ⟨[], by rw [HX.out, HS1.out]; simp⟩, hJx3⟩⟩
    · obtain ⟨q1, q2, q3⟩ := ib_some hi
      have HC := Lib.hid (show sp r = r.take i :: sp (r.drop (i + 1)) by
        have := sp_cut q2 (r.drop (i + 1))
        rw [← q1] at this; exact this)
      obtain ⟨fn, tmps, assign, body, hy, hR⟩ := HY.out pre (r.take i) wr HJ1.out (by rw [HX.out, HC.out]; exact ⟨sp (r.drop (i + 1)), by simp⟩)
      rw [← ext_takeL] at hy
      have HR := Lib.hid hR
      have hcall : ∀ W, CallsIn Fence.wide (n - 1) Tryd.prog 45 #[.string (strB r), .string ⟨#[32]⟩] W fun e w' => e = .returned (.int .i64 (i : Int)) ∧ W = w' := fun W => callsIn_wide.2 (by have := Tryd.strings_Index_one (strB r) 32 W; rw [show (strB r).data.toList = r from rfl, hi] at this; exact this.mono fun e w' h => ⟨h.1, h.2.symm⟩)
      have HCA := Lib.hid hcall
      have hsz : (strB r).size = r.length := strB_size r
      have hib : (i : Int) + 1 ≤ r.length := by omega
      have HED := Lib.hid (ext_dropL r (i + 1))
      have HJI := Lib.hid q3
      clear hcall hi hR q1 q2 q3
      gi_wp2_with (refine ⟨trivial, ?_⟩; refine (HCA.out _).mono ?_; rintro e w' ⟨rfl, rfl⟩)
      refine HR.out.mono ?_
      rintro e W3 (⟨rfl, hJ3, hk3⟩ | ⟨rfl, hJx3⟩)
      · have HSQ3 := Lib.hid (HSQ1.out.kp hk3)
        have d1 := HSQ3.out.p.cell 0 (v := .string ⟨#[32]⟩) rfl
        have d2 := HSQ3.out.s.cell 0 (v := .string (strB r)) rfl
        have d4 := HSQ3.out.s.frozen 0
        have HJ3 := Lib.hid hJ3
        clear hJ3 hk3
        gi_wp2
        go_roundw
        case rel =>
          have REL := Lib.hid (show ∃ (pre' : List (List UInt8)) (r' : List UInt8), sp r0 = pre' ++ sp r' ∧ r'.length ≤ r0.length ∧ SqAt (W3.setCell ⟨bs, 0, none⟩ (.string ((strB r).extract (i + 1) r.length))) bp bs bv r' ∧ J pre' (W3.setCell ⟨bs, 0, none⟩ (.string ((strB r).extract (i + 1) r.length))) from ⟨pre ++ [r.take i], r.drop (i + 1), by rw [HX.out, HC.out]; simp, by rw [List.length_drop]; omega, by rw [HED.out]; exact HSQ3.out.set _, hJ _ _ _ (some bs) HJ3.out (Cl.grown_setCell W3 bs 0 _) (fun r e => .inl (by cases e; rfl))⟩)
          first
            | exact REL.out
            | ((repeat apply Exists.intro); refine ⟨?_, rfl⟩; exact REL.out)
        case measure =>
          have h1 := left_eq HSQ1.out
          have h2 := left_eq (HSQ3.out.set (r.drop (i + 1)))
          rw [← HED.out] at h2
          have h3 := HJI.out
          have h4 : (r.drop (i + 1)).length = r.length - (i + 1) := List.length_drop
          (first | (rw [h1, h2]; omega) | (simp only [h1, h2]; omega) | omega)
      · gi_wp2
        refine bodyPost_ret (results_none rfl _ _ _) rfl ?_
        exact ⟨⟨_, rfl⟩, .inr ⟨pre ++ [r.take i], ⟨sp (r.drop (i + 1)), by rw [HX.out, HC.out]; simp⟩, hJx3⟩⟩
end Go.Proofs.YtonjgfbefhefjaaDoor.Ln
