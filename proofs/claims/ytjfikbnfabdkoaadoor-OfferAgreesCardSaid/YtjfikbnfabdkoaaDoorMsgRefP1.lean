/- The reference's Parse: what holds at a round's head. -/
import Derived.Test.YtjfikbnfabdkoaaDoorMsgPar1
import Derived.Test.YtjfikbnfabdkoaaDoorMsgRefC
import Derived.Test.YtjfikbnfabdkoaaDoorRefIn2
set_option linter.unusedVariables false
set_option linter.unusedSimpArgs false
namespace Go.Proofs.YtjfikbnfabdkoaaDoor.Mg
open Go.RowKit Go.Proofs.YtjfikbnfabdkoaaDoor.Wi Go.Proofs.YtjfikbnfabdkoaaDoor.Ow Go.Proofs.YtjfikbnfabdkoaaDoor.Be
/-- what memory holds: In at I, the message that is being made at P, the result at R -/
structure RpMem (w : World) (I P R : Nat) (t : ByteArray) (e : Nat) (us : List Nat) (ss : List ByteArray) (nn : List (List ByteArray)) (bs : List Bool) (cs : Array Value) (vu vs vn vb : Value) (vals : List Value) (wr : World) : Prop where
  inn : Rg.Blk wr I 120 #[.string t, .int .i64 (e : Int)]
  p : Rg.Blk wr P 36 cs
  r : Rg.Blk wr R 36 zC
  u : Owns wr (P + 1) 34 vu (us.map fun (x : Nat) => Value.int .u32 (x : Int))
  s : Owns wr (P + 1) 9 vs (ss.map Value.string)
  n : Owns wr (P + 1) 23 vn vals
  b : Owns wr (P + 1) 4 vb (bs.map Value.bool)
  vl : vals.length = nn.length
  v : ∀ (j : Nat) (l : List ByteArray), nn[j]? = some l → ∃ A cp, vals[j]? = some (.slice A l.length cp) ∧ (l.length ≤ cp ∧ cp ≤ maxLen) ∧ RdS wr 0 A (l.map Value.string)
  bl : Below w.heap.size w wr
  hI : w.heap.size ≤ I
  hR : w.heap.size ≤ R
  hP : R < P
section
variable {w wr W : World} {I P R : Nat} {t t' : ByteArray} {e e' : Nat} {us : List Nat} {ss : List ByteArray} {nn : List (List ByteArray)} {bs : List Bool} {cs cs' : Array Value} {vu vs vn vb v' : Value} {vals : List Value}
theorem RpMem.lt (h : RpMem w I P R t e us ss nn bs cs vu vs vn vb vals wr) : P + 1 ≤ wr.heap.size := h.p.lt
theorem RpMem.below (h : RpMem w I P R t e us ss nn bs cs vu vs vn vb vals wr) (hb : Below wr.heap.size wr W) : RpMem w I P R t e us ss nn bs cs vu vs vn vb vals W :=
  ⟨h.inn.below hb h.inn.lt, h.p.below hb h.p.lt, h.r.below hb h.r.lt, h.u.below hb, h.s.below hb, h.n.below hb, h.b.below hb, h.vl, fun j l hl => by obtain ⟨A, cp, h1, h3, h2⟩ := h.v j l hl; exact ⟨A, cp, h1, h3, h2.below hb⟩, h.bl.trans (hb.mono h.bl.size), h.hI, h.hR, h.hP⟩
theorem RpMem.call (h : RpMem w I P R t e us ss nn bs cs vu vs vn vb vals wr) (hi : Rg.Blk W I 120 #[.string t', .int .i64 (e' : Int)]) (hg : wr.grownBy W (some I)) : RpMem w I P R t' e' us ss nn bs cs vu vs vn vb vals W := by
  have hk := KeptT.grownAt hg h.inn
  exact ⟨hi, blkKept h.p hk (by decide), blkKept h.r hk (by decide), hk.owns h.u (by decide), hk.owns h.s (by decide), hk.owns h.n (by decide), hk.owns h.b (by decide), h.vl, fun j l hl => by obtain ⟨A, cp, h1, h3, h2⟩ := h.v j l hl; exact ⟨A, cp, h1, h3, rdsKept h2 hk (by decide)⟩, h.bl.grown hg h.bl.size (fun k hk => by cases hk; exact h.hI), h.hI, h.hR, h.hP⟩
theorem ownLowR {w wr W : World} {P : Nat} {T : TypeId} {v : Value} {xs : List Value} (hb : Below w.heap.size w wr) (hP : w.heap.size ≤ P) (ho : Owns wr (P + 1) T v xs) (hg : wr.grownBy W v.ownBlock) : Below w.heap.size w W :=
  hb.grown hg hb.size (fun k hk => by have := (ho.lt k hk).1; omega)
theorem RpMem.appU (h : RpMem w I P R t e us ss nn bs cs vu vs vn vb vals wr) (x : Nat) (ho : Owns W (P + 1) 34 v' ((us.map fun (x : Nat) => Value.int .u32 (x : Int)) ++ [.int .u32 (x : Int)])) (hg : wr.grownBy W vu.ownBlock) :
    RpMem w I P R t e (us ++ [x]) ss nn bs cs v' vs vn vb vals W := by
  have hk := KeptT.grownRow hg h.u
  exact ⟨blkKept h.inn hk (by decide), blkKept h.p hk (by decide), blkKept h.r hk (by decide), ho.cast (by simp), hk.owns h.s (by decide), hk.owns h.n (by decide), hk.owns h.b (by decide), h.vl, fun j l hl => by obtain ⟨A, cp, h1, h3, h2⟩ := h.v j l hl; exact ⟨A, cp, h1, h3, rdsKept h2 hk (by decide)⟩, ownLowR h.bl (by have := h.hR; have := h.hP; omega) h.u hg, h.hI, h.hR, h.hP⟩
theorem RpMem.appB (h : RpMem w I P R t e us ss nn bs cs vu vs vn vb vals wr) (x : Bool) (ho : Owns W (P + 1) 4 v' (bs.map Value.bool ++ [.bool x])) (hg : wr.grownBy W vb.ownBlock) :
    RpMem w I P R t e us ss nn (bs ++ [x]) cs vu vs vn v' vals W := by
  have hk := KeptT.grownRow hg h.b
  exact ⟨blkKept h.inn hk (by decide), blkKept h.p hk (by decide), blkKept h.r hk (by decide), hk.owns h.u (by decide), hk.owns h.s (by decide), hk.owns h.n (by decide), ho.cast (by simp), h.vl, fun j l hl => by obtain ⟨A, cp, h1, h3, h2⟩ := h.v j l hl; exact ⟨A, cp, h1, h3, rdsKept h2 hk (by decide)⟩, ownLowR h.bl (by have := h.hR; have := h.hP; omega) h.b hg, h.hI, h.hR, h.hP⟩
theorem RpMem.appS (h : RpMem w I P R t e us ss nn bs cs vu vs vn vb vals wr) (hn : nn = []) (x : ByteArray) (ho : Owns W (P + 1) 9 v' (ss.map Value.string ++ [.string x])) (hg : wr.grownBy W vs.ownBlock) :
    RpMem w I P R t e us (ss ++ [x]) nn bs cs vu v' vn vb vals W := by
  have hk := KeptT.grownRow hg h.s
  exact ⟨blkKept h.inn hk (by decide), blkKept h.p hk (by decide), blkKept h.r hk (by decide), hk.owns h.u (by decide), ho.cast (by simp), hk.owns h.n (by decide), hk.owns h.b (by decide), h.vl, fun j l hl => by rw [hn] at hl; simp at hl, ownLowR h.bl (by have := h.hR; have := h.hP; omega) h.s hg, h.hI, h.hR, h.hP⟩
theorem RpMem.appN (h : RpMem w I P R t e us ss nn bs cs vu vs vn vb vals wr) (x : List ByteArray) (A : Option Addr) (cp : Nat) (hcp : x.length ≤ cp ∧ cp ≤ maxLen) (hx : RdS wr 0 A (x.map Value.string)) (ho : Owns W (P + 1) 23 v' (vals ++ [.slice A x.length cp])) (hg : wr.grownBy W vn.ownBlock) :
    RpMem w I P R t e us ss (nn ++ [x]) bs cs vu vs v' vb (vals ++ [.slice A x.length cp]) W := by
  have hk := KeptT.grownRow hg h.n
  refine ⟨blkKept h.inn hk (by decide), blkKept h.p hk (by decide), blkKept h.r hk (by decide), hk.owns h.u (by decide), hk.owns h.s (by decide), ho, hk.owns h.b (by decide), by simp [h.vl], fun j l hl => ?_, ownLowR h.bl (by have := h.hR; have := h.hP; omega) h.n hg, h.hI, h.hR, h.hP⟩
  rw [List.getElem?_append] at hl ⊢
  rw [h.vl]
  split at hl
  · rename_i hj
    obtain ⟨B, cq, h1, h3, h2⟩ := h.v j l hl
    rw [if_pos hj]
    exact ⟨B, cq, h1, h3, rdsKept h2 hk (by decide)⟩
  · rename_i hj
    rw [if_neg hj]
    have : j - nn.length = 0 := by
      have := (List.getElem?_eq_some_iff.1 hl).1; simp at this; omega
    rw [this] at hl ⊢
    simp only [List.getElem?_cons_zero, Option.some.injEq] at hl
    subst hl
    exact ⟨A, cp, rfl, hcp, rdsKept hx hk (by decide)⟩
theorem RpMem.store (h : RpMem w I P R t e us ss nn bs cs vu vs vn vb vals wr) (hp : Rg.Blk W P 36 cs') (hg : wr.grownBy W (some P)) : RpMem w I P R t e us ss nn bs cs' vu vs vn vb vals W := by
  have hk := KeptT.grownAt hg h.p
  exact ⟨blkKept h.inn hk (by decide), hp, blk_grown h.r hg (by have := h.hP; omega), hk.owns h.u (by decide), hk.owns h.s (by decide), hk.owns h.n (by decide), hk.owns h.b (by decide), h.vl, fun j l hl => by obtain ⟨A, cp, h1, h3, h2⟩ := h.v j l hl; exact ⟨A, cp, h1, h3, rdsKept h2 hk (by decide)⟩, h.bl.grown hg h.bl.size (fun k hk => by cases hk; have := h.hR; have := h.hP; omega), h.hI, h.hR, h.hP⟩
end
def RpRel (w : World) (I P R : Nat) (kind : Int) (l : List UInt8) (D : ByteArray × Nat × Msg) (k : Nat) (wr : World) : Prop :=
  ∃ t e us ss nn bs vu vs vn vb vals, ParPure l D kind k t e us ss nn bs ∧ RpMem w I P R t e us ss nn bs (mC kind vu vs vn vb) vu vs vn vb vals wr
theorem slOwns {w : World} {B : Nat} {E : TypeId} {v : Value} {xs : List Value} (h : Owns w B E v xs) : SL w v xs := by
  have h0 := h
  rcases h0.2 with ⟨hv, hn⟩ | ⟨g, cap, cur, hv, _, _, hc, hm, _⟩
  · have : xs = [] := List.eq_nil_of_length_eq_zero hn
    subst this
    rw [hv]; exact SL.nil w
  · exact SL.owns h hv hm
theorem RpMem.msg {w wr : World} {I P R : Nat} {kind : Int} {l : List UInt8} {D : ByteArray × Nat × Msg} {k : Nat} {t t2 : ByteArray} {e e2 : Nat} {us : List Nat} {ss : List ByteArray} {nn : List (List ByteArray)} {bs : List Bool} {cs : Array Value} {vu vs vn vb : Value} {vals : List Value} (h : RpMem w I P R t2 e2 us ss nn bs cs vu vs vn vb vals wr) (hp : ParPure l D kind k t e us ss nn bs) : IsMsg wr ⟨kind, us, ss, nn, bs⟩ vu vs vn vb ∧ Fit ⟨kind, us, ss, nn, bs⟩ :=
  ⟨⟨slOwns h.u, slOwns h.s, ⟨vals, slOwns h.n, h.vl, fun j x hx => by
    obtain ⟨A, cp, h1, h3, h2⟩ := h.v j x hx
    exact ⟨_, h1, A, _, _, rfl, by simp, h2.rd, h3.1, h3.2⟩⟩, slOwns h.b⟩, ⟨hp.fu, hp.fs, hp.fn⟩⟩
theorem RpMem.msgZ {w wr Z : World} {I P R : Nat} {kind : Int} {l : List UInt8} {D : ByteArray × Nat × Msg} {k : Nat} {t t2 : ByteArray} {e e2 : Nat} {us : List Nat} {ss : List ByteArray} {nn : List (List ByteArray)} {bs : List Bool} {cs : Array Value} {vu vs vn vb : Value} {vals : List Value} (h : RpMem w I P R t2 e2 us ss nn bs cs vu vs vn vb vals wr) (hp : ParPure l D kind k t e us ss nn bs) (hg : wr.grownBy Z (some R)) : IsMsg Z ⟨kind, us, ss, nn, bs⟩ vu vs vn vb := by
  have hk := KeptT.grownAt hg h.r
  exact ⟨slOwns (hk.owns h.u (by decide)), slOwns (hk.owns h.s (by decide)), ⟨vals, slOwns (hk.owns h.n (by decide)), h.vl, fun j x hx => by
    obtain ⟨A, cp, h1, h3, h2⟩ := h.v j x hx
    exact ⟨_, h1, A, _, _, rfl, by simp, (rdsKept h2 hk (by decide)).rd, h3.1, h3.2⟩⟩, slOwns (hk.owns h.b (by decide))⟩
end Go.Proofs.YtjfikbnfabdkoaaDoor.Mg
