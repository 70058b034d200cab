/- The laws' Few: short fields. -/
import Derived.Test.YtjfikbnfabdkoaaDoorMsgRefP1
import Derived.Test.YtjfikbnfabdkoaaDoorGenA
set_option linter.unusedVariables false
set_option linter.unusedSimpArgs false
namespace Go.Proofs.YtjfikbnfabdkoaaDoor.Mg
open Go.RowKit Go.Proofs.YtjfikbnfabdkoaaDoor.Wi Go.Proofs.YtjfikbnfabdkoaaDoor.Ow Go.Proofs.YtjfikbnfabdkoaaDoor.Be
def cut (n : Nat) (s : ByteArray) : ByteArray := s.extract 0 n
def fewN (l : List ByteArray) : List ByteArray := (l.take 6).map (cut 70)
def few (m : Msg) : Msg := ⟨m.kind, m.u.take 9, (m.s.take 9).map (cut 100), (m.n.take 14).map fewN, m.b.take 9⟩
theorem cut_size (n : Nat) (s : ByteArray) : (cut n s).size ≤ n := by unfold cut; rw [ByteArray.size_extract]; omega
theorem joinC_bound (xs : List ByteArray) (hx : ∀ x ∈ xs, x.size ≤ 70) (hn : xs.length ≤ 6) : (joinC xs).length ≤ 1000000 := by
  have := joinC_le xs xs.length (Nat.le_refl _) hx
  rw [List.take_length] at this
  omega
theorem few_fit (m : Msg) (hu : ∀ x ∈ m.u, x < 4294967296) : Fit (few m) := by
  refine ⟨fun x hx => hu x (List.mem_of_mem_take hx), fun x hx => ?_, fun l hl => ?_⟩
  · obtain ⟨y, _, rfl⟩ := List.mem_map.1 hx
    have := cut_size 100 y
    omega
  · obtain ⟨y, _, rfl⟩ := List.mem_map.1 hl
    have h1 : (fewN y).length ≤ 6 := by unfold fewN; rw [List.length_map, List.length_take]; omega
    have h2 : ∀ x ∈ fewN y, x.size ≤ 70 := fun x hx => by
      obtain ⟨z, _, rfl⟩ := List.mem_map.1 hx
      exact cut_size 70 z
    exact ⟨by omega, joinC_bound _ h2 h1, fun x hx => by have := h2 x hx; omega⟩
/-- what memory holds: In at I, the message that is being made at P, the result at R -/
structure FewMem (w : World) (I P R : Nat) (cm : Array Value) (us : List Nat) (ss : List ByteArray) (nn : List (List ByteArray)) (bs : List Bool) (cs : Array Value) (vu vs vn vb : Value) (vals : List Value) (wr : World) : Prop where
  inn : Rg.Blk wr I 36 cm
  p : Rg.Blk wr P 36 cs
  r : Rg.Blk wr R 36 zC
  u : Owns wr (P + 1) 34 vu (us.map fun (x : Nat) => Value.int .u32 (x : Int))
  s : Owns wr (P + 1) 9 vs (ss.map Value.string)
  n : Owns wr (P + 1) 23 vn vals
  b : Owns wr (P + 1) 4 vb (bs.map Value.bool)
  vl : vals.length = nn.length
  v : ∀ (j : Nat) (l : List ByteArray), nn[j]? = some l → ∃ A cp, vals[j]? = some (.slice A l.length cp) ∧ (l.length ≤ cp ∧ cp ≤ maxLen) ∧ RdS wr 0 A (l.map Value.string)
  bl : Below w.heap.size w wr
  hI : w.heap.size ≤ I
  hR : w.heap.size ≤ R
  hP : R < P
  hIR : I < R
section
variable {w wr W : World} {I P R : Nat} {cm : Array Value} {us : List Nat} {ss : List ByteArray} {nn : List (List ByteArray)} {bs : List Bool} {cs cs' : Array Value} {vu vs vn vb v' : Value} {vals : List Value}
theorem FewMem.lt (h : FewMem w I P R cm us ss nn bs cs vu vs vn vb vals wr) : P + 1 ≤ wr.heap.size := h.p.lt
theorem FewMem.below (h : FewMem w I P R cm us ss nn bs cs vu vs vn vb vals wr) (hb : Below wr.heap.size wr W) : FewMem w I P R cm us ss nn bs cs vu vs vn vb vals W :=
  ⟨h.inn.below hb h.inn.lt, h.p.below hb h.p.lt, h.r.below hb h.r.lt, h.u.below hb, h.s.below hb, h.n.below hb, h.b.below hb, h.vl, fun j l hl => by obtain ⟨A, cp, h1, h3, h2⟩ := h.v j l hl; exact ⟨A, cp, h1, h3, h2.below hb⟩, h.bl.trans (hb.mono h.bl.size), h.hI, h.hR, h.hP, h.hIR⟩
theorem ownLowF {w wr W : World} {P : Nat} {T : TypeId} {v : Value} {xs : List Value} (hb : Below w.heap.size w wr) (hP : w.heap.size ≤ P) (ho : Owns wr (P + 1) T v xs) (hg : wr.grownBy W v.ownBlock) : Below w.heap.size w W :=
  hb.grown hg hb.size (fun k hk => by have := (ho.lt k hk).1; omega)
theorem FewMem.appU (h : FewMem w I P R cm us ss nn bs cs vu vs vn vb vals wr) (x : Nat) (ho : Owns W (P + 1) 34 v' ((us.map fun (x : Nat) => Value.int .u32 (x : Int)) ++ [.int .u32 (x : Int)])) (hg : wr.grownBy W vu.ownBlock) :
    FewMem w I P R cm (us ++ [x]) ss nn bs cs v' vs vn vb vals W := by
  have hk := KeptT.grownRow hg h.u
  exact ⟨blkKept h.inn hk (by decide), blkKept h.p hk (by decide), blkKept h.r hk (by decide), ho.cast (by simp), hk.owns h.s (by decide), hk.owns h.n (by decide), hk.owns h.b (by decide), h.vl, fun j l hl => by obtain ⟨A, cp, h1, h3, h2⟩ := h.v j l hl; exact ⟨A, cp, h1, h3, rdsKept h2 hk (by decide)⟩, ownLowF h.bl (by have := h.hR; have := h.hP; omega) h.u hg, h.hI, h.hR, h.hP, h.hIR⟩
theorem FewMem.appB (h : FewMem w I P R cm us ss nn bs cs vu vs vn vb vals wr) (x : Bool) (ho : Owns W (P + 1) 4 v' (bs.map Value.bool ++ [.bool x])) (hg : wr.grownBy W vb.ownBlock) :
    FewMem w I P R cm us ss nn (bs ++ [x]) cs vu vs vn v' vals W := by
  have hk := KeptT.grownRow hg h.b
  exact ⟨blkKept h.inn hk (by decide), blkKept h.p hk (by decide), blkKept h.r hk (by decide), hk.owns h.u (by decide), hk.owns h.s (by decide), hk.owns h.n (by decide), ho.cast (by simp), h.vl, fun j l hl => by obtain ⟨A, cp, h1, h3, h2⟩ := h.v j l hl; exact ⟨A, cp, h1, h3, rdsKept h2 hk (by decide)⟩, ownLowF h.bl (by have := h.hR; have := h.hP; omega) h.b hg, h.hI, h.hR, h.hP, h.hIR⟩
theorem FewMem.appS (h : FewMem w I P R cm us ss nn bs cs vu vs vn vb vals wr) (hn : nn = []) (x : ByteArray) (ho : Owns W (P + 1) 9 v' (ss.map Value.string ++ [.string x])) (hg : wr.grownBy W vs.ownBlock) :
    FewMem w I P R cm us (ss ++ [x]) nn bs cs vu v' vn vb vals W := by
  have hk := KeptT.grownRow hg h.s
  exact ⟨blkKept h.inn hk (by decide), blkKept h.p hk (by decide), blkKept h.r hk (by decide), hk.owns h.u (by decide), ho.cast (by simp), hk.owns h.n (by decide), hk.owns h.b (by decide), h.vl, fun j l hl => by rw [hn] at hl; simp at hl, ownLowF h.bl (by have := h.hR; have := h.hP; omega) h.s hg, h.hI, h.hR, h.hP, h.hIR⟩
theorem FewMem.appN (h : FewMem w I P R cm us ss nn bs cs vu vs vn vb vals wr) (x : List ByteArray) (A : Option Addr) (cp : Nat) (hcp : x.length ≤ cp ∧ cp ≤ maxLen) (hx : RdS wr 0 A (x.map Value.string)) (ho : Owns W (P + 1) 23 v' (vals ++ [.slice A x.length cp])) (hg : wr.grownBy W vn.ownBlock) :
    FewMem w I P R cm us ss (nn ++ [x]) bs cs vu vs v' vb (vals ++ [.slice A x.length cp]) W := by
  have hk := KeptT.grownRow hg h.n
  refine ⟨blkKept h.inn hk (by decide), blkKept h.p hk (by decide), blkKept h.r hk (by decide), hk.owns h.u (by decide), hk.owns h.s (by decide), ho, hk.owns h.b (by decide), by simp [h.vl], fun j l hl => ?_, ownLowF h.bl (by have := h.hR; have := h.hP; omega) h.n hg, h.hI, h.hR, h.hP, h.hIR⟩
  rw [List.getElem?_append] at hl ⊢
  rw [h.vl]
  split at hl
  · rename_i hj
    obtain ⟨B, cq, h1, h3, h2⟩ := h.v j l hl
    rw [if_pos hj]
    exact ⟨B, cq, h1, h3, rdsKept h2 hk (by decide)⟩
  · rename_i hj
    rw [if_neg hj]
    have : j - nn.length = 0 := by
      have := (List.getElem?_eq_some_iff.1 hl).1; simp at this; omega
    rw [this] at hl ⊢
    simp only [List.getElem?_cons_zero, Option.some.injEq] at hl
    subst hl
    exact ⟨A, cp, rfl, hcp, rdsKept hx hk (by decide)⟩
theorem FewMem.store (h : FewMem w I P R cm us ss nn bs cs vu vs vn vb vals wr) (hp : Rg.Blk W P 36 cs') (hg : wr.grownBy W (some P)) : FewMem w I P R cm us ss nn bs cs' vu vs vn vb vals W := by
  have hk := KeptT.grownAt hg h.p
  exact ⟨blk_grown h.inn hg (by have := h.hP; have := h.hIR; omega), hp, blk_grown h.r hg (by have := h.hP; omega), hk.owns h.u (by decide), hk.owns h.s (by decide), hk.owns h.n (by decide), hk.owns h.b (by decide), h.vl, fun j l hl => by obtain ⟨A, cp, h1, h3, h2⟩ := h.v j l hl; exact ⟨A, cp, h1, h3, rdsKept h2 hk (by decide)⟩, h.bl.grown hg h.bl.size (fun k hk => by cases hk; have := h.hR; have := h.hP; omega), h.hI, h.hR, h.hP, h.hIR⟩
end
end Go.Proofs.YtjfikbnfabdkoaaDoor.Mg
