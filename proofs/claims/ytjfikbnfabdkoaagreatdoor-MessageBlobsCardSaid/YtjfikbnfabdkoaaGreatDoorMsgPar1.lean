/- message.Parse: what holds at a round's head. -/
import Derived.Test.YtjfikbnfabdkoaaGreatDoorMsgPar0
import Derived.Test.YtjfikbnfabdkoaaGreatDoorGenA
set_option linter.unusedVariables false
set_option linter.unusedSimpArgs false
namespace Go.Proofs.YtjfikbnfabdkoaaGreatDoor.Mg
open Go.RowKit Go.Proofs.YtjfikbnfabdkoaaGreatDoor.Wi Go.Proofs.YtjfikbnfabdkoaaGreatDoor.Ow Go.Proofs.YtjfikbnfabdkoaaGreatDoor.Be
theorem infoU32 : (Tryz.prog.info? 42).map (fun i => (i.zero, i.size, i.bytes)) = some (some (.int .u32 0), 1, 4) := by kernel_rfl
theorem infoBool : (Tryz.prog.info? 4).map (fun i => (i.zero, i.size, i.bytes)) = some (some (.bool false), 1, 1) := by kernel_rfl
theorem infoStrs : (Tryz.prog.info? 36).map (fun i => (i.zero, i.size, i.bytes)) = some (some (.slice none 0 0), 1, 24) := by kernel_rfl
def zC : Array Value := mC 0 (.slice none 0 0) (.slice none 0 0) (.slice none 0 0) (.slice none 0 0)
/-- what memory holds: In at I, the message that is being made at P, the result at R -/
structure ParMem (w : World) (I P R : Nat) (E : Nat → Value) (t : ByteArray) (e : Nat) (us : List Nat) (ss : List ByteArray) (nn : List (List ByteArray)) (bs : List Bool) (cs : Array Value) (vu vs vn vb : Value) (vals : List Value) (wr : World) : Prop where
  inn : IsIn wr I t (evV E e)
  p : Rg.Blk wr P 47 cs
  r : Rg.Blk wr R 47 zC
  u : Owns wr (P + 1) 42 vu (us.map fun (x : Nat) => Value.int .u32 (x : Int))
  s : Owns wr (P + 1) 9 vs (ss.map Value.string)
  n : Owns wr (P + 1) 36 vn vals
  b : Owns wr (P + 1) 4 vb (bs.map Value.bool)
  vl : vals.length = nn.length
  v : ∀ (j : Nat) (l : List ByteArray), nn[j]? = some l → ∃ A, vals[j]? = some (.slice A l.length l.length) ∧ RdS wr 0 A (l.map Value.string)
  bl : Below w.heap.size w wr
  hI : w.heap.size ≤ I
  hR : w.heap.size ≤ R
  hP : R < P
section
variable {w wr W : World} {I P R : Nat} {E : Nat → Value} {t t' : ByteArray} {e e' : Nat} {us : List Nat} {ss : List ByteArray} {nn : List (List ByteArray)} {bs : List Bool} {cs cs' : Array Value} {vu vs vn vb v' : Value} {vals : List Value}
theorem ParMem.lt (h : ParMem w I P R E t e us ss nn bs cs vu vs vn vb vals wr) : P + 1 ≤ wr.heap.size := h.p.lt
theorem ParMem.below (h : ParMem w I P R E t e us ss nn bs cs vu vs vn vb vals wr) (hb : Below wr.heap.size wr W) : ParMem w I P R E t e us ss nn bs cs vu vs vn vb vals W :=
  ⟨h.inn.below hb h.inn.lt, h.p.below hb h.p.lt, h.r.below hb h.r.lt, h.u.below hb, h.s.below hb, h.n.below hb, h.b.below hb, h.vl, fun j l hl => by obtain ⟨A, h1, h2⟩ := h.v j l hl; exact ⟨A, h1, h2.below hb⟩, h.bl.trans (hb.mono h.bl.size), h.hI, h.hR, h.hP⟩
theorem ParMem.call (h : ParMem w I P R E t e us ss nn bs cs vu vs vn vb vals wr) (hi : IsIn W I t' (evV E e')) (hg : wr.grownBy W (some I)) : ParMem w I P R E t' e' us ss nn bs cs vu vs vn vb vals W := by
  have hk := KeptT.grownAt hg h.inn
  exact ⟨hi, blkKept h.p hk (by decide), blkKept h.r hk (by decide), hk.owns h.u (by decide), hk.owns h.s (by decide), hk.owns h.n (by decide), hk.owns h.b (by decide), h.vl, fun j l hl => by obtain ⟨A, h1, h2⟩ := h.v j l hl; exact ⟨A, h1, rdsKept h2 hk (by decide)⟩, h.bl.grown hg h.bl.size (fun k hk => by cases hk; exact h.hI), h.hI, h.hR, h.hP⟩
theorem ownLow {w wr W : World} {P : Nat} {T : TypeId} {v : Value} {xs : List Value} (hb : Below w.heap.size w wr) (hP : w.heap.size ≤ P) (ho : Owns wr (P + 1) T v xs) (hg : wr.grownBy W v.ownBlock) : Below w.heap.size w W :=
  hb.grown hg hb.size (fun k hk => by have := (ho.lt k hk).1; omega)
theorem ParMem.appU (h : ParMem w I P R E t e us ss nn bs cs vu vs vn vb vals wr) (x : Nat) (ho : Owns W (P + 1) 42 v' ((us.map fun (x : Nat) => Value.int .u32 (x : Int)) ++ [.int .u32 (x : Int)])) (hg : wr.grownBy W vu.ownBlock) :
    ParMem w I P R E t e (us ++ [x]) ss nn bs cs v' vs vn vb vals W := by
  have hk := KeptT.grownRow hg h.u
  exact ⟨blkKept h.inn hk (by decide), blkKept h.p hk (by decide), blkKept h.r hk (by decide), ho.cast (by simp), hk.owns h.s (by decide), hk.owns h.n (by decide), hk.owns h.b (by decide), h.vl, fun j l hl => by obtain ⟨A, h1, h2⟩ := h.v j l hl; exact ⟨A, h1, rdsKept h2 hk (by decide)⟩, ownLow h.bl (by have := h.hR; have := h.hP; omega) h.u hg, h.hI, h.hR, h.hP⟩
theorem ParMem.appB (h : ParMem w I P R E t e us ss nn bs cs vu vs vn vb vals wr) (x : Bool) (ho : Owns W (P + 1) 4 v' (bs.map Value.bool ++ [.bool x])) (hg : wr.grownBy W vb.ownBlock) :
    ParMem w I P R E t e us ss nn (bs ++ [x]) cs vu vs vn v' vals W := by
  have hk := KeptT.grownRow hg h.b
  exact ⟨blkKept h.inn hk (by decide), blkKept h.p hk (by decide), blkKept h.r hk (by decide), hk.owns h.u (by decide), hk.owns h.s (by decide), hk.owns h.n (by decide), ho.cast (by simp), h.vl, fun j l hl => by obtain ⟨A, h1, h2⟩ := h.v j l hl; exact ⟨A, h1, rdsKept h2 hk (by decide)⟩, ownLow h.bl (by have := h.hR; have := h.hP; omega) h.b hg, h.hI, h.hR, h.hP⟩
theorem ParMem.appS (h : ParMem w I P R E t e us ss nn bs cs vu vs vn vb vals wr) (hn : nn = []) (x : ByteArray) (ho : Owns W (P + 1) 9 v' (ss.map Value.string ++ [.string x])) (hg : wr.grownBy W vs.ownBlock) :
    ParMem w I P R E t e us (ss ++ [x]) nn bs cs vu v' vn vb vals W := by
  have hk := KeptT.grownRow hg h.s
  exact ⟨blkKept h.inn hk (by decide), blkKept h.p hk (by decide), blkKept h.r hk (by decide), hk.owns h.u (by decide), ho.cast (by simp), hk.owns h.n (by decide), hk.owns h.b (by decide), h.vl, fun j l hl => by rw [hn] at hl; simp at hl, ownLow h.bl (by have := h.hR; have := h.hP; omega) h.s hg, h.hI, h.hR, h.hP⟩
theorem ParMem.appN (h : ParMem w I P R E t e us ss nn bs cs vu vs vn vb vals wr) (x : List ByteArray) (A : Option Addr) (hx : RdS wr 0 A (x.map Value.string)) (ho : Owns W (P + 1) 36 v' (vals ++ [.slice A x.length x.length])) (hg : wr.grownBy W vn.ownBlock) :
    ParMem w I P R E t e us ss (nn ++ [x]) bs cs vu vs v' vb (vals ++ [.slice A x.length x.length]) W := by
  have hk := KeptT.grownRow hg h.n
  refine ⟨blkKept h.inn hk (by decide), blkKept h.p hk (by decide), blkKept h.r hk (by decide), hk.owns h.u (by decide), hk.owns h.s (by decide), ho, hk.owns h.b (by decide), by simp [h.vl], fun j l hl => ?_, ownLow h.bl (by have := h.hR; have := h.hP; omega) h.n hg, h.hI, h.hR, h.hP⟩
  rw [List.getElem?_append] at hl ⊢
  rw [h.vl]
  split at hl
  · rename_i hj
    obtain ⟨B, h1, h2⟩ := h.v j l hl
    rw [if_pos hj]
    exact ⟨B, h1, rdsKept h2 hk (by decide)⟩
  · rename_i hj
    rw [if_neg hj]
    have : j - nn.length = 0 := by
      have := (List.getElem?_eq_some_iff.1 hl).1; simp at this; omega
    rw [this] at hl ⊢
    simp only [List.getElem?_cons_zero, Option.some.injEq] at hl
    subst hl
    exact ⟨A, rfl, rdsKept hx hk (by decide)⟩
theorem ParMem.store (h : ParMem w I P R E t e us ss nn bs cs vu vs vn vb vals wr) (hp : Rg.Blk W P 47 cs') (hg : wr.grownBy W (some P)) : ParMem w I P R E t e us ss nn bs cs' vu vs vn vb vals W := by
  have hk := KeptT.grownAt hg h.p
  exact ⟨blkKept h.inn hk (by decide), hp, blk_grown h.r hg (by have := h.hP; omega), hk.owns h.u (by decide), hk.owns h.s (by decide), hk.owns h.n (by decide), hk.owns h.b (by decide), h.vl, fun j l hl => by obtain ⟨A, h1, h2⟩ := h.v j l hl; exact ⟨A, h1, rdsKept h2 hk (by decide)⟩, h.bl.grown hg h.bl.size (fun k hk => by cases hk; have := h.hR; have := h.hP; omega), h.hI, h.hR, h.hP⟩
end
/-- the plain part -/
structure ParPure (l : List UInt8) (D : ByteArray × Nat × Msg) (kind : Int) (k : Nat) (t : ByteArray) (e : Nat) (us : List Nat) (ss : List ByteArray) (nn : List (List ByteArray)) (bs : List Bool) : Prop where
  c : dec (l.drop k) t e ⟨kind, us, ss, nn, bs⟩ = D
  lu : us.length ≤ k
  ls : ss.length ≤ k
  ln : nn.length ≤ k
  lb : bs.length ≤ k
  fu : ∀ x ∈ us, x < 4294967296
  fs : ∀ x ∈ ss, x.size ≤ 1000000
  fn : ∀ x ∈ nn, FitN x
  good : goodL (l.drop k) = true
  aft : aftN (l.drop k) = true
  an : nn = [] ∨ cntS (l.drop k) = 0
  ts : t.size ≤ 1000000
def ParRel (w : World) (I P R : Nat) (E : Nat → Value) (kind : Int) (l : List UInt8) (D : ByteArray × Nat × Msg) (k : Nat) (wr : World) : Prop :=
  ∃ t e us ss nn bs vu vs vn vb vals, ParPure l D kind k t e us ss nn bs ∧ ParMem w I P R E t e us ss nn bs (mC kind vu vs vn vb) vu vs vn vb vals wr
section
variable {l : List UInt8} {D : ByteArray × Nat × Msg} {kind : Int} {k : Nat} {t : ByteArray} {e : Nat} {us : List Nat} {ss : List ByteArray} {nn : List (List ByteArray)} {bs : List Bool}
theorem mem_snoc {α : Type} {p : α → Prop} {xs : List α} {x : α} (h : ∀ y ∈ xs, p y) (hx : p x) : ∀ y ∈ xs ++ [x], p y := fun y hy => by
  rcases List.mem_append.1 hy with hy | hy
  · exact h y hy
  · rw [List.mem_singleton.1 hy]; exact hx
theorem ParPure.num (h : ParPure l D kind k t e us ss nn bs) (hc : l[k]? = some 117) : ParPure l D kind (k + 1) (rawS t e 4) (rawC t e 4) (us ++ [numV (rawR t e 4).data.toList]) ss nn bs := by
  have hd := drop_cons l k _ hc
  obtain ⟨c, lu, ls, ln, lb, fu, fs, fn, good, aft, an, ts⟩ := h
  rw [hd] at c good aft an
  simp only [goodL, Bool.and_eq_true] at good
  simp only [aftN, Bool.and_eq_true] at aft
  refine ⟨by simpa [dec] using c, by simp; omega, by omega, by omega, by omega, mem_snoc fu (num4_lt t e), fs, fn, good.2, aft.2, an.imp id (fun h => by simpa [cntS] using h), Nat.le_trans (rawS_size _ _ _) ts⟩
theorem ParPure.bool (h : ParPure l D kind k t e us ss nn bs) (hc : l[k]? = some 98) : ParPure l D kind (k + 1) (rawS t e 1) (rawC t e 1) us ss nn (bs ++ [numV (rawR t e 1).data.toList != 0]) := by
  have hd := drop_cons l k _ hc
  obtain ⟨c, lu, ls, ln, lb, fu, fs, fn, good, aft, an, ts⟩ := h
  rw [hd] at c good aft an
  simp only [goodL, Bool.and_eq_true] at good
  simp only [aftN, Bool.and_eq_true] at aft
  refine ⟨by simpa [dec] using c, by omega, by omega, by omega, by simp; omega, fu, fs, fn, good.2, aft.2, an.imp id (fun h => by simpa [cntS] using h), Nat.le_trans (rawS_size _ _ _) ts⟩
theorem ParPure.noN (h : ParPure l D kind k t e us ss nn bs) {c : UInt8} (hc : l[k]? = some c) (h1 : c = 99 ∨ c = 115 ∨ c = 114) : nn = [] := by
  rcases h.an with h | h2
  · exact h
  · rw [drop_cons l k _ hc] at h2
    rcases h1 with rfl | rfl | rfl <;> simp [cntS] at h2
theorem ParPure.text (h : ParPure l D kind k t e us ss nn bs) (hc : l[k]? = some 115) : ParPure l D kind (k + 1) (txtS t e 32768) (txtC t e 32768) us (ss ++ [txtR t e 32768]) nn bs := by
  have hnn := h.noN hc (by decide)
  have hd := drop_cons l k _ hc
  obtain ⟨c, lu, ls, ln, lb, fu, fs, fn, good, aft, an, ts⟩ := h
  rw [hd] at c good aft an
  simp only [goodL, Bool.and_eq_true] at good
  simp only [aftN, Bool.and_eq_true] at aft
  refine ⟨by simpa [dec] using c, by omega, by simp; omega, by omega, by omega, fu, mem_snoc fs (by have := txtR_le t e 32768 (by decide); omega), fn, good.2, aft.2, .inl hnn, Nat.le_trans (txtS_size _ _ _) ts⟩
theorem ParPure.raw (h : ParPure l D kind k t e us ss nn bs) {c : UInt8} (hc : l[k]? = some c) (n : Nat) (h1 : c = 99 ∧ n = 16 ∨ c = 114 ∧ n = t.size) : ParPure l D kind (k + 1) (rawS t e n) (rawC t e n) us (ss ++ [rawR t e n]) nn bs := by
  have hnn := h.noN hc (by rcases h1 with ⟨h, _⟩ | ⟨h, _⟩ <;> simp [h])
  have hd := drop_cons l k _ hc
  obtain ⟨c, lu, ls, ln, lb, fu, fs, fn, good, aft, an, ts⟩ := h
  rw [hd] at c good aft an
  simp only [goodL, Bool.and_eq_true] at good
  simp only [aftN, Bool.and_eq_true] at aft
  refine ⟨by rcases h1 with ⟨rfl, rfl⟩ | ⟨rfl, rfl⟩ <;> simpa [dec] using c, by omega, by simp; omega, by omega, by omega, fu, mem_snoc fs (by have := rawR_size2 t e n; omega), fn, good.2, aft.2, .inl hnn, Nat.le_trans (rawS_size _ _ _) ts⟩
theorem ParPure.names (h : ParPure l D kind k t e us ss nn bs) (hc : l[k]? = some 110) : ParPure l D kind (k + 1) (namS t e) (namC t e) us ss (nn ++ [namR t e]) bs := by
  have hd := drop_cons l k _ hc
  obtain ⟨c, lu, ls, ln, lb, fu, fs, fn, good, aft, an, ts⟩ := h
  rw [hd] at c good aft an
  simp only [goodL, Bool.and_eq_true] at good
  simp only [aftN, Bool.and_eq_true, Bool.or_eq_true, decide_eq_true_eq] at aft
  refine ⟨by simpa [dec] using c, by omega, by omega, by simp; omega, by omega, fu, fs, mem_snoc fn (namR_fit t e), good.2, aft.2, .inr (by rcases aft.1 with h | h; exact absurd rfl h; exact h), Nat.le_trans (namS_size _ _) ts⟩
end
end Go.Proofs.YtjfikbnfabdkoaaGreatDoor.Mg
