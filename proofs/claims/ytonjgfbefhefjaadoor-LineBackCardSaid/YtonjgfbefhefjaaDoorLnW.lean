/- Line's words. -/
import Derived.Test.YtonjgfbefhefjaaDoorLnK2
set_option linter.unusedVariables false
set_option linter.unusedSimpArgs false
namespace Go.Proofs.YtonjgfbefhefjaaDoor.Ln
open Go Go.RowKit Go.Proofs.YtonjgfbefhefjaaDoor.Ow
theorem rd_tail {w : World} {b o : Nat} {x : Value} {xs : List Value} (h : Rd w (some ⟨b, o, none⟩) (x :: xs)) {A' : Option Addr} (hA : xs.length ≠ 0 → A' = some ⟨b, o + 1, none⟩) : Rd w A' xs := fun j y hy => by
  have hj : j < xs.length := (List.getElem?_eq_some_iff.1 hy).1
  rw [hA (by omega)]
  obtain ⟨b', o', e, hl, hc⟩ := h (j + 1) y (by simpa using hy)
  injection e with e; injection e with e1 e2 e3
  subst e1 e2
  exact ⟨b, o + 1, rfl, hl, by rw [show o + 1 + j = o + (j + 1) by omega]; exact hc⟩
theorem slice_one (t E : TypeId) (ht : Tryd.prog.underlying t = some (.slice E)) (hs : (Tryd.prog.info? E).map (·.size) = some 1) (g o n k : Nat) (hk : n + 1 ≤ k) :
    ∃ A' : Option Addr, (∀ W, (Instr.slice t (.slice (some ⟨g, o, none⟩) (n + 1) k) (some (.int .i64 1)) none none).run Tryd.prog W = .ok (.slice A' n (k - 1)) W) ∧ (n ≠ 0 → A' = some ⟨g, o + 1, none⟩) := by
  refine ⟨some (if k = 1 then ⟨g, o, none⟩ else (⟨g, o, none⟩ : Addr).add (1 * 1)), fun W => ?_, fun hn => ?_⟩
  · have hb : (Instr.sliceBounds true (n + 1) k (some (.int .i64 1)) none none).run Tryd.prog W = .ok (1, n + 1, k) W := by
      have h1 : (1 : Int) ≤ ((n + 1 : Nat) : Int) := by omega
      simp [Instr.sliceBounds, Sem.run_bind, go_sem]
      omega
    have hz : (sizeOf E).run Tryd.prog W = .ok 1 W := by
      cases hq : Tryd.prog.info? E with
      | none => simp [hq] at hs
      | some i =>
        have : i.size = 1 := by simpa [hq] using hs
        simp [sizeOf, typeInfo, hq, Sem.run_bind, this]
    unfold Instr.slice
    simp only [Sem.run_bind, run_underlying ht W, Result.andThen_ok, hb, hz, Sem.run_pure]
    split <;> rfl
  · rw [if_neg (by omega)]
    have hadd : (⟨g, o, none⟩ : Addr).add (1 * 1) = ⟨g, o + 1, none⟩ := by unfold Addr.add; split <;> simp_all
    rw [hadd]
set_option maxHeartbeats 2000000 in
theorem next_any (w : World) (b g o n k : Nat) (x : List UInt8) (hB : Rg.Blk w b 24 #[.slice (some ⟨g, o, none⟩) (n + 1) k]) (hx : w.cell? ⟨g, o, none⟩ = some (.string (strB x))) (hk : n + 1 ≤ k) :
    Calls Tryd.prog 49 #[.pointer (some ⟨b, 0, none⟩)] w fun e w' => e = .returned (.string (strB (wn x))) ∧ ∃ A', (n ≠ 0 → A' = some ⟨g, o + 1, none⟩) ∧ w' = w.setCell ⟨b, 0, none⟩ (.slice A' n (k - 1)) := by
  obtain ⟨A', hrun, hA'⟩ := slice_one 24 9 Tryd.underlying24 (by kernel_rfl) g o n k hk
  have c0 := hB.cell 0 (v := .slice (some ⟨g, o, none⟩) (n + 1) k) rfl
  have f0 := hB.frozen 0
  have HA := Lib.hid hA'
  clear hB hA'
  by_cases h0 : x = []
  · have he := beq_lit (S := strB x) (l := []) h0
    have HV := Lib.hid (show wn x = [45] by rw [h0]; rfl)
    clear h0
    go_enter Tryd.func49, Tryd.ntmps49
    go_wp2
    go_ret
    exact ⟨by rw [HV.out]; rfl, A', HA.out, rfl⟩
  · have he := bne_lit (S := strB x) (l := []) h0
    have HV := Lib.hid (show wn x = x by unfold wn; rw [if_neg h0])
    clear h0
    go_enter Tryd.func49, Tryd.ntmps49
    go_wp2
    go_ret
    exact ⟨by rw [HV.out]; rfl, A', HA.out, rfl⟩
/-- on the way through a shape -/
structure WI (w : World) (sh : List UInt8) (c : Cm) (j : Nat) (out ns : List (List UInt8)) (ks : List Int) (v : Value) (A1 : Option Addr) (k1 : Nat) (A2 : Option Addr) (k2 : Nat) (W : World) : Prop where
  eq : wr sh c.names c.nums c.text = out ++ wr (sh.drop j) ns ks c.text
  own : Owns W (w.heap.size + 2) 9 v (out.map encS)
  b6 : Rg.Blk W (w.heap.size + 1) 24 #[.slice A1 ns.length k1]
  b2 : ∃ v1 v2, Rg.Blk W w.heap.size 27 #[.string (strB c.word), v1, v2, .string (strB c.text)]
  rn : Rd w A1 (ns.map encS)
  rk : Rd w A2 (ks.map (Value.int .i64))
  kn : ns.length ≤ k1
  kk : ks.length ≤ k2
  cn : (sh.drop j).count 110 ≤ ns.length
  ck : (sh.drop j).count 35 ≤ ks.length
  sn : ns <:+ c.names
  sk : ks <:+ c.nums
  ol : out.length ≤ j
  bel : Below w.heap.size w W
  sz : w.heap.size + 2 ≤ W.heap.size
theorem drop_cons {l : List UInt8} {k : Nat} {x : UInt8} (h : l[k]? = some x) : l.drop k = x :: l.drop (k + 1) := by
  obtain ⟨hk, e⟩ := List.getElem?_eq_some_iff.1 h
  rw [List.drop_eq_getElem_cons hk, e]
theorem blk_grown {W W' : World} {b T B : Nat} {E : TypeId} {cs : Array Value} {v : Value} {xs : List Value} (h : Rg.Blk W b T cs) (ho : Owns W B E v xs) (hb : b < B) (hg : W.grownBy W' v.ownBlock) : Rg.Blk W' b T cs := by
  have h2 := h
  unfold Rg.Blk at *
  rw [hg.block b (Array.getElem?_eq_some_iff.1 h2).1 (fun e => by have := (ho.lt b e.symm).1; omega)]; exact h2
/-- a call that made memory -/
theorem WI.below {w W W' : World} {sh : List UInt8} {c : Cm} {j : Nat} {out ns : List (List UInt8)} {ks : List Int} {v : Value} {A1 A2 : Option Addr} {k1 k2 : Nat} (h : WI w sh c j out ns ks v A1 k1 A2 k2 W) (hb : Below W.heap.size W W') : WI w sh c j out ns ks v A1 k1 A2 k2 W' :=
  ⟨h.eq, h.own.below hb, h.b6.below hb h.b6.lt, by obtain ⟨v1, v2, h2⟩ := h.b2; exact ⟨v1, v2, h2.below hb h2.lt⟩, h.rn, h.rk, h.kn, h.kk, h.cn, h.ck, h.sn, h.sk, h.ol, h.bel.trans (hb.mono h.bel.size), Nat.le_trans h.sz hb.size⟩
/-- a word is appended -/
theorem WI.app {w W W' : World} {sh : List UInt8} {c : Cm} {j : Nat} {out ns : List (List UInt8)} {ks ks' : List Int} {v v' : Value} {A1 A2 A2' : Option Addr} {k1 k2 k2' : Nat} {y : List UInt8} (h : WI w sh c j out ns ks v A1 k1 A2 k2 W)
    (he : wr (sh.drop j) ns ks c.text = y :: wr (sh.drop (j + 1)) ns ks' c.text) (hc : (sh.drop (j + 1)).count 110 ≤ ns.length) (hk : (sh.drop (j + 1)).count 35 ≤ ks'.length) (hr : Rd w A2' (ks'.map (Value.int .i64))) (hkk : ks'.length ≤ k2') (hsk : ks' <:+ c.nums)
    (ho : Owns W' (w.heap.size + 2) 9 v' (out.map encS ++ [.string (strB y)])) (hg : W.grownBy W' v.ownBlock) : WI w sh c (j + 1) (out ++ [y]) ns ks' v' A1 k1 A2' k2' W' :=
  ⟨by rw [h.eq, he]; simp, by rw [← snocS]; exact ho, blk_grown h.b6 h.own (by omega) hg, by obtain ⟨v1, v2, h2⟩ := h.b2; exact ⟨v1, v2, blk_grown h2 h.own (by omega) hg⟩, h.rn, hr, h.kn, hkk, hc, hk, h.sn, hsk, by rw [List.length_append]; have := h.ol; simp; omega, h.bel.grown hg h.bel.size (fun k e => by have := (h.own.lt k e).1; omega), Nat.le_trans h.sz hg.size⟩
/-- the names' box goes on -/
theorem WI.pop {w W : World} {sh : List UInt8} {c : Cm} {j : Nat} {out ns : List (List UInt8)} {x : List UInt8} {ks : List Int} {v : Value} {g o : Nat} {A2 A' : Option Addr} {k1 k2 : Nat} (h : WI w sh c j out (x :: ns) ks v (some ⟨g, o, none⟩) k1 A2 k2 W) (hA : ns.length ≠ 0 → A' = some ⟨g, o + 1, none⟩) :
    Rg.Blk (W.setCell ⟨w.heap.size + 1, 0, none⟩ (.slice A' ns.length (k1 - 1))) (w.heap.size + 1) 24 #[.slice A' ns.length (k1 - 1)] ∧ Owns (W.setCell ⟨w.heap.size + 1, 0, none⟩ (.slice A' ns.length (k1 - 1))) (w.heap.size + 2) 9 v (out.map encS) ∧
    (∃ v1 v2, Rg.Blk (W.setCell ⟨w.heap.size + 1, 0, none⟩ (.slice A' ns.length (k1 - 1))) w.heap.size 27 #[.string (strB c.word), v1, v2, .string (strB c.text)]) ∧ Rd w A' (ns.map encS) ∧ Below w.heap.size w (W.setCell ⟨w.heap.size + 1, 0, none⟩ (.slice A' ns.length (k1 - 1))) ∧ w.heap.size + 2 ≤ (W.setCell ⟨w.heap.size + 1, 0, none⟩ (.slice A' ns.length (k1 - 1))).heap.size := by
  refine ⟨blk_set h.b6, owns_set h.own (by omega), ?_, ?_, h.bel.setCell (p := ⟨w.heap.size + 1, 0, none⟩) (by show w.heap.size ≤ w.heap.size + 1; omega) _, ?_⟩
  · obtain ⟨v1, v2, h2⟩ := h.b2
    exact ⟨v1, v2, blk_other h2 (by omega)⟩
  · exact rd_tail (by simpa using h.rn) (by simpa using hA)
  · have := h.sz
    show _ ≤ (W.heap.modify _ _).size
    rw [Array.size_modify]; exact this
/-- a name is taken and appended -/
theorem WI.name {w W W1 W' : World} {sh : List UInt8} {c : Cm} {j : Nat} {out ns : List (List UInt8)} {x : List UInt8} {ks : List Int} {v v' : Value} {g o : Nat} {A2 A' : Option Addr} {k1 k2 : Nat} (h : WI w sh c j out (x :: ns) ks v (some ⟨g, o, none⟩) k1 A2 k2 W) (hA : ns.length ≠ 0 → A' = some ⟨g, o + 1, none⟩)
    (hx : sh[j]? = some 110) (hW : W1 = W.setCell ⟨w.heap.size + 1, 0, none⟩ (.slice A' ns.length (k1 - 1))) (ho : Owns W' (w.heap.size + 2) 9 v' (out.map encS ++ [.string (strB (wn x))])) (hg : W1.grownBy W' v.ownBlock) : WI w sh c (j + 1) (out ++ [wn x]) ns ks v' A' (k1 - 1) A2 k2 W' := by
  obtain ⟨p1, p2, ⟨v1, v2, p3⟩, p4, p5, p6⟩ := h.pop hA
  subst hW
  have hd := drop_cons hx
  refine ⟨?_, by rw [← snocS]; exact ho, blk_grown p1 p2 (by omega) hg, ⟨v1, v2, blk_grown p3 p2 (by omega) hg⟩, p4, h.rk, ?_, h.kk, ?_, ?_, ?_, h.sk, ?_, p5.grown hg p5.size (fun k e => by have := (p2.lt k e).1; omega), Nat.le_trans p6 hg.size⟩
  · rw [h.eq, hd, wr, if_neg (by decide), if_neg (by decide), if_pos rfl, List.headD_cons, List.tail_cons]; simp
  · have := h.kn; simp at this; omega
  · have := h.cn; rw [hd] at this; simp at this; omega
  · have := h.ck; rw [hd] at this; simpa using this
  · exact (List.suffix_cons x ns).trans h.sn
  · rw [List.length_append]; have := h.ol; simp; omega
end Go.Proofs.YtonjgfbefhefjaaDoor.Ln
