/- RegE, PeF, PeG, PeI, PeH, PeJ, PeK, AuZ, PeN, PeO, PeP, PeQ, PeR, PeS, PeT, PeU, PeV, PeW, PeX, PeL: what the claims need of them. -/
import Derived.Laws.CopyRow
import Derived.Laws.MakeOwn
import Derived.Test.YtciibogkfbicfaaGreatDoorAaC
open Go.Proofs.Tryz
set_option linter.unusedVariables false
set_option linter.unusedSimpArgs false
set_option maxRecDepth 20000
set_option maxHeartbeats 16000000
namespace Go.Proofs.YtciibogkfbicfaaGreatDoor
namespace RL
open Go.RowKit
def pa (b : Nat) : Value := .pointer (some ⟨b, 0, none⟩)
def ptb (x : Bool) (d : Option Tmp) (v : Value) (a : Act) : Act := if x = true then a.put d v else a
theorem put_ptb {x : Bool} {d d' : Option Tmp} {v u : Value} {a : Act} (h : ∀ e, d = some e → d' ≠ some e) : (ptb x d v a).put d' u = ptb x d v (a.put d' u) := by
 cases x
 · rfl
 · exact Act.put_comm _ _ _ h
def cntb (a b c d : Bool) : Nat := (if a = true then 0 else 1) + (if b = true then 0 else 1) + (if c = true then 0 else 1) + (if d = true then 0 else 1)
theorem cnt0 {b c d : Bool} {n : Nat} (h : cntb false b c d = n + 1) : cntb true b c d = n := by
 cases b <;> cases c <;> cases d <;> simp [cntb] at h ⊢ <;> omega
theorem cnt1 {a c d : Bool} {n : Nat} (h : cntb a false c d = n + 1) : cntb a true c d = n := by
 cases a <;> cases c <;> cases d <;> simp [cntb] at h ⊢ <;> omega
theorem cnt2 {a b d : Bool} {n : Nat} (h : cntb a b false d = n + 1) : cntb a b true d = n := by
 cases a <;> cases b <;> cases d <;> simp [cntb] at h ⊢ <;> omega
theorem cnt3 {a b c : Bool} {n : Nat} (h : cntb a b c false = n + 1) : cntb a b c true = n := by
 cases a <;> cases b <;> cases c <;> simp [cntb] at h ⊢ <;> omega
theorem alloc4 {P : Program} {md : Region.Mode} {ops : Array Oper} {Q : Exit → Act → World → Prop} {S : World → Prop} {i j k l : Nat} {oi oj ok ol : Oper} {fuel : Nat} {listed : Array Bool} {a : Act} {w : World} (T : TypeId) (Z : Array Value)
 (hoi : ops.toList[i]? = some oi) (hoj : ops.toList[j]? = some oj) (hok : ops.toList[k]? = some ok) (hol : ops.toList[l]? = some ol)
 (hl0 : ((((listed.setIfInBounds i false).setIfInBounds j false).setIfInBounds k false).setIfInBounds l false) = listed)
 (hR : ∀ xi xj xk xl : Bool, (xi && xj && xk && xl) = false → Region.ready md ops ((((listed.setIfInBounds i xi).setIfInBounds j xj).setIfInBounds k xk).setIfInBounds l xl) = (if xi = true then [] else [i]) ++ ((if xj = true then [] else [j]) ++ ((if xk = true then [] else [k]) ++ (if xl = true then [] else [l]))))
 (hn : i ≠ j ∧ i ≠ k ∧ i ≠ l ∧ j ≠ k ∧ j ≠ l ∧ k ≠ l) (hd : oi.dst ≠ oj.dst ∧ oi.dst ≠ ok.dst ∧ oi.dst ≠ ol.dst ∧ oj.dst ≠ ok.dst ∧ oj.dst ≠ ol.dst ∧ ok.dst ≠ ol.dst)
 (hwi : ∀ a : Act, Region.wanted oi (yielded ops a.tmps) = true) (hwj : ∀ a : Act, Region.wanted oj (yielded ops a.tmps) = true) (hwk : ∀ a : Act, Region.wanted ok (yielded ops a.tmps) = true) (hwl : ∀ a : Act, Region.wanted ol (yielded ops a.tmps) = true)
 (hri : ∀ (a : Act) (W : World), (execOp a.eval oi).run P W = .ok (.value (.pointer (some ⟨W.heap.size, 0, none⟩))) (W.alloc (.cells Z T)))
 (hrj : ∀ (a : Act) (W : World), (execOp a.eval oj).run P W = .ok (.value (.pointer (some ⟨W.heap.size, 0, none⟩))) (W.alloc (.cells Z T)))
 (hrk : ∀ (a : Act) (W : World), (execOp a.eval ok).run P W = .ok (.value (.pointer (some ⟨W.heap.size, 0, none⟩))) (W.alloc (.cells Z T)))
 (hrl : ∀ (a : Act) (W : World), (execOp a.eval ol).run P W = .ok (.value (.pointer (some ⟨W.heap.size, 0, none⟩))) (W.alloc (.cells Z T)))
 (hS : ∀ W o, S W → S (W.alloc o))
 (h : ∀ b1 b2 b3 b4 W, Lat w W → S W → (b1 ≠ b2 ∧ b1 ≠ b3 ∧ b1 ≠ b4 ∧ b2 ≠ b3 ∧ b2 ≠ b4 ∧ b3 ≠ b4) → (w.heap.size ≤ b1 ∧ w.heap.size ≤ b2 ∧ w.heap.size ≤ b3 ∧ w.heap.size ≤ b4) → Rg.Blk W b1 T Z → Rg.Blk W b2 T Z → Rg.Blk W b3 T Z → Rg.Blk W b4 T Z →
  H P md ops Q S W fuel ((((listed.setIfInBounds i true).setIfInBounds j true).setIfInBounds k true).setIfInBounds l true) ((((a.put oi.dst (.pointer (some ⟨b1, 0, none⟩))).put oj.dst (.pointer (some ⟨b2, 0, none⟩))).put ok.dst (.pointer (some ⟨b3, 0, none⟩))).put ol.dst (.pointer (some ⟨b4, 0, none⟩)))) : H P md ops Q S w (fuel + 4) listed a := by
 obtain ⟨hnij, hnik, hnil, hnjk, hnjl, hnkl⟩ := hn
 obtain ⟨hdij, hdik, hdil, hdjk, hdjl, hdkl⟩ := hd
 have key : ∀ n xi xj xk xl, cntb xi xj xk xl = n → ∀ bi bj bk bl W, (Lat w W ∧ S W ∧ (xi = true → Rg.Blk W bi T Z ∧ w.heap.size ≤ bi) ∧ (xj = true → Rg.Blk W bj T Z ∧ w.heap.size ≤ bj) ∧ (xk = true → Rg.Blk W bk T Z ∧ w.heap.size ≤ bk) ∧ (xl = true → Rg.Blk W bl T Z ∧ w.heap.size ≤ bl) ∧ (xi = true → xj = true → bi ≠ bj) ∧ (xi = true → xk = true → bi ≠ bk) ∧ (xi = true → xl = true → bi ≠ bl) ∧ (xj = true → xk = true → bj ≠ bk) ∧ (xj = true → xl = true → bj ≠ bl) ∧ (xk = true → xl = true → bk ≠ bl)) → H P md ops Q S W (fuel + n) ((((listed.setIfInBounds i xi).setIfInBounds j xj).setIfInBounds k xk).setIfInBounds l xl) (ptb xl ol.dst (pa bl) (ptb xk ok.dst (pa bk) (ptb xj oj.dst (pa bj) (ptb xi oi.dst (pa bi) a)))) := by
  intro n
  induction n with
  | zero =>
   intro xi xj xk xl hn bi bj bk bl W hI
   have hx : xi = true ∧ xj = true ∧ xk = true ∧ xl = true := by cases xi <;> cases xj <;> cases xk <;> cases xl <;> simp [cntb] at hn ⊢
   obtain ⟨rfl, rfl, rfl, rfl⟩ := hx
   obtain ⟨i1, i2, p0, p1, p2, p3, q0, q1, q2, q3, q4, q5⟩ := hI
   exact h bi bj bk bl W i1 i2 ⟨q0 rfl rfl, q1 rfl rfl, q2 rfl rfl, q3 rfl rfl, q4 rfl rfl, q5 rfl rfl⟩ ⟨(p0 rfl).2, (p1 rfl).2, (p2 rfl).2, (p3 rfl).2⟩ (p0 rfl).1 (p1 rfl).1 (p2 rfl).1 (p3 rfl).1
  | succ n ih =>
  intro xi xj xk xl hn bi bj bk bl W0 hI0
  intro W hlW hsW
  have hI : (Lat w W ∧ S W ∧ (xi = true → Rg.Blk W bi T Z ∧ w.heap.size ≤ bi) ∧ (xj = true → Rg.Blk W bj T Z ∧ w.heap.size ≤ bj) ∧ (xk = true → Rg.Blk W bk T Z ∧ w.heap.size ≤ bk) ∧ (xl = true → Rg.Blk W bl T Z ∧ w.heap.size ≤ bl) ∧ (xi = true → xj = true → bi ≠ bj) ∧ (xi = true → xk = true → bi ≠ bk) ∧ (xi = true → xl = true → bi ≠ bl) ∧ (xj = true → xk = true → bj ≠ bk) ∧ (xj = true → xl = true → bj ≠ bl) ∧ (xk = true → xl = true → bk ≠ bl)) := by
   obtain ⟨i1, i2, p0, p1, p2, p3, q0, q1, q2, q3, q4, q5⟩ := hI0
   exact ⟨i1.trans hlW, hsW, fun e => ⟨(p0 e).1.below hlW (p0 e).1.lt, (p0 e).2⟩, fun e => ⟨(p1 e).1.below hlW (p1 e).1.lt, (p1 e).2⟩, fun e => ⟨(p2 e).1.below hlW (p2 e).1.lt, (p2 e).2⟩, fun e => ⟨(p3 e).1.below hlW (p3 e).1.lt, (p3 e).2⟩, q0, q1, q2, q3, q4, q5⟩
  have hxf : (xi && xj && xk && xl) = false := by cases xi <;> cases xj <;> cases xk <;> cases xl <;> first | rfl | (simp [cntb] at hn)
  refine ⟨fun h0 => ?_, fun k0 hk => ?_⟩
  · rw [hR _ _ _ _ hxf] at h0
    simp only [List.append_eq_nil_iff] at h0
    simp only [cntb] at hn
    obtain ⟨z1, z2, z3, z4⟩ := h0
    cases xi <;> cases xj <;> cases xk <;> cases xl <;> simp at z1 z2 z3 z4 hn
  rw [hR _ _ _ _ hxf] at hk
  clear hxf
  simp only [List.mem_append] at hk
  rcases hk with hk | hk | hk | hk
  · -- i
    cases hxi : xi with
    | true => rw [hxi] at hk; cases hk
    | false =>
     subst hxi
     rw [if_neg (by decide), List.mem_singleton] at hk
     rw [hk]
     refine wpOp_step (by simpa using hoi) fun K hK => ?_
     rw [if_pos (hwi _)]
     unfold Oper.wp
     rw [hri]
     refine hK _ _ ⟨hS _ _ hI.2.1, ?_⟩
     have e1 : ((((listed.setIfInBounds i false).setIfInBounds j xj).setIfInBounds k xk).setIfInBounds l xl).setIfInBounds i true = ((((listed.setIfInBounds i true).setIfInBounds j xj).setIfInBounds k xk).setIfInBounds l xl) := by
      rw [Array.setIfInBounds_comm _ _ (show l ≠ i from fun e => hnil e.symm)]
      rw [Array.setIfInBounds_comm _ _ (show k ≠ i from fun e => hnik e.symm)]
      rw [Array.setIfInBounds_comm _ _ (show j ≠ i from fun e => hnij e.symm)]
      rw [Array.setIfInBounds_setIfInBounds]
     have e2 : Act.put (ptb xl ol.dst (pa bl) (ptb xk ok.dst (pa bk) (ptb xj oj.dst (pa bj) (ptb false oi.dst (pa bi) a)))) oi.dst (pa W.heap.size) = (ptb xl ol.dst (pa bl) (ptb xk ok.dst (pa bk) (ptb xj oj.dst (pa bj) (ptb true oi.dst (pa W.heap.size) a)))) := by
      rw [put_ptb (fun d h1 h2 => hdil (h2.trans h1.symm))]
      rw [put_ptb (fun d h1 h2 => hdik (h2.trans h1.symm))]
      rw [put_ptb (fun d h1 h2 => hdij (h2.trans h1.symm))]
      rfl
     rw [e1]
     show H P md ops Q S (W.alloc (.cells Z T)) _ _ (Act.put _ _ (pa W.heap.size))
     rw [e2]
     refine ih _ _ _ _ (cnt0 hn) _ _ _ _ _ ?_
     obtain ⟨i1, i2, p0, p1, p2, p3, q0, q1, q2, q3, q4, q5⟩ := hI
     have hz := Below.size i1
     refine ⟨i1.trans ((Below.refl _ _).alloc (Nat.le_refl _) _), hS _ _ i2, ?_, ?_, ?_, ?_, ?_, ?_, ?_, ?_, ?_, ?_⟩
     · exact fun _ => ⟨Rg.Blk.new W Z T, hz⟩
     · exact fun h => ⟨(p1 h).1.alloc _, (p1 h).2⟩
     · exact fun h => ⟨(p2 h).1.alloc _, (p2 h).2⟩
     · exact fun h => ⟨(p3 h).1.alloc _, (p3 h).2⟩
     · exact fun _ h e => absurd ((p1 h).1.lt) (by omega)
     · exact fun _ h e => absurd ((p2 h).1.lt) (by omega)
     · exact fun _ h e => absurd ((p3 h).1.lt) (by omega)
     · exact q3
     · exact q4
     · exact q5
  · -- j
    cases hxj : xj with
    | true => rw [hxj] at hk; cases hk
    | false =>
     subst hxj
     rw [if_neg (by decide), List.mem_singleton] at hk
     rw [hk]
     refine wpOp_step (by simpa using hoj) fun K hK => ?_
     rw [if_pos (hwj _)]
     unfold Oper.wp
     rw [hrj]
     refine hK _ _ ⟨hS _ _ hI.2.1, ?_⟩
     have e1 : ((((listed.setIfInBounds i xi).setIfInBounds j false).setIfInBounds k xk).setIfInBounds l xl).setIfInBounds j true = ((((listed.setIfInBounds i xi).setIfInBounds j true).setIfInBounds k xk).setIfInBounds l xl) := by
      rw [Array.setIfInBounds_comm _ _ (show l ≠ j from fun e => hnjl e.symm)]
      rw [Array.setIfInBounds_comm _ _ (show k ≠ j from fun e => hnjk e.symm)]
      rw [Array.setIfInBounds_setIfInBounds]
     have e2 : Act.put (ptb xl ol.dst (pa bl) (ptb xk ok.dst (pa bk) (ptb false oj.dst (pa bj) (ptb xi oi.dst (pa bi) a)))) oj.dst (pa W.heap.size) = (ptb xl ol.dst (pa bl) (ptb xk ok.dst (pa bk) (ptb true oj.dst (pa W.heap.size) (ptb xi oi.dst (pa bi) a)))) := by
      rw [put_ptb (fun d h1 h2 => hdjl (h2.trans h1.symm))]
      rw [put_ptb (fun d h1 h2 => hdjk (h2.trans h1.symm))]
      rfl
     rw [e1]
     show H P md ops Q S (W.alloc (.cells Z T)) _ _ (Act.put _ _ (pa W.heap.size))
     rw [e2]
     refine ih _ _ _ _ (cnt1 hn) _ _ _ _ _ ?_
     obtain ⟨i1, i2, p0, p1, p2, p3, q0, q1, q2, q3, q4, q5⟩ := hI
     have hz := Below.size i1
     refine ⟨i1.trans ((Below.refl _ _).alloc (Nat.le_refl _) _), hS _ _ i2, ?_, ?_, ?_, ?_, ?_, ?_, ?_, ?_, ?_, ?_⟩
     · exact fun h => ⟨(p0 h).1.alloc _, (p0 h).2⟩
     · exact fun _ => ⟨Rg.Blk.new W Z T, hz⟩
     · exact fun h => ⟨(p2 h).1.alloc _, (p2 h).2⟩
     · exact fun h => ⟨(p3 h).1.alloc _, (p3 h).2⟩
     · exact fun h _ e => absurd ((p0 h).1.lt) (by omega)
     · exact q1
     · exact q2
     · exact fun _ h e => absurd ((p2 h).1.lt) (by omega)
     · exact fun _ h e => absurd ((p3 h).1.lt) (by omega)
     · exact q5
  · -- k
    cases hxk : xk with
    | true => rw [hxk] at hk; cases hk
    | false =>
     subst hxk
     rw [if_neg (by decide), List.mem_singleton] at hk
     rw [hk]
     refine wpOp_step (by simpa using hok) fun K hK => ?_
     rw [if_pos (hwk _)]
     unfold Oper.wp
     rw [hrk]
     refine hK _ _ ⟨hS _ _ hI.2.1, ?_⟩
     have e1 : ((((listed.setIfInBounds i xi).setIfInBounds j xj).setIfInBounds k false).setIfInBounds l xl).setIfInBounds k true = ((((listed.setIfInBounds i xi).setIfInBounds j xj).setIfInBounds k true).setIfInBounds l xl) := by
      rw [Array.setIfInBounds_comm _ _ (show l ≠ k from fun e => hnkl e.symm)]
      rw [Array.setIfInBounds_setIfInBounds]
     have e2 : Act.put (ptb xl ol.dst (pa bl) (ptb false ok.dst (pa bk) (ptb xj oj.dst (pa bj) (ptb xi oi.dst (pa bi) a)))) ok.dst (pa W.heap.size) = (ptb xl ol.dst (pa bl) (ptb true ok.dst (pa W.heap.size) (ptb xj oj.dst (pa bj) (ptb xi oi.dst (pa bi) a)))) := by
      rw [put_ptb (fun d h1 h2 => hdkl (h2.trans h1.symm))]
      rfl
     rw [e1]
     show H P md ops Q S (W.alloc (.cells Z T)) _ _ (Act.put _ _ (pa W.heap.size))
     rw [e2]
     refine ih _ _ _ _ (cnt2 hn) _ _ _ _ _ ?_
     obtain ⟨i1, i2, p0, p1, p2, p3, q0, q1, q2, q3, q4, q5⟩ := hI
     have hz := Below.size i1
     refine ⟨i1.trans ((Below.refl _ _).alloc (Nat.le_refl _) _), hS _ _ i2, ?_, ?_, ?_, ?_, ?_, ?_, ?_, ?_, ?_, ?_⟩
     · exact fun h => ⟨(p0 h).1.alloc _, (p0 h).2⟩
     · exact fun h => ⟨(p1 h).1.alloc _, (p1 h).2⟩
     · exact fun _ => ⟨Rg.Blk.new W Z T, hz⟩
     · exact fun h => ⟨(p3 h).1.alloc _, (p3 h).2⟩
     · exact q0
     · exact fun h _ e => absurd ((p0 h).1.lt) (by omega)
     · exact q2
     · exact fun h _ e => absurd ((p1 h).1.lt) (by omega)
     · exact q4
     · exact fun _ h e => absurd ((p3 h).1.lt) (by omega)
  · -- l
    cases hxl : xl with
    | true => rw [hxl] at hk; cases hk
    | false =>
     subst hxl
     rw [if_neg (by decide), List.mem_singleton] at hk
     rw [hk]
     refine wpOp_step (by simpa using hol) fun K hK => ?_
     rw [if_pos (hwl _)]
     unfold Oper.wp
     rw [hrl]
     refine hK _ _ ⟨hS _ _ hI.2.1, ?_⟩
     have e1 : ((((listed.setIfInBounds i xi).setIfInBounds j xj).setIfInBounds k xk).setIfInBounds l false).setIfInBounds l true = ((((listed.setIfInBounds i xi).setIfInBounds j xj).setIfInBounds k xk).setIfInBounds l true) := by
      rw [Array.setIfInBounds_setIfInBounds]
     have e2 : Act.put (ptb false ol.dst (pa bl) (ptb xk ok.dst (pa bk) (ptb xj oj.dst (pa bj) (ptb xi oi.dst (pa bi) a)))) ol.dst (pa W.heap.size) = (ptb true ol.dst (pa W.heap.size) (ptb xk ok.dst (pa bk) (ptb xj oj.dst (pa bj) (ptb xi oi.dst (pa bi) a)))) := by
      rfl
     rw [e1]
     show H P md ops Q S (W.alloc (.cells Z T)) _ _ (Act.put _ _ (pa W.heap.size))
     rw [e2]
     refine ih _ _ _ _ (cnt3 hn) _ _ _ _ _ ?_
     obtain ⟨i1, i2, p0, p1, p2, p3, q0, q1, q2, q3, q4, q5⟩ := hI
     have hz := Below.size i1
     refine ⟨i1.trans ((Below.refl _ _).alloc (Nat.le_refl _) _), hS _ _ i2, ?_, ?_, ?_, ?_, ?_, ?_, ?_, ?_, ?_, ?_⟩
     · exact fun h => ⟨(p0 h).1.alloc _, (p0 h).2⟩
     · exact fun h => ⟨(p1 h).1.alloc _, (p1 h).2⟩
     · exact fun h => ⟨(p2 h).1.alloc _, (p2 h).2⟩
     · exact fun _ => ⟨Rg.Blk.new W Z T, hz⟩
     · exact q0
     · exact q1
     · exact fun h _ e => absurd ((p0 h).1.lt) (by omega)
     · exact q3
     · exact fun h _ e => absurd ((p1 h).1.lt) (by omega)
     · exact fun h _ e => absurd ((p2 h).1.lt) (by omega)
 intro w' hl hs
 have := key 4 false false false false rfl (bi := 0) (bj := 0) (bk := 0) (bl := 0) w' ⟨hl, hs, by simp, by simp, by simp, by simp, by simp, by simp, by simp, by simp, by simp, by simp⟩
 rw [hl0] at this
 exact this w' (Lat.refl w') hs
end RL
namespace Kx
open Go.RowKit Go.Proofs.YtciibogkfbicfaaGreatDoor.Cl Go.Proofs.YtciibogkfbicfaaGreatDoor.Ed
def Rq (p : Pt) (x y z t : E) : Prop := ∃ X Y Z T, El x X ∧ El y Y ∧ El z Z ∧ El t T ∧ RepE p X Y Z T
theorem fe_1 : fe 1 = 1 := by decide +kernel
theorem built_p (x y z t : E) : prog.built 78 [(0, .agg (u64s x.l)), (1, .agg (u64s y.l)), (2, .agg (u64s z.l)), (3, .agg (u64s t.l))] = some (u64s (els [x, y, z, t])) := by
 cases x; cases y; cases z; cases t; kernel_rfl
theorem zero_e : ∃ x y z t, Rq Pt.zero x y z t ∧ ∀ W : World, Calls prog 74 #[] W fun e w' => e = .returned (.agg (u64s (els [x, y, z, t]))) ∧ Below W.heap.size W w' := by
 have EzE := ϕ zE_e
 obtain ⟨v2, ev2, cv2⟩ := small_e 1 (by decide) fe_1
 have Ev2 := ϕ ev2
 have Cv2 := ϕ cv2
 clear ev2 cv2
 obtain ⟨v3, ev3, cv3⟩ := small_e 1 (by decide) fe_1
 have Ev3 := ϕ ev3
 have Cv3 := ϕ cv3
 clear ev3 cv3
 refine ⟨zE, v2, v3, zE, ⟨_, _, _, _, EzE.out, Ev2.out, Ev3.out, EzE.out, RepE.zero⟩, fun w => ?_⟩
 go_enter func74, ntmps74
 go_upto_region 1 with fail
 have HB := ϕ (Below.refl w.heap.size w)
 obtain ⟨b0, hb0⟩ : ∃ n, w.heap.size = n := exr
 have Gb0 := ϕ (show w.heap.size ≤ b0 from hb0 ▸ HB.out.size)
 have Hb0 := ϕ (show Rg.Blk (w.alloc (.cells q20 78)) b0 78 (u64s (els [zE, zE, zE, zE])) from Rg.Blk.newAt hb0.symm _ _)
 have HB := ϕ (HB.out.alloc HB.out.size (.cells q20 78))
 rw [hb0]
 clear hb0
 generalize (w.alloc (.cells q20 78)) = Y1 at *
 have tk2_0 := trivial
 go_wp2_with (first
  | (clear tk2_0; go_at_call 67; refine (Cv2.out Y1).mono ?_; rintro e W3 ⟨rfl, hb9⟩; have Hb0 := bl Hb0 hb9; have HB := tm HB hb9; clear hb9; have tk2_1 := trivial)
  | (clear tk2_1; go_at_call 67; refine (Cv3.out W3).mono ?_; rintro e W4 ⟨rfl, hb9⟩; have Hb0 := bl Hb0 hb9; have HB := tm HB hb9; clear hb9; have tk2_2 := trivial)
  | (clear tk2_2; (with_reducible refine qd_ ?_); refine jk_ rfl 78 _ rfl #[(0, .agg (u64s zE.l)), (1, .agg (u64s v2.l)), (2, .agg (u64s v3.l)), (3, .agg (u64s zE.l))] (by go_simp; try (first | rfl | exact ⟨rfl, rfl⟩)) (u64s (els [zE, v2, v3, zE])) (built_p _ _ _ _) ?_; have tk2_3 := trivial)
  | (clear tk2_3; (with_reducible refine qd_ ?_); refine Cv.qu_ rfl 78 _ _ rfl b0 (u64s (els [zE, v2, v3, zE])) (u64s (els [zE, zE, zE, zE])) 78 rfl (by first | rfl | (rw [qi_])) Hb0.out (by kernel_rfl) (by first | rfl | kernel_rfl) (qp_ _) ?_; intro X5 hV hgV;  have Hb0 := ϕ hV; have HB := ϕ (HB.out.grown hgV HB.out.size (fun j e => by cases e; exact Gb0.out)); clear hV hgV; have tk2_4 := trivial))
 clear tk2_4
 refine bodyPost_ret (v := .agg (u64s (els [zE, v2, v3, zE])))
  (results_cell_row results74 _ _ b0 78 _ (0, 0) _ rfl Hb0.out underlying78 rfl (by kernel_rfl)) rfl ?_
 exact ⟨rfl, HB.out⟩
theorem flat_e {x y : E} {a b : F} (hx : El x a) (hy : El y b) : ∃ z t, El z 1 ∧ El t (a * b) ∧ ∀ W : World, Calls prog 73 #[.agg (u64s x.l), .agg (u64s y.l)] W fun e w' => e = .returned (.agg (u64s (els [x, y, z, t]))) ∧ Below W.heap.size W w' := by
 have Ex := ϕ hx
 have Ey := ϕ hy
 clear hx hy
 obtain ⟨v7, ev7, cv7⟩ := small_e 1 (by decide) fe_1
 have Ev7 := ϕ ev7
 have Cv7 := ϕ cv7
 clear ev7 cv7
 obtain ⟨v10, ev10, cv10⟩ := mul_e Ex.out Ey.out
 have Ev10 := ϕ ev10
 have Cv10 := ϕ cv10
 clear ev10 cv10
 refine ⟨v7, v10, Ev7.out, Ev10.out, fun w => ?_⟩
 go_enter func73, ntmps73
 have tb0 := trivial
 go_upto_region 1 with (first
  | (clear tb0; (with_reducible refine qd_ ?_); refine Rg.qh_ rfl 76 _ rfl (u64s (els [x])) (by first | rfl | (rw [qi_])) ?_; intro X1 hX hbX hnX; have J0 := ϕ hX; have K0 := ϕ hbX; have M0 := ϕ hnX; clear hX hbX hnX; have tb1 := trivial)
  | (clear tb1; (with_reducible refine qd_ ?_); refine Rg.qh_ rfl 76 _ rfl (u64s (els [y])) (by first | rfl | (rw [qi_])) ?_; intro X2 hX hbX hnX; have J1 := ϕ hX; have K1 := ϕ hbX; have M1 := ϕ hnX; clear hX hbX hnX; have tb2 := trivial))
 clear tb2
 have HB := ϕ (Below.refl w.heap.size w)
 obtain ⟨b2, hb2⟩ : ∃ n, w.heap.size = n := exr
 have Hb2 := ϕ (show Rg.Blk X1 b2 76 (u64s (els [x])) from hb2 ▸ J0.out)
 have HB := ϕ (HB.out.trans (K0.out.mono HB.out.size))
 rw [hb2]
 clear hb2 J0 K0 M0
 obtain ⟨b3, hb3⟩ : ∃ n, X1.heap.size = n := exr
 have Hb2 := bl Hb2 K1.out
 have Hb3 := ϕ (show Rg.Blk X2 b3 76 (u64s (els [y])) from hb3 ▸ J1.out)
 have HB := ϕ (HB.out.trans (K1.out.mono HB.out.size))
 rw [hb3]
 clear hb3 J1 K1 M1
 obtain ⟨b4, hb4⟩ : ∃ n, X2.heap.size = n := exr
 have Gb4 := ϕ (show w.heap.size ≤ b4 from hb4 ▸ HB.out.size)
 have Nb2_b4 := ϕ (show ¬ b2 = b4 from by have h1 := Hb2.out.lt; omega)
 have Nb3_b4 := ϕ (show ¬ b3 = b4 from by have h1 := Hb3.out.lt; omega)
 have Hb2 := ϕ (Hb2.out.alloc (.cells q20 78))
 have Hb3 := ϕ (Hb3.out.alloc (.cells q20 78))
 have Hb4 := ϕ (show Rg.Blk (X2.alloc (.cells q20 78)) b4 78 (u64s (els [zE, zE, zE, zE])) from Rg.Blk.newAt hb4.symm _ _)
 have HB := ϕ (HB.out.alloc HB.out.size (.cells q20 78))
 rw [hb4]
 clear hb4
 generalize (X2.alloc (.cells q20 78)) = Y3 at *
 refine RL.start (fun W => Sp.Upd Y3 W [b4]) (by kernel_rfl) (Sp.Upd.trans (Sp.Upd.refl _ _) (Sp.Upd.of_below (Below.drew (Below.refl _ _))) (by simp)) ?_
 refine RL.tw 0 (v := .agg (u64s x.l)) rfl (fun W hSW => ql_ 76 _ rfl b2 0 rfl (u64s x.l) (qe_ (qm_ hSW Hb2.out (by simp; exact Nb2_b4.out)) 0 0 x rfl rfl (by simp)) underlying76 rfl (by kernel_rfl)) ?_
 try go_frame
 refine RL.tw 1 (v := .agg (u64s y.l)) rfl (fun W hSW => ql_ 76 _ rfl b3 0 rfl (u64s y.l) (qe_ (qm_ hSW Hb3.out (by simp; exact Nb3_b4.out)) 0 0 y rfl rfl (by simp)) underlying76 rfl (by kernel_rfl)) ?_
 try go_frame
 refine' RL.td 2 (v := (.agg (u64s v7.l))) 67 #[.int .u64 1] ?hc1 ?_
 case hc1 => (intro W hSW; exact (Cv7.out W).mono (fun e w9 h9 => ⟨h9.1, h9.2, Sp.Upd.trans hSW (Sp.Upd.of_below h9.2) (by simp)⟩))
 try go_frame
 refine RL.tw 3 (v := .agg (u64s x.l)) rfl (fun W hSW => ql_ 76 _ rfl b2 0 rfl (u64s x.l) (qe_ (qm_ hSW Hb2.out (by simp; exact Nb2_b4.out)) 0 0 x rfl rfl (by simp)) underlying76 rfl (by kernel_rfl)) ?_
 try go_frame
 refine RL.tw 4 (v := .agg (u64s y.l)) rfl (fun W hSW => ql_ 76 _ rfl b3 0 rfl (u64s y.l) (qe_ (qm_ hSW Hb3.out (by simp; exact Nb3_b4.out)) 0 0 y rfl rfl (by simp)) underlying76 rfl (by kernel_rfl)) ?_
 try go_frame
 refine' RL.td 5 (v := (.agg (u64s v10.l))) 69 #[.agg (u64s x.l), .agg (u64s y.l)] ?hc2 ?_
 case hc2 => (intro W hSW; exact (Cv10.out W).mono (fun e w9 h9 => ⟨h9.1, h9.2, Sp.Upd.trans hSW (Sp.Upd.of_below h9.2) (by simp)⟩))
 try go_frame
 refine RL.tw 6 (v := .agg (u64s (els [x, y, v7, v10]))) rfl (fun W hSW => run_build_op 78 _ rfl #[(0, .agg (u64s x.l)), (1, .agg (u64s y.l)), (2, .agg (u64s v7.l)), (3, .agg (u64s v10.l))] (by go_simp) _ (built_p _ _ _ _)) ?_
 try go_frame
 refine RL.sk 7 (fun va hlva hsva K hK => ?_)
 have hO := (Hb4.out.below (Below.drew (Below.refl _ _)) Hb4.out.lt).below hlva (by have := Hb4.out.lt; simpa using this)
 refine qg_ 78 _ _ rfl b4 (u64s (els [x, y, v7, v10])) _ 78 rfl (by first | rfl | (rw [qi_])) hO (by kernel_rfl) (by first | rfl | kernel_rfl) (qp_ _) ?_
 intro Y hY hgY
 have hsY : Sp.Upd Y3 Y [b4] := Sp.Upd.trans hsva (Sp.Upd.of_grown1 hgY) (fun k hk => .inl (by simp at hk; simp [hk]))
 refine hK.out _ _ hsY ?_
 clear hK
 try go_frame
 refine RL.done (by kernel_rfl) (fun Z4 hlZ4 hsZ4 => ?_)
 have Hb4 := ϕ (show Rg.Blk Z4 b4 78 (u64s (els [x, y, v7, v10])) from Rg.Blk.below hY hlZ4 hY.lt)
 have HB := ϕ (qt_ HB.out hsZ4 (fun k hk => by simp at hk; rw [hk]; exact Gb4.out) HB.out.size)
 clear hsY hY hgY hlva hsva hlZ4 hsZ4 hO
 go_wp2_with fail
 refine bodyPost_ret (v := .agg (u64s (els [x, y, v7, v10])))
  (results_cell_row results73 _ _ b4 78 _ (0, 0) _ rfl Hb4.out underlying78 rfl (by kernel_rfl)) rfl ?_
 exact ⟨rfl, HB.out⟩
theorem neg_q {x y z t : E} {p : Pt} (hp : Rq p x y z t) : ∃ x' t', Rq p.neg x' y z t' ∧ ∀ W : World, Calls prog 98 #[.agg (u64s (els [x, y, z, t]))] W fun e w' => e = .returned (.agg (u64s (els [x', y, z, t']))) ∧ Below W.heap.size W w' := by
 obtain ⟨X1, Y1, Z1, T1, ex1, ey1, ez1, et1, h1⟩ := hp
 have Ex := ϕ ex1
 have Ey := ϕ ey1
 have Ez := ϕ ez1
 have Et := ϕ et1
 have HR := ϕ (RepE.neg h1)
 clear ex1 ey1 ez1 et1 h1
 obtain ⟨v5, ev5, cv5⟩ := neg_e Ex.out
 have Ev5 := ϕ ev5
 have Cv5 := ϕ cv5
 clear ev5 cv5
 obtain ⟨v12, ev12, cv12⟩ := neg_e Et.out
 have Ev12 := ϕ ev12
 have Cv12 := ϕ cv12
 clear ev12 cv12
 refine ⟨v5, v12, ⟨_, _, _, _, Ev5.out, Ey.out, Ez.out, Ev12.out, HR.out⟩, fun w => ?_⟩
 clear HR
 go_enter func98, ntmps98
 have tb0 := trivial
 go_upto_region 1 with (clear tb0; (with_reducible refine qd_ ?_); refine Rg.qh_ rfl 78 _ rfl (u64s (els [x, y, z, t])) (by first | rfl | (rw [qi_])) ?_; intro X1 hX hbX hnX; have J0 := ϕ hX; have K0 := ϕ hbX; have M0 := ϕ hnX; clear hX hbX hnX; have tb1 := trivial)
 clear tb1
 have HB := ϕ (Below.refl w.heap.size w)
 obtain ⟨b1, hb1⟩ : ∃ n, w.heap.size = n := exr
 have Hb1 := ϕ (show Rg.Blk X1 b1 78 (u64s (els [x, y, z, t])) from hb1 ▸ J0.out)
 have HB := ϕ (HB.out.trans (K0.out.mono HB.out.size))
 rw [hb1]
 clear hb1 J0 K0 M0
 obtain ⟨b2, hb2⟩ : ∃ n, X1.heap.size = n := exr
 have Gb2 := ϕ (show w.heap.size ≤ b2 from hb2 ▸ HB.out.size)
 have Nb1_b2 := ϕ (show ¬ b1 = b2 from by have h1 := Hb1.out.lt; omega)
 have Hb1 := ϕ (Hb1.out.alloc (.cells q20 78))
 have Hb2 := ϕ (show Rg.Blk (X1.alloc (.cells q20 78)) b2 78 (u64s (els [zE, zE, zE, zE])) from Rg.Blk.newAt hb2.symm _ _)
 have HB := ϕ (HB.out.alloc HB.out.size (.cells q20 78))
 rw [hb2]
 clear hb2
 generalize (X1.alloc (.cells q20 78)) = Y2 at *
 refine RL.start (fun W => Sp.Upd Y2 W [b2]) (by kernel_rfl) (Sp.Upd.trans (Sp.Upd.refl _ _) (Sp.Upd.of_below (Below.drew (Below.refl _ _))) (by simp)) ?_
 refine RL.tu 0 ?_; go_frame
 refine RL.tw 1 (v := .agg (u64s x.l)) rfl (fun W hSW => ql_ 76 _ rfl b1 0 rfl (u64s x.l) (qe_ (qm_ hSW Hb1.out (by simp; exact Nb1_b2.out)) 0 0 x rfl rfl (by simp)) underlying76 rfl (by kernel_rfl)) ?_
 try go_frame
 refine' RL.td 2 (v := (.agg (u64s v5.l))) 68 #[.agg (u64s x.l)] ?hc4 ?_
 case hc4 => (intro W hSW; exact (Cv5.out W).mono (fun e w9 h9 => ⟨h9.1, h9.2, Sp.Upd.trans hSW (Sp.Upd.of_below h9.2) (by simp)⟩))
 try go_frame
 refine RL.tu 3 ?_; go_frame
 refine RL.tw 4 (v := .agg (u64s y.l)) rfl (fun W hSW => ql_ 76 _ rfl b1 5 rfl (u64s y.l) (qe_ (qm_ hSW Hb1.out (by simp; exact Nb1_b2.out)) 1 5 y rfl rfl (by simp)) underlying76 rfl (by kernel_rfl)) ?_
 try go_frame
 refine RL.tu 5 ?_; go_frame
 refine RL.tw 6 (v := .agg (u64s z.l)) rfl (fun W hSW => ql_ 76 _ rfl b1 10 rfl (u64s z.l) (qe_ (qm_ hSW Hb1.out (by simp; exact Nb1_b2.out)) 2 10 z rfl rfl (by simp)) underlying76 rfl (by kernel_rfl)) ?_
 try go_frame
 refine RL.tu 7 ?_; go_frame
 refine RL.tw 8 (v := .agg (u64s t.l)) rfl (fun W hSW => ql_ 76 _ rfl b1 15 rfl (u64s t.l) (qe_ (qm_ hSW Hb1.out (by simp; exact Nb1_b2.out)) 3 15 t rfl rfl (by simp)) underlying76 rfl (by kernel_rfl)) ?_
 try go_frame
 refine' RL.td 9 (v := (.agg (u64s v12.l))) 68 #[.agg (u64s t.l)] ?hc8 ?_
 case hc8 => (intro W hSW; exact (Cv12.out W).mono (fun e w9 h9 => ⟨h9.1, h9.2, Sp.Upd.trans hSW (Sp.Upd.of_below h9.2) (by simp)⟩))
 try go_frame
 refine RL.tw 10 (v := .agg (u64s (els [v5, y, z, v12]))) rfl (fun W hSW => run_build_op 78 _ rfl #[(0, .agg (u64s v5.l)), (1, .agg (u64s y.l)), (2, .agg (u64s z.l)), (3, .agg (u64s v12.l))] (by go_simp) _ (built_p _ _ _ _)) ?_
 try go_frame
 refine RL.sk 11 (fun va hlva hsva K hK => ?_)
 have hO := (Hb2.out.below (Below.drew (Below.refl _ _)) Hb2.out.lt).below hlva (by have := Hb2.out.lt; simpa using this)
 refine qg_ 78 _ _ rfl b2 (u64s (els [v5, y, z, v12])) _ 78 rfl (by first | rfl | (rw [qi_])) hO (by kernel_rfl) (by first | rfl | kernel_rfl) (qp_ _) ?_
 intro Y hY hgY
 have hsY : Sp.Upd Y2 Y [b2] := Sp.Upd.trans hsva (Sp.Upd.of_grown1 hgY) (fun k hk => .inl (by simp at hk; simp [hk]))
 refine hK.out _ _ hsY ?_
 clear hK
 try go_frame
 refine RL.done (by kernel_rfl) (fun Z3 hlZ3 hsZ3 => ?_)
 have Hb2 := ϕ (show Rg.Blk Z3 b2 78 (u64s (els [v5, y, z, v12])) from Rg.Blk.below hY hlZ3 hY.lt)
 have HB := ϕ (qt_ HB.out hsZ3 (fun k hk => by simp at hk; rw [hk]; exact Gb2.out) HB.out.size)
 clear hsY hY hgY hlva hsva hlZ3 hsZ3 hO
 go_wp2_with fail
 refine bodyPost_ret (v := .agg (u64s (els [v5, y, z, v12])))
  (results_cell_row results98 _ _ b2 78 _ (0, 0) _ rfl Hb2.out underlying78 rfl (by kernel_rfl)) rfl ?_
 exact ⟨rfl, HB.out⟩
theorem across_e {cd ct c1 c2 c3 c4 y : E} {Y : F} (hd : El cd dE) (hy : El y Y) : ∃ r ok, ((ok = true ∧ ∃ s, rt (xz Y) = some s ∧ El r s) ∨ (ok = false ∧ rt (xz Y) = none ∧ El r 0)) ∧
 ∀ (cb : Nat) (W : World), Rg.Blk W cb 84 (u64s (els [cd, ct, c1, c2, c3, c4])) → Calls prog 72 #[.pointer (some ⟨cb, 0, none⟩), .agg (u64s y.l)] W fun e w' => e = .returned (.tuple #[.agg (u64s r.l), .bool ok]) ∧ Below W.heap.size W w' := by
 have Ecd := ϕ hd
 have Ey := ϕ hy
 clear hd hy
 obtain ⟨v8, ev8, cv8⟩ := sq_e Ey.out
 have Ev8 := ϕ ev8
 have Cv8 := ϕ cv8
 clear ev8 cv8
 obtain ⟨v10, ev10, cv10⟩ := small_e 1 (by decide) fe_1
 have Ev10 := ϕ ev10
 have Cv10 := ϕ cv10
 clear ev10 cv10
 obtain ⟨v11, ev11, cv11⟩ := sub_e Ev8.out Ev10.out
 have Ev11 := ϕ ev11
 have Cv11 := ϕ cv11
 clear ev11 cv11
 obtain ⟨v17, ev17, cv17⟩ := mul_e Ecd.out Ev8.out
 have Ev17 := ϕ ev17
 have Cv17 := ϕ cv17
 clear ev17 cv17
 obtain ⟨v18, ev18, cv18⟩ := small_e 1 (by decide) fe_1
 have Ev18 := ϕ ev18
 have Cv18 := ϕ cv18
 clear ev18 cv18
 obtain ⟨v19, ev19, cv19⟩ := add_e Ev17.out Ev18.out
 have Ev19 := ϕ ev19
 have Cv19 := ϕ cv19
 clear ev19 cv19
 obtain ⟨r20, o20, ev20, cv20⟩ := root_e Ev11.out Ev19.out (den_ne Y)
 have Ev20 := ϕ ev20
 have Cv20 := ϕ cv20
 clear ev20 cv20
 refine ⟨r20, o20, Ev20.out, fun cb w hcb => ?_⟩
 have Hcb := ϕ hcb
 clear hcb Ev20
 go_enter func72, ntmps72
 have tb0 := trivial
 go_upto_region 1 with (clear tb0; (with_reducible refine qd_ ?_); refine Rg.qh_ rfl 76 _ rfl (u64s (els [y])) (by first | rfl | (rw [qi_])) ?_; intro X1 hX hbX hnX; have J0 := ϕ hX; have K0 := ϕ hbX; have M0 := ϕ hnX; clear hX hbX hnX; have tb1 := trivial)
 clear tb1
 have HB := ϕ (Below.refl w.heap.size w)
 obtain ⟨b3, hb3⟩ : ∃ n, w.heap.size = n := exr
 have Hcb := bl Hcb K0.out
 have Hb3 := ϕ (show Rg.Blk X1 b3 76 (u64s (els [y])) from hb3 ▸ J0.out)
 have HB := ϕ (HB.out.trans (K0.out.mono HB.out.size))
 rw [hb3]
 clear hb3 J0 K0 M0
 obtain ⟨b4, hb4⟩ : ∃ n, X1.heap.size = n := exr
 have Gb4 := ϕ (show w.heap.size ≤ b4 from hb4 ▸ HB.out.size)
 have Ncb_b4 := ϕ (show ¬ cb = b4 from by have h1 := Hcb.out.lt; omega)
 have Hcb := ϕ (Hcb.out.alloc (.cells #[.int .u64 0, .int .u64 0, .int .u64 0, .int .u64 0, .int .u64 0] 76))
 have Hb3 := ϕ (Hb3.out.alloc (.cells #[.int .u64 0, .int .u64 0, .int .u64 0, .int .u64 0, .int .u64 0] 76))
 have Hb4 := ϕ (show Rg.Blk (X1.alloc (.cells #[.int .u64 0, .int .u64 0, .int .u64 0, .int .u64 0, .int .u64 0] 76)) b4 76 (u64s (els [zE])) from Rg.Blk.newAt hb4.symm _ _)
 have HB := ϕ (HB.out.alloc HB.out.size (.cells #[.int .u64 0, .int .u64 0, .int .u64 0, .int .u64 0, .int .u64 0] 76))
 rw [hb4]
 clear hb4
 generalize (X1.alloc (.cells #[.int .u64 0, .int .u64 0, .int .u64 0, .int .u64 0, .int .u64 0] 76)) = Y2 at *
 have tk3_0 := trivial
 go_wp2_with (first
  | (clear tk3_0; (with_reducible refine qd_ ?_); refine lxA (u64s y.l) (qe_ (Hb3.out) 0 0 y rfl rfl (by simp)) ?_; have tk3_1 := trivial)
  | (clear tk3_1; go_at_call 115; refine (Cv8.out Y2).mono ?_; rintro e W4 ⟨rfl, hb9⟩; have Hcb := bl Hcb hb9; have Hb3 := bl Hb3 hb9; have Hb4 := bl Hb4 hb9; have HB := tm HB hb9; clear hb9; have tk3_2 := trivial)
  | (clear tk3_2; refine Rg.qf_ rfl 76 _ _ rfl (u64s (els [v8])) _ 76 rfl (by first | rfl | (rw [qi_])) (by kernel_rfl) rfl (qp_ _) ?_; intro X5 hX hbX; obtain ⟨b6, hb6⟩ : ∃ n, W4.heap.size = n := exr; have Nb4_b6 := ϕ (show ¬ b4 = b6 from by have h1 := Hb4.out.lt; omega); have Nb6_b4 := ϕ (fun e : b6 = b4 => Nb4_b6.out e.symm); have Hcb := bl Hcb hbX; have Hb3 := bl Hb3 hbX; have Hb4 := bl Hb4 hbX; have Hb6 := ϕ (show Rg.Blk X5 b6 76 (u64s (els [v8])) from hb6 ▸ hX); have HB := tm HB hbX; rw [hb6]; clear hb6 hX hbX; have tk3_3 := trivial))
 clear tk3_3
 go_upto_region 2 with fail
 refine RL.start (fun W => Sp.Upd X5 W [b4]) (by kernel_rfl) (Sp.Upd.trans (Sp.Upd.refl _ _) (Sp.Upd.of_below (Below.drew (Below.refl _ _))) (by simp)) ?_
 refine RL.tw 0 (v := .agg (u64s v8.l)) rfl (fun W hSW => ql_ 76 _ rfl b6 0 rfl (u64s v8.l) (qe_ (qm_ hSW Hb6.out (by simp; exact Nb6_b4.out)) 0 0 v8 rfl rfl (by simp)) underlying76 rfl (by kernel_rfl)) ?_
 try go_frame
 refine' RL.td 1 (v := (.agg (u64s v10.l))) 67 #[.int .u64 1] ?hc9 ?_
 case hc9 => (intro W hSW; exact (Cv10.out W).mono (fun e w9 h9 => ⟨h9.1, h9.2, Sp.Upd.trans hSW (Sp.Upd.of_below h9.2) (by simp)⟩))
 try go_frame
 refine' RL.td 2 (v := (.agg (u64s v11.l))) 109 #[.agg (u64s v8.l), .agg (u64s v10.l)] ?hc10 ?_
 case hc10 => (intro W hSW; exact (Cv11.out W).mono (fun e w9 h9 => ⟨h9.1, h9.2, Sp.Upd.trans hSW (Sp.Upd.of_below h9.2) (by simp)⟩))
 try go_frame
 refine RL.tu 3 ?_; go_frame
 refine RL.tu 4 ?_; go_frame
 refine RL.tu 5 ?_; go_frame
 refine RL.tw 6 (v := .agg (u64s cd.l)) rfl (fun W hSW => ql_ 76 _ rfl cb 0 rfl (u64s cd.l) (qe_ (qm_ hSW Hcb.out (by simp; exact Ncb_b4.out)) 0 0 cd rfl rfl (by simp)) underlying76 rfl (by kernel_rfl)) ?_
 try go_frame
 refine RL.tw 7 (v := .agg (u64s v8.l)) rfl (fun W hSW => ql_ 76 _ rfl b6 0 rfl (u64s v8.l) (qe_ (qm_ hSW Hb6.out (by simp; exact Nb6_b4.out)) 0 0 v8 rfl rfl (by simp)) underlying76 rfl (by kernel_rfl)) ?_
 try go_frame
 refine' RL.td 8 (v := (.agg (u64s v17.l))) 69 #[.agg (u64s cd.l), .agg (u64s v8.l)] ?hc14 ?_
 case hc14 => (intro W hSW; exact (Cv17.out W).mono (fun e w9 h9 => ⟨h9.1, h9.2, Sp.Upd.trans hSW (Sp.Upd.of_below h9.2) (by simp)⟩))
 try go_frame
 refine' RL.td 9 (v := (.agg (u64s v18.l))) 67 #[.int .u64 1] ?hc15 ?_
 case hc15 => (intro W hSW; exact (Cv18.out W).mono (fun e w9 h9 => ⟨h9.1, h9.2, Sp.Upd.trans hSW (Sp.Upd.of_below h9.2) (by simp)⟩))
 try go_frame
 refine' RL.td 10 (v := (.agg (u64s v19.l))) 71 #[.agg (u64s v17.l), .agg (u64s v18.l)] ?hc16 ?_
 case hc16 => (intro W hSW; exact (Cv19.out W).mono (fun e w9 h9 => ⟨h9.1, h9.2, Sp.Upd.trans hSW (Sp.Upd.of_below h9.2) (by simp)⟩))
 try go_frame
 refine' RL.td 11 (v := (.tuple #[.agg (u64s r20.l), .bool o20])) 116 #[.agg (u64s v11.l), .agg (u64s v19.l)] ?hc17 ?_
 case hc17 => (intro W hSW; exact (Cv20.out W).mono (fun e w9 h9 => ⟨h9.1, h9.2, Sp.Upd.trans hSW (Sp.Upd.of_below h9.2) (by simp)⟩))
 try go_frame
 refine RL.tu 12 ?_; go_frame
 refine RL.tu 13 ?_; go_frame
 refine RL.sk 14 (fun va hlva hsva K hK => ?_)
 have hO := (Hb4.out.below (Below.drew (Below.refl _ _)) Hb4.out.lt).below hlva (by have := Hb4.out.lt; simpa using this)
 refine qg_ 76 _ _ rfl b4 (u64s (els [r20])) _ 76 rfl (by first | rfl | (rw [qi_])) hO (by kernel_rfl) (by first | rfl | kernel_rfl) (qp_ _) ?_
 intro Y hY hgY
 have hsY : Sp.Upd X5 Y [b4] := Sp.Upd.trans hsva (Sp.Upd.of_grown1 hgY) (fun k hk => .inl (by simp at hk; simp [hk]))
 refine hK.out _ _ hsY ?_
 clear hK
 try go_frame
 refine RL.tu 15 ?_; go_frame
 refine RL.done (by kernel_rfl) (fun Z6 hlZ6 hsZ6 => ?_)
 have Hb4 := ϕ (show Rg.Blk Z6 b4 76 (u64s (els [r20])) from Rg.Blk.below hY hlZ6 hY.lt)
 have HB := ϕ (qt_ HB.out hsZ6 (fun k hk => by simp at hk; rw [hk]; exact Gb4.out) HB.out.size)
 clear hsY hY hgY hlva hsva hlZ6 hsZ6 hO
 go_wp2_with fail
 refine bodyPost_ret (v := .tuple #[.agg (u64s (els [r20])), .bool o20])
  (ja_ results72 _ _ b4 76 _ (0, 0) _ _ rfl rfl Hb4.out underlying76 rfl (by kernel_rfl)) rfl ?_
 exact ⟨rfl, HB.out⟩
section
variable {P : Program}
theorem run_storeVar_part (w : World) (g off : Nat) (t ty : TypeId) (old cells new : Array Value) (hg : w.heap[g]? = some (.cells old t (0, 0))) (hi : (P.info? ty).map (·.size) = some cells.size)
 (ho : off + cells.size ≤ old.size) (h1 : cells.all (·.oneCell') = true) (hn : (old.toList.take off ++ cells.toList ++ old.toList.drop (off + cells.size)).toArray = new) :
 (storeVar ty ⟨g, off, none⟩ (.agg cells)).run P w = .ok () (w.setRow g new) := by
 have := run_storeCells_at (P := P) g off t cells.toList 0 old w hg (by simp; omega) (fun v hv => (Array.all_eq_true_iff_forall_mem.1 h1) v (by simpa using hv))
 simp only [Nat.add_zero, Array.length_toList] at this
 rw [hn] at this
 cases hq : P.info? ty with
 | none => simp [hq] at hi
 | some i =>
  have hs : cells.size = i.size := by simp [hq] at hi; omega
  simp [storeVar, sizeOf, typeInfo, hq, Value.cells, hs, this]
theorem store_part_op {o : Oper} {a : Act} {w : World} {K : Act → World → Prop} {Q : Exit → Act → World → Prop} (ty : TypeId) (x y : Operand) (ho : o.op = .store ty x y)
 (b off : Nat) (cs old new : Array Value) (T : TypeId) (hx : a.eval x = .pointer (some ⟨b, off, none⟩)) (hy : a.eval y = .agg cs) (hB : Rg.Blk w b T old)
 (hi : (P.info? ty).map (·.size) = some cs.size) (hs : off + cs.size ≤ old.size) (h1 : cs.all (·.oneCell') = true) (hn : (old.toList.take off ++ cs.toList ++ old.toList.drop (off + cs.size)).toArray = new)
 (h : ∀ X, Rg.Blk X b T new → w.grownBy X (some b) → K (a.put o.dst undef) X) : Oper.wp P o a w K Q := by
 unfold Oper.wp execOp
 simp only [ho, hx, hy, Instr.storeAt, Instr.sureAddr, Sem.run_bind, Sem.run_pure, Result.andThen_ok, run_storeVar_part w b off T ty old cs new hB hi hs h1 hn]
 exact h _ hB.setRow ⟨rfl, rfl, rfl, by simp, fun k _ hk => setRow_other w b k new (fun e => hk (congrArg some e))⟩
theorem store_part {ops : Array Oper} {rest : List Oper} {o : Oper} {a : Act} {w : World} {Q : Exit → Act → World → Prop} (hgd : o.guard = none) (ty : TypeId) (x y : Operand) (ho : o.op = .store ty x y)
 (b off : Nat) (cs old new : Array Value) (T : TypeId) (hx : a.eval x = .pointer (some ⟨b, off, none⟩)) (hy : a.eval y = .agg cs) (hB : Rg.Blk w b T old)
 (hi : (P.info? ty).map (·.size) = some cs.size) (hs : off + cs.size ≤ old.size) (h1 : cs.all (·.oneCell') = true) (hn : (old.toList.take off ++ cs.toList ++ old.toList.drop (off + cs.size)).toArray = new)
 (h : ∀ X, Rg.Blk X b T new → w.grownBy X (some b) → wpList P ops Q rest (a.put o.dst undef) X) : wpList P ops Q (o :: rest) a w :=
 wpList_plain hgd fun _ hK => store_part_op ty x y ho b off cs old new T hx hy hB hi hs h1 hn fun X h1 h2 => hK _ _ (h X h1 h2)
end
theorem built_c (x : E) : prog.built 84 [(0, .agg (u64s x.l))] = some (u64s (els [x, zE, zE, zE, zE, zE])) := by
 cases x; kernel_rfl
theorem d_num : (0 - fe 121665) * Ed.inv (fe 121666) = dE := by decide +kernel
theorem b_numE : fe 4 * Ed.inv (fe 5) = base.y := by decide +kernel
theorem rt_even {p : Pt} (he : p.x.val % 2 = 0) : rt (xz p.y) = some p.x := by
 have hz : p.x * p.x = xz p.y := xz_on p.h
 obtain ⟨r, hr⟩ := rt_some hz
 have hq : r * r = p.x * p.x := by rw [rt_sq hr, hz]
 have h1 := sgn_enc p hq (rt_par hr)
 have ht := enc_top p
 rw [he] at ht
 unfold sgn at h1
 rw [if_neg (by omega)] at h1
 rw [hr, h1]
theorem base_even : base.x.val % 2 = 0 := by decide +kernel
theorem rt_base : rt (xz base.y) = some base.x := rt_even base_even
def CV (W : World) (cb : Nat) (cd ct c1 c2 c3 c4 : E) : Prop := Rg.Blk W cb 84 (u64s (els [cd, ct, c1, c2, c3, c4]))
theorem begin_e : ∃ cd ct c1 c2 c3 c4, El cd dE ∧ El ct (dE + dE) ∧ Rq base c1 c2 c3 c4 ∧ ∀ W : World, Calls prog 33 #[] W fun e w' => (∃ cb, W.heap.size ≤ cb ∧ e = .returned (.pointer (some ⟨cb, 0, none⟩)) ∧ CV w' cb cd ct c1 c2 c3 c4) ∧ Below W.heap.size W w' := by
 have EzE := ϕ zE_e
 obtain ⟨v5, ev5, cv5⟩ := small_e 121665 (by decide) (Eq.refl (fe 121665))
 have Ev5 := ϕ ev5
 have Cv5 := ϕ cv5
 clear ev5 cv5
 obtain ⟨v6, ev6, cv6⟩ := neg_e Ev5.out
 have Ev6 := ϕ ev6
 have Cv6 := ϕ cv6
 clear ev6 cv6
 obtain ⟨v7, ev7, cv7⟩ := small_e 121666 (by decide) (Eq.refl (fe 121666))
 have Ev7 := ϕ ev7
 have Cv7 := ϕ cv7
 clear ev7 cv7
 obtain ⟨v8, ev8, cv8⟩ := inv_e Ev7.out
 have Ev8 := ϕ ev8
 have Cv8 := ϕ cv8
 clear ev8 cv8
 obtain ⟨v9, ev9, cv9⟩ := mul_e Ev6.out Ev8.out
 have Ev9 := ϕ ev9
 have Cv9 := ϕ cv9
 clear ev9 cv9
 have Ev9 := ϕ (d_num ▸ Ev9.out)
 obtain ⟨v21, ev21, cv21⟩ := add_e Ev9.out Ev9.out
 have Ev21 := ϕ ev21
 have Cv21 := ϕ cv21
 clear ev21 cv21
 obtain ⟨v24, ev24, cv24⟩ := small_e 4 (by decide) (Eq.refl (fe 4))
 have Ev24 := ϕ ev24
 have Cv24 := ϕ cv24
 clear ev24 cv24
 obtain ⟨v25, ev25, cv25⟩ := small_e 5 (by decide) (Eq.refl (fe 5))
 have Ev25 := ϕ ev25
 have Cv25 := ϕ cv25
 clear ev25 cv25
 obtain ⟨v26, ev26, cv26⟩ := inv_e Ev25.out
 have Ev26 := ϕ ev26
 have Cv26 := ϕ cv26
 clear ev26 cv26
 obtain ⟨v27, ev27, cv27⟩ := mul_e Ev24.out Ev26.out
 have Ev27 := ϕ ev27
 have Cv27 := ϕ cv27
 clear ev27 cv27
 have Ev27 := ϕ (b_numE ▸ Ev27.out)
 obtain ⟨r31, o31, ev31, cv31⟩ := across_e (ct := v21) (c1 := zE) (c2 := zE) (c3 := zE) (c4 := zE) Ev9.out Ev27.out
 have Ev31 := ϕ ev31
 have Cv31 := ϕ cv31
 have Er31 := ϕ (show o31 = true ∧ El r31 base.x from by
  rcases Ev31.out with ⟨h1, q, h2, h3⟩ | ⟨h1, h2, h3⟩
  · rw [rt_base] at h2
    exact ⟨h1, some_eq (P := fun q => El r31 q) h2.symm h3⟩
  · rw [rt_base] at h2
    exact none_no h2.symm)
 have Er31 := ϕ Er31.out.2
 clear Ev31
 clear ev31 cv31
 obtain ⟨z37, t37, ezv37, etv37, cv37⟩ := flat_e Er31.out Ev27.out
 have Ez37 := ϕ ezv37
 have Et37 := ϕ etv37
 have Cv37 := ϕ cv37
 clear ezv37 etv37 cv37
 refine ⟨v9, v21, r31, v27, z37, t37, Ev9.out, Ev21.out, ⟨_, _, _, _, Er31.out, Ev27.out, Ez37.out, Et37.out, RepE.of base⟩, fun w => ?_⟩
 go_enter func33, ntmps33
 go_upto_region 1 with fail
 have HB := ϕ (Below.refl w.heap.size w)
 have tk1_0 := trivial
 go_upto_region 2 with (first
  | (clear tk1_0; go_at_call 67; refine (Cv5.out w).mono ?_; rintro e W2 ⟨rfl, hb9⟩; skip;  have HB := tm HB hb9; clear hb9; have tk1_1 := trivial)
  | (clear tk1_1; go_at_call 68; refine (Cv6.out W2).mono ?_; rintro e W3 ⟨rfl, hb9⟩; skip;  have HB := tm HB hb9; clear hb9; have tk1_2 := trivial)
  | (clear tk1_2; go_at_call 67; refine (Cv7.out W3).mono ?_; rintro e W4 ⟨rfl, hb9⟩; skip;  have HB := tm HB hb9; clear hb9; have tk1_3 := trivial)
  | (clear tk1_3; go_at_call 70; refine (Cv8.out W4).mono ?_; rintro e W5 ⟨rfl, hb9⟩; skip;  have HB := tm HB hb9; clear hb9; have tk1_4 := trivial)
  | (clear tk1_4; go_at_call 69; refine (Cv9.out W5).mono ?_; rintro e W6 ⟨rfl, hb9⟩; skip;  have HB := tm HB hb9; clear hb9; have tk1_5 := trivial)
  | (clear tk1_5; (with_reducible refine qd_ ?_); refine jk_ rfl 84 _ rfl #[(0, .agg (u64s v9.l))] (by go_simp; try (first | rfl | exact ⟨rfl, rfl⟩)) (u64s (els [v9, zE, zE, zE, zE, zE])) (built_c _) ?_; have tk1_6 := trivial)
  | (clear tk1_6; (with_reducible refine qd_ ?_); refine Rg.qh_ rfl 84 _ rfl (u64s (els [v9, zE, zE, zE, zE, zE])) (by first | rfl | (rw [qi_])) ?_; intro X7 hX hbX hnX; obtain ⟨b11, hb11⟩ : ∃ n, W6.heap.size = n := exr; have Gb11 := ϕ (show w.heap.size ≤ b11 from hb11 ▸ HB.out.size);  have Hb11 := ϕ (show Rg.Blk X7 b11 84 (u64s (els [v9, zE, zE, zE, zE, zE])) from hb11 ▸ hX); have HB := tm HB hbX; rw [hb11]; clear hb11 hX hbX hnX; have tk1_7 := trivial))
 clear tk1_7
 refine RL.start (fun W => Sp.Upd X7 W [b11] ∧ ∃ q, Rg.Blk W b11 84 (u64s (els [v9, q, zE, zE, zE, zE]))) (by kernel_rfl) (⟨Sp.Upd.trans (Sp.Upd.refl _ _) (Sp.Upd.of_below (Below.drew (Below.refl _ _))) (by simp), zE, Hb11.out.below (Below.drew (Below.refl _ _)) Hb11.out.lt⟩) ?_
 refine RL.tu 0 ?_; go_frame
 refine RL.tu 1 ?_; go_frame
 refine RL.tu 2 ?_; go_frame
 refine RL.tu 3 ?_; go_frame
 refine RL.tw 4 (v := .agg (u64s v9.l)) rfl (fun W hSW => by obtain ⟨q, hq⟩ := hSW.2; exact ql_ 76 _ rfl b11 0 rfl (u64s v9.l) (qe_ hq 0 0 v9 rfl rfl (by simp)) underlying76 rfl (by kernel_rfl)) ?_
 try go_frame
 refine RL.tu 5 ?_; go_frame
 refine RL.tu 6 ?_; go_frame
 refine RL.tu 7 ?_; go_frame
 refine RL.tw 8 (v := .agg (u64s v9.l)) rfl (fun W hSW => by obtain ⟨q, hq⟩ := hSW.2; exact ql_ 76 _ rfl b11 0 rfl (u64s v9.l) (qe_ hq 0 0 v9 rfl rfl (by simp)) underlying76 rfl (by kernel_rfl)) ?_
 try go_frame
 refine' RL.td 9 (v := (.agg (u64s v21.l))) 71 #[.agg (u64s v9.l), .agg (u64s v9.l)] ?hc8 ?_
 case hc8 => (intro W hSW; exact (Cv21.out W).mono (fun e w9 h9 => ⟨h9.1, h9.2, ⟨Sp.Upd.trans hSW.1 (Sp.Upd.of_below h9.2) (by simp), by obtain ⟨q, hq⟩ := hSW.2; exact ⟨q, hq.below h9.2 hq.lt⟩⟩⟩))
 try go_frame
 refine RL.tu 10 ?_; go_frame
 refine RL.tu 11 ?_; go_frame
 refine RL.sk 12 (fun va hlva hsva K hK => ?_)
 have hO := (Hb11.out.below (Below.drew (Below.refl _ _)) Hb11.out.lt).below hlva (by have := Hb11.out.lt; simpa using this)
 refine store_part_op 76 _ _ rfl b11 5 (u64s v21.l) (u64s (els [v9, zE, zE, zE, zE, zE])) (u64s (els [v9, v21, zE, zE, zE, zE])) 84 rfl rfl hO (by kernel_rfl) (Nat.le_of_ble_eq_true (by kernel_rfl)) (u64s_one _) rfl ?_
 intro Y hY hgY
 refine hK.out _ _ ⟨Sp.Upd.trans hsva.1 (Sp.Upd.of_grown1 hgY) (fun k hk => .inl (by simp at hk; simp [hk])), v21, hY⟩ ?_
 clear hK
 try go_frame
 refine RL.done (by kernel_rfl) (fun Zc hlZc hsZc => ?_)
 have Hb11 := ϕ (show Rg.Blk Zc b11 84 (u64s (els [v9, v21, zE, zE, zE, zE])) from Rg.Blk.below hY hlZc hY.lt)
 have HB := ϕ (qt_ HB.out hsZc.1 (fun k hk => by simp at hk; rw [hk]; exact Gb11.out) HB.out.size)
 clear hO hY hgY hlva hsva hlZc hsZc
 go_upto_region 3 with fail
 have tk8_0 := trivial
 go_upto_region 4 with (first
  | (clear tk8_0; go_at_call 67; refine (Cv24.out Zc).mono ?_; rintro e W9 ⟨rfl, hb9⟩; have Hb11 := bl Hb11 hb9; have HB := tm HB hb9; clear hb9; have tk8_1 := trivial)
  | (clear tk8_1; go_at_call 67; refine (Cv25.out W9).mono ?_; rintro e W10 ⟨rfl, hb9⟩; have Hb11 := bl Hb11 hb9; have HB := tm HB hb9; clear hb9; have tk8_2 := trivial)
  | (clear tk8_2; go_at_call 70; refine (Cv26.out W10).mono ?_; rintro e W11 ⟨rfl, hb9⟩; have Hb11 := bl Hb11 hb9; have HB := tm HB hb9; clear hb9; have tk8_3 := trivial)
  | (clear tk8_3; go_at_call 69; refine (Cv27.out W11).mono ?_; rintro e W12 ⟨rfl, hb9⟩; have Hb11 := bl Hb11 hb9; have HB := tm HB hb9; clear hb9; have tk8_4 := trivial)
  | (clear tk8_4; refine Rg.qf_ rfl 76 _ _ rfl (u64s (els [v27])) _ 76 rfl (by first | rfl | (rw [qi_])) (by kernel_rfl) rfl (qp_ _) ?_; intro X13 hX hbX; obtain ⟨b2, hb2⟩ : ∃ n, W12.heap.size = n := exr; have Hb11 := bl Hb11 hbX; have Hb2 := ϕ (show Rg.Blk X13 b2 76 (u64s (els [v27])) from hb2 ▸ hX); have HB := tm HB hbX; rw [hb2]; clear hb2 hX hbX; have tk8_5 := trivial))
 clear tk8_5
 have tk14_0 := trivial
 go_upto_region 5 with (first
  | (clear tk14_0; (with_reducible refine qd_ ?_); refine lxA (u64s v27.l) (qe_ (Hb2.out) 0 0 v27 rfl rfl (by simp)) ?_; have tk14_1 := trivial)
  | (clear tk14_1; go_at_call 72; refine (Cv31.out b11 X13 (Hb11.out)).mono ?_; rintro e W15 ⟨rfl, hb9⟩; have Hb11 := bl Hb11 hb9; have Hb2 := bl Hb2 hb9; have HB := tm HB hb9; clear hb9; have tk14_2 := trivial)
  | (clear tk14_2; refine Rg.qf_ rfl 76 _ _ rfl (u64s (els [r31])) _ 76 rfl (by first | rfl | (rw [qi_])) (by kernel_rfl) rfl (qp_ _) ?_; intro X16 hX hbX; obtain ⟨b3, hb3⟩ : ∃ n, W15.heap.size = n := exr; have Hb11 := bl Hb11 hbX; have Hb2 := bl Hb2 hbX; have Hb3 := ϕ (show Rg.Blk X16 b3 76 (u64s (els [r31])) from hb3 ▸ hX); have HB := tm HB hbX; rw [hb3]; clear hb3 hX hbX; have tk14_3 := trivial))
 clear tk14_3
 have tk17_0 := trivial
 go_upto_region 6 with (first
  | (clear tk17_0; (with_reducible refine qd_ ?_); refine lxA (u64s r31.l) (qe_ (Hb3.out) 0 0 r31 rfl rfl (by simp)) ?_; have tk17_1 := trivial)
  | (clear tk17_1; (with_reducible refine qd_ ?_); refine lxA (u64s v27.l) (qe_ (Hb2.out) 0 0 v27 rfl rfl (by simp)) ?_; have tk17_2 := trivial)
  | (clear tk17_2; go_at_call 73; refine (Cv37.out X16).mono ?_; rintro e W18 ⟨rfl, hb9⟩; have Hb11 := bl Hb11 hb9; have Hb2 := bl Hb2 hb9; have Hb3 := bl Hb3 hb9; have HB := tm HB hb9; clear hb9; have tk17_3 := trivial)
  | (clear tk17_3; (with_reducible refine qd_ ?_); refine store_part rfl 78 _ _ rfl b11 10 (u64s (els [r31, v27, z37, t37])) (u64s (els [v9, v21, zE, zE, zE, zE])) (u64s (els [v9, v21, r31, v27, z37, t37])) 84 rfl rfl Hb11.out (by kernel_rfl) (Nat.le_of_ble_eq_true (by kernel_rfl)) (u64s_one _) rfl ?_; intro X19 hV hgV; have Hb11 := ϕ hV; have HB := ϕ (HB.out.grown hgV HB.out.size (fun j e => by cases e; exact Gb11.out)); clear hV hgV; have tk17_4 := trivial))
 clear tk17_4
 go_wp2_with fail
 go_ret
 exact ⟨⟨b11, Gb11.out, rfl, Hb11.out⟩, HB.out⟩
end Kx
namespace Kx
open Go.RowKit Go.Proofs.YtciibogkfbicfaaGreatDoor.Cl Go.Proofs.YtciibogkfbicfaaGreatDoor.Ed
theorem add_q {cd ct c1 c2 c3 c4 x1 y1 z1 t1 x2 y2 z2 t2 : E} {p q : Pt} (hc : El ct (dE + dE)) (hp : Rq p x1 y1 z1 t1) (hq : Rq q x2 y2 z2 t2) : ∃ x y z t, Rq (p.add q) x y z t ∧
 ∀ (cb : Nat) (W : World), Rg.Blk W cb 84 (u64s (els [cd, ct, c1, c2, c3, c4])) → Calls prog 76 #[.pointer (some ⟨cb, 0, none⟩), .agg (u64s (els [x1, y1, z1, t1])), .agg (u64s (els [x2, y2, z2, t2]))] W fun e w' => e = .returned (.agg (u64s (els [x, y, z, t]))) ∧ Below W.heap.size W w' := by
 obtain ⟨X1, Y1, Z1, T1, ex1, ey1, ez1, et1, h1⟩ := hp
 obtain ⟨X2, Y2, Z2, T2, ex2, ey2, ez2, et2, h2⟩ := hq
 have Ect := ϕ hc
 have Ex1 := ϕ ex1
 have Ey1 := ϕ ey1
 have Ez1 := ϕ ez1
 have Et1 := ϕ et1
 have Ex2 := ϕ ex2
 have Ey2 := ϕ ey2
 have Ez2 := ϕ ez2
 have Et2 := ϕ et2
 have HR := ϕ (RepE.add h1 h2)
 clear hc ex1 ey1 ez1 et1 ex2 ey2 ez2 et2 h1 h2
 obtain ⟨v19, ev19, cv19⟩ := sub_e Ey1.out Ex1.out
 have Ev19 := ϕ ev19
 have Cv19 := ϕ cv19
 clear ev19 cv19
 obtain ⟨v24, ev24, cv24⟩ := sub_e Ey2.out Ex2.out
 have Ev24 := ϕ ev24
 have Cv24 := ϕ cv24
 clear ev24 cv24
 obtain ⟨v25, ev25, cv25⟩ := mul_e Ev19.out Ev24.out
 have Ev25 := ϕ ev25
 have Cv25 := ϕ cv25
 clear ev25 cv25
 obtain ⟨v30, ev30, cv30⟩ := add_e Ey1.out Ex1.out
 have Ev30 := ϕ ev30
 have Cv30 := ϕ cv30
 clear ev30 cv30
 obtain ⟨v35, ev35, cv35⟩ := add_e Ey2.out Ex2.out
 have Ev35 := ϕ ev35
 have Cv35 := ϕ cv35
 clear ev35 cv35
 obtain ⟨v36, ev36, cv36⟩ := mul_e Ev30.out Ev35.out
 have Ev36 := ϕ ev36
 have Cv36 := ϕ cv36
 clear ev36 cv36
 obtain ⟨v43, ev43, cv43⟩ := mul_e Et1.out Ect.out
 have Ev43 := ϕ ev43
 have Cv43 := ϕ cv43
 clear ev43 cv43
 obtain ⟨v46, ev46, cv46⟩ := mul_e Ev43.out Et2.out
 have Ev46 := ϕ ev46
 have Cv46 := ϕ cv46
 clear ev46 cv46
 obtain ⟨v51, ev51, cv51⟩ := mul_e Ez1.out Ez2.out
 have Ev51 := ϕ ev51
 have Cv51 := ϕ cv51
 clear ev51 cv51
 obtain ⟨v54, ev54, cv54⟩ := add_e Ev51.out Ev51.out
 have Ev54 := ϕ ev54
 have Cv54 := ϕ cv54
 clear ev54 cv54
 obtain ⟨v57, ev57, cv57⟩ := sub_e Ev36.out Ev25.out
 have Ev57 := ϕ ev57
 have Cv57 := ϕ cv57
 clear ev57 cv57
 obtain ⟨v60, ev60, cv60⟩ := sub_e Ev54.out Ev46.out
 have Ev60 := ϕ ev60
 have Cv60 := ϕ cv60
 clear ev60 cv60
 obtain ⟨v63, ev63, cv63⟩ := add_e Ev54.out Ev46.out
 have Ev63 := ϕ ev63
 have Cv63 := ϕ cv63
 clear ev63 cv63
 obtain ⟨v66, ev66, cv66⟩ := add_e Ev36.out Ev25.out
 have Ev66 := ϕ ev66
 have Cv66 := ϕ cv66
 clear ev66 cv66
 obtain ⟨v69, ev69, cv69⟩ := mul_e Ev57.out Ev60.out
 have Ev69 := ϕ ev69
 have Cv69 := ϕ cv69
 clear ev69 cv69
 obtain ⟨v72, ev72, cv72⟩ := mul_e Ev63.out Ev66.out
 have Ev72 := ϕ ev72
 have Cv72 := ϕ cv72
 clear ev72 cv72
 obtain ⟨v75, ev75, cv75⟩ := mul_e Ev60.out Ev63.out
 have Ev75 := ϕ ev75
 have Cv75 := ϕ cv75
 clear ev75 cv75
 obtain ⟨v78, ev78, cv78⟩ := mul_e Ev57.out Ev66.out
 have Ev78 := ϕ ev78
 have Cv78 := ϕ cv78
 clear ev78 cv78
 refine ⟨v69, v72, v75, v78, ⟨_, _, _, _, Ev69.out, Ev72.out, Ev75.out, Ev78.out, HR.out⟩, fun cb w hcb => ?_⟩
 have Hcb := ϕ hcb
 clear hcb HR
 go_enter func76, ntmps76
 have tb0 := trivial
 go_upto_region 1 with (first
  | (clear tb0; (with_reducible refine qd_ ?_); refine Rg.qh_ rfl 78 _ rfl (u64s (els [x1, y1, z1, t1])) (by first | rfl | (rw [qi_])) ?_; intro X1 hX hbX hnX; have J0 := ϕ hX; have K0 := ϕ hbX; have M0 := ϕ hnX; clear hX hbX hnX; have tb1 := trivial)
  | (clear tb1; (with_reducible refine qd_ ?_); refine Rg.qh_ rfl 78 _ rfl (u64s (els [x2, y2, z2, t2])) (by first | rfl | (rw [qi_])) ?_; intro X2 hX hbX hnX; have J1 := ϕ hX; have K1 := ϕ hbX; have M1 := ϕ hnX; clear hX hbX hnX; have tb2 := trivial))
 clear tb2
 have HB := ϕ (Below.refl w.heap.size w)
 obtain ⟨b4, hb4⟩ : ∃ n, w.heap.size = n := exr
 have Hcb := bl Hcb K0.out
 have Hb4 := ϕ (show Rg.Blk X1 b4 78 (u64s (els [x1, y1, z1, t1])) from hb4 ▸ J0.out)
 have HB := ϕ (HB.out.trans (K0.out.mono HB.out.size))
 rw [hb4]
 clear hb4 J0 K0 M0
 obtain ⟨b5, hb5⟩ : ∃ n, X1.heap.size = n := exr
 have Hcb := bl Hcb K1.out
 have Hb4 := bl Hb4 K1.out
 have Hb5 := ϕ (show Rg.Blk X2 b5 78 (u64s (els [x2, y2, z2, t2])) from hb5 ▸ J1.out)
 have HB := ϕ (HB.out.trans (K1.out.mono HB.out.size))
 rw [hb5]
 clear hb5 J1 K1 M1
 obtain ⟨b6, hb6⟩ : ∃ n, X2.heap.size = n := exr
 have Gb6 := ϕ (show w.heap.size ≤ b6 from hb6 ▸ HB.out.size)
 have Hcb := ϕ (Hcb.out.alloc (.cells q20 78))
 have Hb4 := ϕ (Hb4.out.alloc (.cells q20 78))
 have Hb5 := ϕ (Hb5.out.alloc (.cells q20 78))
 have Hb6 := ϕ (show Rg.Blk (X2.alloc (.cells q20 78)) b6 78 (u64s (els [zE, zE, zE, zE])) from Rg.Blk.newAt hb6.symm _ _)
 have HB := ϕ (HB.out.alloc HB.out.size (.cells q20 78))
 rw [hb6]
 clear hb6
 generalize (X2.alloc (.cells q20 78)) = Y3 at *
 refine RL.start (RL.Aft Y3) (by kernel_rfl) (RL.Aft.drew (RL.Aft.refl Y3)) ?_
 refine RL.tu 0 ?_; go_frame
 refine RL.tw 1 (v := .agg (u64s y1.l)) rfl (fun W hSW => ql_ 76 _ rfl b4 5 rfl (u64s y1.l) (qe_ (qc_ hSW Hb4.out) 1 5 y1 rfl rfl (by simp)) underlying76 rfl (by kernel_rfl)) ?_
 try go_frame
 refine RL.tu 2 ?_; go_frame
 refine RL.tw 3 (v := .agg (u64s x1.l)) rfl (fun W hSW => ql_ 76 _ rfl b4 0 rfl (u64s x1.l) (qe_ (qc_ hSW Hb4.out) 0 0 x1 rfl rfl (by simp)) underlying76 rfl (by kernel_rfl)) ?_
 try go_frame
 refine' RL.td 4 (v := (.agg (u64s v19.l))) 109 #[.agg (u64s y1.l), .agg (u64s x1.l)] ?hc23 ?_
 case hc23 => (intro W hSW; exact (Cv19.out W).mono (fun e w9 h9 => ⟨h9.1, h9.2, RL.Aft.lat hSW h9.2⟩))
 try go_frame
 refine RL.tu 5 ?_; go_frame
 refine RL.tw 6 (v := .agg (u64s y2.l)) rfl (fun W hSW => ql_ 76 _ rfl b5 5 rfl (u64s y2.l) (qe_ (qc_ hSW Hb5.out) 1 5 y2 rfl rfl (by simp)) underlying76 rfl (by kernel_rfl)) ?_
 try go_frame
 refine RL.tu 7 ?_; go_frame
 refine RL.tw 8 (v := .agg (u64s x2.l)) rfl (fun W hSW => ql_ 76 _ rfl b5 0 rfl (u64s x2.l) (qe_ (qc_ hSW Hb5.out) 0 0 x2 rfl rfl (by simp)) underlying76 rfl (by kernel_rfl)) ?_
 try go_frame
 refine' RL.td 9 (v := (.agg (u64s v24.l))) 109 #[.agg (u64s y2.l), .agg (u64s x2.l)] ?hc26 ?_
 case hc26 => (intro W hSW; exact (Cv24.out W).mono (fun e w9 h9 => ⟨h9.1, h9.2, RL.Aft.lat hSW h9.2⟩))
 try go_frame
 refine' RL.td 10 (v := (.agg (u64s v25.l))) 69 #[.agg (u64s v19.l), .agg (u64s v24.l)] ?hc27 ?_
 case hc27 => (intro W hSW; exact (Cv25.out W).mono (fun e w9 h9 => ⟨h9.1, h9.2, RL.Aft.lat hSW h9.2⟩))
 try go_frame
 refine RL.sk 11 (fun wa hlwa hswa K hK => ?_)
 go_simp
 obtain ⟨b7, hb7⟩ : ∃ n, wa.heap.size = n := exr
 have hZb7 := Rg.Blk.newAt hb7.symm #[.int .u64 0, .int .u64 0, .int .u64 0, .int .u64 0, .int .u64 0] 76
 have Fb7 := ϕ (show Y3.heap.size ≤ b7 from hb7 ▸ Below.size hswa)
 refine hK.out _ _ (RL.Aft.alloc hswa _) ?_
 try rw [hb7]
 clear hK
 try go_frame
 refine RL.sk 12 (fun va0 hlva0 hsva0 K hK => ?_)
 have hZb7 := hZb7.below hlva0 hZb7.lt
 refine qg_ 76 _ _ rfl b7 (u64s (els [v25])) _ 76 rfl (by first | rfl | (rw [qi_])) hZb7 (by kernel_rfl) rfl (qp_ _) ?_
 intro Y0 hY hgY
 replace hZb7 := hY
 refine hK.out _ _ (Below.grown hsva0 hgY (Below.size hsva0) (fun k hk => by cases hk; exact Fb7.out)) ?_
 clear hK hgY
 try go_frame
 refine RL.done (by kernel_rfl) (fun Z4 hlZ4 hsZ4 => ?_)
 have HA := ϕ (show RL.Aft Y3 Z4 from hsZ4)
 have Hb7 := ϕ (show Rg.Blk Z4 b7 76 (u64s (els [v25])) from hZb7.below hlZ4 hZb7.lt)
 have Hcb := ϕ (qc_ HA.out Hcb.out)
 have Hb4 := ϕ (qc_ HA.out Hb4.out)
 have Hb5 := ϕ (qc_ HA.out Hb5.out)
 have Hb6 := ϕ (qc_ HA.out Hb6.out)
 have HB := ϕ (Below.trans HB.out (Below.mono HA.out (Below.size HB.out)))
 clear HA hsZ4 hlZ4 hZb7 Fb7
 go_upto_region 2 with fail
 refine RL.start (RL.Aft Z4) (by kernel_rfl) (RL.Aft.drew (RL.Aft.refl Z4)) ?_
 refine RL.tu 0 ?_; go_frame
 refine RL.tw 1 (v := .agg (u64s y1.l)) rfl (fun W hSW => ql_ 76 _ rfl b4 5 rfl (u64s y1.l) (qe_ (qc_ hSW Hb4.out) 1 5 y1 rfl rfl (by simp)) underlying76 rfl (by kernel_rfl)) ?_
 try go_frame
 refine RL.tu 2 ?_; go_frame
 refine RL.tw 3 (v := .agg (u64s x1.l)) rfl (fun W hSW => ql_ 76 _ rfl b4 0 rfl (u64s x1.l) (qe_ (qc_ hSW Hb4.out) 0 0 x1 rfl rfl (by simp)) underlying76 rfl (by kernel_rfl)) ?_
 try go_frame
 refine' RL.td 4 (v := (.agg (u64s v30.l))) 71 #[.agg (u64s y1.l), .agg (u64s x1.l)] ?hc30 ?_
 case hc30 => (intro W hSW; exact (Cv30.out W).mono (fun e w9 h9 => ⟨h9.1, h9.2, RL.Aft.lat hSW h9.2⟩))
 try go_frame
 refine RL.tu 5 ?_; go_frame
 refine RL.tw 6 (v := .agg (u64s y2.l)) rfl (fun W hSW => ql_ 76 _ rfl b5 5 rfl (u64s y2.l) (qe_ (qc_ hSW Hb5.out) 1 5 y2 rfl rfl (by simp)) underlying76 rfl (by kernel_rfl)) ?_
 try go_frame
 refine RL.tu 7 ?_; go_frame
 refine RL.tw 8 (v := .agg (u64s x2.l)) rfl (fun W hSW => ql_ 76 _ rfl b5 0 rfl (u64s x2.l) (qe_ (qc_ hSW Hb5.out) 0 0 x2 rfl rfl (by simp)) underlying76 rfl (by kernel_rfl)) ?_
 try go_frame
 refine' RL.td 9 (v := (.agg (u64s v35.l))) 71 #[.agg (u64s y2.l), .agg (u64s x2.l)] ?hc33 ?_
 case hc33 => (intro W hSW; exact (Cv35.out W).mono (fun e w9 h9 => ⟨h9.1, h9.2, RL.Aft.lat hSW h9.2⟩))
 try go_frame
 refine' RL.td 10 (v := (.agg (u64s v36.l))) 69 #[.agg (u64s v30.l), .agg (u64s v35.l)] ?hc34 ?_
 case hc34 => (intro W hSW; exact (Cv36.out W).mono (fun e w9 h9 => ⟨h9.1, h9.2, RL.Aft.lat hSW h9.2⟩))
 try go_frame
 refine RL.sk 11 (fun wa hlwa hswa K hK => ?_)
 go_simp
 obtain ⟨b8, hb8⟩ : ∃ n, wa.heap.size = n := exr
 have hZb8 := Rg.Blk.newAt hb8.symm #[.int .u64 0, .int .u64 0, .int .u64 0, .int .u64 0, .int .u64 0] 76
 have Fb8 := ϕ (show Z4.heap.size ≤ b8 from hb8 ▸ Below.size hswa)
 refine hK.out _ _ (RL.Aft.alloc hswa _) ?_
 try rw [hb8]
 clear hK
 try go_frame
 refine RL.sk 12 (fun va0 hlva0 hsva0 K hK => ?_)
 have hZb8 := hZb8.below hlva0 hZb8.lt
 refine qg_ 76 _ _ rfl b8 (u64s (els [v36])) _ 76 rfl (by first | rfl | (rw [qi_])) hZb8 (by kernel_rfl) rfl (qp_ _) ?_
 intro Y0 hY hgY
 replace hZb8 := hY
 refine hK.out _ _ (Below.grown hsva0 hgY (Below.size hsva0) (fun k hk => by cases hk; exact Fb8.out)) ?_
 clear hK hgY
 try go_frame
 refine RL.done (by kernel_rfl) (fun Z5 hlZ5 hsZ5 => ?_)
 have HA := ϕ (show RL.Aft Z4 Z5 from hsZ5)
 have Hb8 := ϕ (show Rg.Blk Z5 b8 76 (u64s (els [v36])) from hZb8.below hlZ5 hZb8.lt)
 have Hcb := ϕ (qc_ HA.out Hcb.out)
 have Hb4 := ϕ (qc_ HA.out Hb4.out)
 have Hb5 := ϕ (qc_ HA.out Hb5.out)
 have Hb6 := ϕ (qc_ HA.out Hb6.out)
 have Hb7 := ϕ (qc_ HA.out Hb7.out)
 have HB := ϕ (Below.trans HB.out (Below.mono HA.out (Below.size HB.out)))
 clear HA hsZ5 hlZ5 hZb8 Fb8
 go_upto_region 3 with fail
 refine RL.start (RL.Aft Z5) (by kernel_rfl) (RL.Aft.drew (RL.Aft.refl Z5)) ?_
 refine RL.tu 0 ?_; go_frame
 refine RL.tw 1 (v := .agg (u64s t1.l)) rfl (fun W hSW => ql_ 76 _ rfl b4 15 rfl (u64s t1.l) (qe_ (qc_ hSW Hb4.out) 3 15 t1 rfl rfl (by simp)) underlying76 rfl (by kernel_rfl)) ?_
 try go_frame
 refine RL.tu 2 ?_; go_frame
 refine RL.tu 3 ?_; go_frame
 refine RL.tu 4 ?_; go_frame
 refine RL.tw 5 (v := .agg (u64s ct.l)) rfl (fun W hSW => ql_ 76 _ rfl cb 5 rfl (u64s ct.l) (qe_ (qc_ hSW Hcb.out) 1 5 ct rfl rfl (by simp)) underlying76 rfl (by kernel_rfl)) ?_
 try go_frame
 refine' RL.td 6 (v := (.agg (u64s v43.l))) 69 #[.agg (u64s t1.l), .agg (u64s ct.l)] ?hc39 ?_
 case hc39 => (intro W hSW; exact (Cv43.out W).mono (fun e w9 h9 => ⟨h9.1, h9.2, RL.Aft.lat hSW h9.2⟩))
 try go_frame
 refine RL.tu 7 ?_; go_frame
 refine RL.tw 8 (v := .agg (u64s t2.l)) rfl (fun W hSW => ql_ 76 _ rfl b5 15 rfl (u64s t2.l) (qe_ (qc_ hSW Hb5.out) 3 15 t2 rfl rfl (by simp)) underlying76 rfl (by kernel_rfl)) ?_
 try go_frame
 refine' RL.td 9 (v := (.agg (u64s v46.l))) 69 #[.agg (u64s v43.l), .agg (u64s t2.l)] ?hc41 ?_
 case hc41 => (intro W hSW; exact (Cv46.out W).mono (fun e w9 h9 => ⟨h9.1, h9.2, RL.Aft.lat hSW h9.2⟩))
 try go_frame
 refine RL.sk 10 (fun wa hlwa hswa K hK => ?_)
 go_simp
 obtain ⟨b9, hb9⟩ : ∃ n, wa.heap.size = n := exr
 have hZb9 := Rg.Blk.newAt hb9.symm #[.int .u64 0, .int .u64 0, .int .u64 0, .int .u64 0, .int .u64 0] 76
 have Fb9 := ϕ (show Z5.heap.size ≤ b9 from hb9 ▸ Below.size hswa)
 refine hK.out _ _ (RL.Aft.alloc hswa _) ?_
 try rw [hb9]
 clear hK
 try go_frame
 refine RL.sk 11 (fun va0 hlva0 hsva0 K hK => ?_)
 have hZb9 := hZb9.below hlva0 hZb9.lt
 refine qg_ 76 _ _ rfl b9 (u64s (els [v46])) _ 76 rfl (by first | rfl | (rw [qi_])) hZb9 (by kernel_rfl) rfl (qp_ _) ?_
 intro Y0 hY hgY
 replace hZb9 := hY
 refine hK.out _ _ (Below.grown hsva0 hgY (Below.size hsva0) (fun k hk => by cases hk; exact Fb9.out)) ?_
 clear hK hgY
 try go_frame
 refine RL.done (by kernel_rfl) (fun Z6 hlZ6 hsZ6 => ?_)
 have HA := ϕ (show RL.Aft Z5 Z6 from hsZ6)
 have Hb9 := ϕ (show Rg.Blk Z6 b9 76 (u64s (els [v46])) from hZb9.below hlZ6 hZb9.lt)
 have Hcb := ϕ (qc_ HA.out Hcb.out)
 have Hb4 := ϕ (qc_ HA.out Hb4.out)
 have Hb5 := ϕ (qc_ HA.out Hb5.out)
 have Hb6 := ϕ (qc_ HA.out Hb6.out)
 have Hb7 := ϕ (qc_ HA.out Hb7.out)
 have Hb8 := ϕ (qc_ HA.out Hb8.out)
 have HB := ϕ (Below.trans HB.out (Below.mono HA.out (Below.size HB.out)))
 clear HA hsZ6 hlZ6 hZb9 Fb9
 go_upto_region 4 with fail
 have tk7_0 := trivial
 go_upto_region 5 with (first
  | (clear tk7_0; (with_reducible refine qd_ ?_); refine lxA (u64s z1.l) (qe_ (Hb4.out) 2 10 z1 rfl rfl (by simp)) ?_; have tk7_1 := trivial)
  | (clear tk7_1; (with_reducible refine qd_ ?_); refine lxA (u64s z2.l) (qe_ (Hb5.out) 2 10 z2 rfl rfl (by simp)) ?_; have tk7_2 := trivial)
  | (clear tk7_2; go_at_call 69; refine (Cv51.out Z6).mono ?_; rintro e W8 ⟨rfl, hb9⟩; have Hcb := bl Hcb hb9; have Hb4 := bl Hb4 hb9; have Hb5 := bl Hb5 hb9; have Hb6 := bl Hb6 hb9; have Hb7 := bl Hb7 hb9; have Hb8 := bl Hb8 hb9; have Hb9 := bl Hb9 hb9; have HB := tm HB hb9; clear hb9; have tk7_3 := trivial)
  | (clear tk7_3; refine Rg.qf_ rfl 76 _ _ rfl (u64s (els [v51])) _ 76 rfl (by first | rfl | (rw [qi_])) (by kernel_rfl) rfl (qp_ _) ?_; intro X9 hX hbX; obtain ⟨b10, hb10⟩ : ∃ n, W8.heap.size = n := exr; have Gb10 := ϕ (show w.heap.size ≤ b10 from hb10 ▸ HB.out.size); have Nb6_b10 := ϕ (show ¬ b6 = b10 from by have h1 := Hb6.out.lt; omega); have Nb10_b6 := ϕ (fun e : b10 = b6 => Nb6_b10.out e.symm); have Nb7_b10 := ϕ (show ¬ b7 = b10 from by have h1 := Hb7.out.lt; omega); have Nb10_b7 := ϕ (fun e : b10 = b7 => Nb7_b10.out e.symm); have Nb8_b10 := ϕ (show ¬ b8 = b10 from by have h1 := Hb8.out.lt; omega); have Nb10_b8 := ϕ (fun e : b10 = b8 => Nb8_b10.out e.symm); have Nb9_b10 := ϕ (show ¬ b9 = b10 from by have h1 := Hb9.out.lt; omega); have Nb10_b9 := ϕ (fun e : b10 = b9 => Nb9_b10.out e.symm); have Hcb := bl Hcb hbX; have Hb4 := bl Hb4 hbX; have Hb5 := bl Hb5 hbX; have Hb6 := bl Hb6 hbX; have Hb7 := bl Hb7 hbX; have Hb8 := bl Hb8 hbX; have Hb9 := bl Hb9 hbX; have Hb10 := ϕ (show Rg.Blk X9 b10 76 (u64s (els [v51])) from hb10 ▸ hX); have HB := tm HB hbX; rw [hb10]; clear hb10 hX hbX; have tk7_4 := trivial))
 clear tk7_4
 go_upto_region 5 with fail
 have tk10_0 := trivial
 go_upto_region 6 with (first
  | (clear tk10_0; (with_reducible refine qd_ ?_); refine lxA (u64s v51.l) (qe_ (Hb10.out) 0 0 v51 rfl rfl (by simp)) ?_; have tk10_1 := trivial)
  | (clear tk10_1; (with_reducible refine qd_ ?_); refine lxA (u64s v51.l) (qe_ (Hb10.out) 0 0 v51 rfl rfl (by simp)) ?_; have tk10_2 := trivial)
  | (clear tk10_2; go_at_call 71; refine (Cv54.out X9).mono ?_; rintro e W11 ⟨rfl, hb9⟩; have Hcb := bl Hcb hb9; have Hb4 := bl Hb4 hb9; have Hb5 := bl Hb5 hb9; have Hb6 := bl Hb6 hb9; have Hb7 := bl Hb7 hb9; have Hb8 := bl Hb8 hb9; have Hb9 := bl Hb9 hb9; have Hb10 := bl Hb10 hb9; have HB := tm HB hb9; clear hb9; have tk10_3 := trivial)
  | (clear tk10_3; (with_reducible refine qd_ ?_); refine Cv.qu_ rfl 76 _ _ rfl b10 (u64s (els [v54])) (u64s (els [v51])) 76 rfl (by first | rfl | (rw [qi_])) Hb10.out (by kernel_rfl) (by first | rfl | kernel_rfl) (qp_ _) ?_; intro X12 hV hgV; have Hb6 := ϕ (qb_ Hb6.out hgV Nb10_b6.out); have Hb7 := ϕ (qb_ Hb7.out hgV Nb10_b7.out); have Hb8 := ϕ (qb_ Hb8.out hgV Nb10_b8.out); have Hb9 := ϕ (qb_ Hb9.out hgV Nb10_b9.out); have Hb10 := ϕ hV; have HB := ϕ (HB.out.grown hgV HB.out.size (fun j e => by cases e; exact Gb10.out)); clear hV hgV; have tk10_4 := trivial))
 clear tk10_4
 go_upto_region 6 with fail
 refine RL.start (RL.Aft X12) (by kernel_rfl) (RL.Aft.drew (RL.Aft.refl X12)) ?_
 refine RL.tw 0 (v := .agg (u64s v36.l)) rfl (fun W hSW => ql_ 76 _ rfl b8 0 rfl (u64s v36.l) (qe_ (qc_ hSW Hb8.out) 0 0 v36 rfl rfl (by simp)) underlying76 rfl (by kernel_rfl)) ?_
 try go_frame
 refine RL.tw 1 (v := .agg (u64s v25.l)) rfl (fun W hSW => ql_ 76 _ rfl b7 0 rfl (u64s v25.l) (qe_ (qc_ hSW Hb7.out) 0 0 v25 rfl rfl (by simp)) underlying76 rfl (by kernel_rfl)) ?_
 try go_frame
 refine' RL.td 2 (v := (.agg (u64s v57.l))) 109 #[.agg (u64s v36.l), .agg (u64s v25.l)] ?hc42 ?_
 case hc42 => (intro W hSW; exact (Cv57.out W).mono (fun e w9 h9 => ⟨h9.1, h9.2, RL.Aft.lat hSW h9.2⟩))
 try go_frame
 refine RL.tw 3 (v := .agg (u64s v54.l)) rfl (fun W hSW => ql_ 76 _ rfl b10 0 rfl (u64s v54.l) (qe_ (qc_ hSW Hb10.out) 0 0 v54 rfl rfl (by simp)) underlying76 rfl (by kernel_rfl)) ?_
 try go_frame
 refine RL.tw 4 (v := .agg (u64s v46.l)) rfl (fun W hSW => ql_ 76 _ rfl b9 0 rfl (u64s v46.l) (qe_ (qc_ hSW Hb9.out) 0 0 v46 rfl rfl (by simp)) underlying76 rfl (by kernel_rfl)) ?_
 try go_frame
 refine' RL.td 5 (v := (.agg (u64s v60.l))) 109 #[.agg (u64s v54.l), .agg (u64s v46.l)] ?hc43 ?_
 case hc43 => (intro W hSW; exact (Cv60.out W).mono (fun e w9 h9 => ⟨h9.1, h9.2, RL.Aft.lat hSW h9.2⟩))
 try go_frame
 refine RL.tw 6 (v := .agg (u64s v54.l)) rfl (fun W hSW => ql_ 76 _ rfl b10 0 rfl (u64s v54.l) (qe_ (qc_ hSW Hb10.out) 0 0 v54 rfl rfl (by simp)) underlying76 rfl (by kernel_rfl)) ?_
 try go_frame
 refine RL.tw 7 (v := .agg (u64s v46.l)) rfl (fun W hSW => ql_ 76 _ rfl b9 0 rfl (u64s v46.l) (qe_ (qc_ hSW Hb9.out) 0 0 v46 rfl rfl (by simp)) underlying76 rfl (by kernel_rfl)) ?_
 try go_frame
 refine' RL.td 8 (v := (.agg (u64s v63.l))) 71 #[.agg (u64s v54.l), .agg (u64s v46.l)] ?hc44 ?_
 case hc44 => (intro W hSW; exact (Cv63.out W).mono (fun e w9 h9 => ⟨h9.1, h9.2, RL.Aft.lat hSW h9.2⟩))
 try go_frame
 refine RL.tw 9 (v := .agg (u64s v36.l)) rfl (fun W hSW => ql_ 76 _ rfl b8 0 rfl (u64s v36.l) (qe_ (qc_ hSW Hb8.out) 0 0 v36 rfl rfl (by simp)) underlying76 rfl (by kernel_rfl)) ?_
 try go_frame
 refine RL.tw 10 (v := .agg (u64s v25.l)) rfl (fun W hSW => ql_ 76 _ rfl b7 0 rfl (u64s v25.l) (qe_ (qc_ hSW Hb7.out) 0 0 v25 rfl rfl (by simp)) underlying76 rfl (by kernel_rfl)) ?_
 try go_frame
 refine' RL.td 11 (v := (.agg (u64s v66.l))) 71 #[.agg (u64s v36.l), .agg (u64s v25.l)] ?hc45 ?_
 case hc45 => (intro W hSW; exact (Cv66.out W).mono (fun e w9 h9 => ⟨h9.1, h9.2, RL.Aft.lat hSW h9.2⟩))
 try go_frame
 refine RL.alloc4 (i := 12) (j := 13) (k := 14) (l := 15) 76 #[.int .u64 0, .int .u64 0, .int .u64 0, .int .u64 0, .int .u64 0] rfl rfl rfl rfl (by kernel_rfl) (fun xi xj xk xl hx => by cases xi <;> cases xj <;> cases xk <;> cases xl <;> first | (exact absurd hx (by decide)) | kernel_rfl) (by decide) (by decide) (fun _ => rfl) (fun _ => rfl) (fun _ => rfl) (fun _ => rfl) (fun _ _ => by go_simp; try rfl) (fun _ _ => by go_simp; try rfl) (fun _ _ => by go_simp; try rfl) (fun _ _ => by go_simp; try rfl) (fun _ _ h => RL.Aft.alloc h _) ?_
 intro b11 b12 b13 b14 wa hlwa hswa hna hfa hZb11 hZb12 hZb13 hZb14
 obtain ⟨f0, f1, f2, f3⟩ := hfa
 have Fb11 := ϕ (show X12.heap.size ≤ b11 from by simpa using f0)
 have Fb12 := ϕ (show X12.heap.size ≤ b12 from by simpa using f1)
 have Fb13 := ϕ (show X12.heap.size ≤ b13 from by simpa using f2)
 have Fb14 := ϕ (show X12.heap.size ≤ b14 from by simpa using f3)
 obtain ⟨n0, n1, n2, n3, n4, n5⟩ := hna
 try go_frame
 have Nb11_b12 := ϕ n0
 have Nb12_b11 := ϕ (fun e : b12 = b11 => Nb11_b12.out e.symm)
 have Nb11_b13 := ϕ n1
 have Nb13_b11 := ϕ (fun e : b13 = b11 => Nb11_b13.out e.symm)
 have Nb11_b14 := ϕ n2
 have Nb14_b11 := ϕ (fun e : b14 = b11 => Nb11_b14.out e.symm)
 have Nb12_b13 := ϕ n3
 have Nb13_b12 := ϕ (fun e : b13 = b12 => Nb12_b13.out e.symm)
 have Nb12_b14 := ϕ n4
 have Nb14_b12 := ϕ (fun e : b14 = b12 => Nb12_b14.out e.symm)
 have Nb13_b14 := ϕ n5
 have Nb14_b13 := ϕ (fun e : b14 = b13 => Nb13_b14.out e.symm)
 clear f0 f1 f2 f3 n0 n1 n2 n3 n4 n5
 refine RL.sk 16 (fun va0 hlva0 hsva0 K hK => ?_)
 have hZb11 := hZb11.below hlva0 hZb11.lt
 have hZb12 := hZb12.below hlva0 hZb12.lt
 have hZb13 := hZb13.below hlva0 hZb13.lt
 have hZb14 := hZb14.below hlva0 hZb14.lt
 refine qg_ 76 _ _ rfl b11 (u64s (els [v57])) _ 76 rfl (by first | rfl | (rw [qi_])) hZb11 (by kernel_rfl) rfl (qp_ _) ?_
 intro Y0 hY hgY
 have hZb12 := qb_ hZb12 hgY Nb11_b12.out
 have hZb13 := qb_ hZb13 hgY Nb11_b13.out
 have hZb14 := qb_ hZb14 hgY Nb11_b14.out
 replace hZb11 := hY
 refine hK.out _ _ (Below.grown hsva0 hgY (Below.size hsva0) (fun k hk => by cases hk; exact Fb11.out)) ?_
 clear hK hgY
 try go_frame
 refine RL.sk 17 (fun va1 hlva1 hsva1 K hK => ?_)
 have hZb11 := hZb11.below hlva1 hZb11.lt
 have hZb12 := hZb12.below hlva1 hZb12.lt
 have hZb13 := hZb13.below hlva1 hZb13.lt
 have hZb14 := hZb14.below hlva1 hZb14.lt
 refine qg_ 76 _ _ rfl b12 (u64s (els [v60])) _ 76 rfl (by first | rfl | (rw [qi_])) hZb12 (by kernel_rfl) rfl (qp_ _) ?_
 intro Y1 hY hgY
 have hZb11 := qb_ hZb11 hgY Nb12_b11.out
 have hZb13 := qb_ hZb13 hgY Nb12_b13.out
 have hZb14 := qb_ hZb14 hgY Nb12_b14.out
 replace hZb12 := hY
 refine hK.out _ _ (Below.grown hsva1 hgY (Below.size hsva1) (fun k hk => by cases hk; exact Fb12.out)) ?_
 clear hK hgY
 try go_frame
 refine RL.sk 18 (fun va2 hlva2 hsva2 K hK => ?_)
 have hZb11 := hZb11.below hlva2 hZb11.lt
 have hZb12 := hZb12.below hlva2 hZb12.lt
 have hZb13 := hZb13.below hlva2 hZb13.lt
 have hZb14 := hZb14.below hlva2 hZb14.lt
 refine qg_ 76 _ _ rfl b13 (u64s (els [v63])) _ 76 rfl (by first | rfl | (rw [qi_])) hZb13 (by kernel_rfl) rfl (qp_ _) ?_
 intro Y2 hY hgY
 have hZb11 := qb_ hZb11 hgY Nb13_b11.out
 have hZb12 := qb_ hZb12 hgY Nb13_b12.out
 have hZb14 := qb_ hZb14 hgY Nb13_b14.out
 replace hZb13 := hY
 refine hK.out _ _ (Below.grown hsva2 hgY (Below.size hsva2) (fun k hk => by cases hk; exact Fb13.out)) ?_
 clear hK hgY
 try go_frame
 refine RL.sk 19 (fun va3 hlva3 hsva3 K hK => ?_)
 have hZb11 := hZb11.below hlva3 hZb11.lt
 have hZb12 := hZb12.below hlva3 hZb12.lt
 have hZb13 := hZb13.below hlva3 hZb13.lt
 have hZb14 := hZb14.below hlva3 hZb14.lt
 refine qg_ 76 _ _ rfl b14 (u64s (els [v66])) _ 76 rfl (by first | rfl | (rw [qi_])) hZb14 (by kernel_rfl) rfl (qp_ _) ?_
 intro Y3 hY hgY
 have hZb11 := qb_ hZb11 hgY Nb14_b11.out
 have hZb12 := qb_ hZb12 hgY Nb14_b12.out
 have hZb13 := qb_ hZb13 hgY Nb14_b13.out
 replace hZb14 := hY
 refine hK.out _ _ (Below.grown hsva3 hgY (Below.size hsva3) (fun k hk => by cases hk; exact Fb14.out)) ?_
 clear hK hgY
 try go_frame
 refine RL.done (by kernel_rfl) (fun Z13 hlZ13 hsZ13 => ?_)
 have HA := ϕ (show RL.Aft X12 Z13 from hsZ13)
 have Hb11 := ϕ (show Rg.Blk Z13 b11 76 (u64s (els [v57])) from hZb11.below hlZ13 hZb11.lt)
 have Hb12 := ϕ (show Rg.Blk Z13 b12 76 (u64s (els [v60])) from hZb12.below hlZ13 hZb12.lt)
 have Hb13 := ϕ (show Rg.Blk Z13 b13 76 (u64s (els [v63])) from hZb13.below hlZ13 hZb13.lt)
 have Hb14 := ϕ (show Rg.Blk Z13 b14 76 (u64s (els [v66])) from hZb14.below hlZ13 hZb14.lt)
 have Nb6_b11 := ϕ (show ¬ b6 = b11 from by have h1 := Hb6.out.lt; have h2 := Fb11.out; omega)
 have Nb11_b6 := ϕ (fun e : b11 = b6 => Nb6_b11.out e.symm)
 have Nb6_b12 := ϕ (show ¬ b6 = b12 from by have h1 := Hb6.out.lt; have h2 := Fb12.out; omega)
 have Nb12_b6 := ϕ (fun e : b12 = b6 => Nb6_b12.out e.symm)
 have Nb6_b13 := ϕ (show ¬ b6 = b13 from by have h1 := Hb6.out.lt; have h2 := Fb13.out; omega)
 have Nb13_b6 := ϕ (fun e : b13 = b6 => Nb6_b13.out e.symm)
 have Nb6_b14 := ϕ (show ¬ b6 = b14 from by have h1 := Hb6.out.lt; have h2 := Fb14.out; omega)
 have Nb14_b6 := ϕ (fun e : b14 = b6 => Nb6_b14.out e.symm)
 have Hb6 := ϕ (qc_ HA.out Hb6.out)
 have HB := ϕ (Below.trans HB.out (Below.mono HA.out (Below.size HB.out)))
 clear HA hsZ13 hlZ13 hZb11 Fb11 hZb12 Fb12 hZb13 Fb13 hZb14 Fb14
 go_upto_region 7 with fail
 refine RL.start (fun W => Sp.Upd Z13 W [b6]) (by kernel_rfl) (Sp.Upd.trans (Sp.Upd.refl _ _) (Sp.Upd.of_below (Below.drew (Below.refl _ _))) (by simp)) ?_
 refine RL.tw 0 (v := .agg (u64s v57.l)) rfl (fun W hSW => ql_ 76 _ rfl b11 0 rfl (u64s v57.l) (qe_ (qm_ hSW Hb11.out (by simp; exact Nb11_b6.out)) 0 0 v57 rfl rfl (by simp)) underlying76 rfl (by kernel_rfl)) ?_
 try go_frame
 refine RL.tw 1 (v := .agg (u64s v60.l)) rfl (fun W hSW => ql_ 76 _ rfl b12 0 rfl (u64s v60.l) (qe_ (qm_ hSW Hb12.out (by simp; exact Nb12_b6.out)) 0 0 v60 rfl rfl (by simp)) underlying76 rfl (by kernel_rfl)) ?_
 try go_frame
 refine' RL.td 2 (v := (.agg (u64s v69.l))) 69 #[.agg (u64s v57.l), .agg (u64s v60.l)] ?hc46 ?_
 case hc46 => (intro W hSW; exact (Cv69.out W).mono (fun e w9 h9 => ⟨h9.1, h9.2, Sp.Upd.trans hSW (Sp.Upd.of_below h9.2) (by simp)⟩))
 try go_frame
 refine RL.tw 3 (v := .agg (u64s v63.l)) rfl (fun W hSW => ql_ 76 _ rfl b13 0 rfl (u64s v63.l) (qe_ (qm_ hSW Hb13.out (by simp; exact Nb13_b6.out)) 0 0 v63 rfl rfl (by simp)) underlying76 rfl (by kernel_rfl)) ?_
 try go_frame
 refine RL.tw 4 (v := .agg (u64s v66.l)) rfl (fun W hSW => ql_ 76 _ rfl b14 0 rfl (u64s v66.l) (qe_ (qm_ hSW Hb14.out (by simp; exact Nb14_b6.out)) 0 0 v66 rfl rfl (by simp)) underlying76 rfl (by kernel_rfl)) ?_
 try go_frame
 refine' RL.td 5 (v := (.agg (u64s v72.l))) 69 #[.agg (u64s v63.l), .agg (u64s v66.l)] ?hc47 ?_
 case hc47 => (intro W hSW; exact (Cv72.out W).mono (fun e w9 h9 => ⟨h9.1, h9.2, Sp.Upd.trans hSW (Sp.Upd.of_below h9.2) (by simp)⟩))
 try go_frame
 refine RL.tw 6 (v := .agg (u64s v60.l)) rfl (fun W hSW => ql_ 76 _ rfl b12 0 rfl (u64s v60.l) (qe_ (qm_ hSW Hb12.out (by simp; exact Nb12_b6.out)) 0 0 v60 rfl rfl (by simp)) underlying76 rfl (by kernel_rfl)) ?_
 try go_frame
 refine RL.tw 7 (v := .agg (u64s v63.l)) rfl (fun W hSW => ql_ 76 _ rfl b13 0 rfl (u64s v63.l) (qe_ (qm_ hSW Hb13.out (by simp; exact Nb13_b6.out)) 0 0 v63 rfl rfl (by simp)) underlying76 rfl (by kernel_rfl)) ?_
 try go_frame
 refine' RL.td 8 (v := (.agg (u64s v75.l))) 69 #[.agg (u64s v60.l), .agg (u64s v63.l)] ?hc48 ?_
 case hc48 => (intro W hSW; exact (Cv75.out W).mono (fun e w9 h9 => ⟨h9.1, h9.2, Sp.Upd.trans hSW (Sp.Upd.of_below h9.2) (by simp)⟩))
 try go_frame
 refine RL.tw 9 (v := .agg (u64s v57.l)) rfl (fun W hSW => ql_ 76 _ rfl b11 0 rfl (u64s v57.l) (qe_ (qm_ hSW Hb11.out (by simp; exact Nb11_b6.out)) 0 0 v57 rfl rfl (by simp)) underlying76 rfl (by kernel_rfl)) ?_
 try go_frame
 refine RL.tw 10 (v := .agg (u64s v66.l)) rfl (fun W hSW => ql_ 76 _ rfl b14 0 rfl (u64s v66.l) (qe_ (qm_ hSW Hb14.out (by simp; exact Nb14_b6.out)) 0 0 v66 rfl rfl (by simp)) underlying76 rfl (by kernel_rfl)) ?_
 try go_frame
 refine' RL.td 11 (v := (.agg (u64s v78.l))) 69 #[.agg (u64s v57.l), .agg (u64s v66.l)] ?hc49 ?_
 case hc49 => (intro W hSW; exact (Cv78.out W).mono (fun e w9 h9 => ⟨h9.1, h9.2, Sp.Upd.trans hSW (Sp.Upd.of_below h9.2) (by simp)⟩))
 try go_frame
 refine RL.tw 12 (v := .agg (u64s (els [v69, v72, v75, v78]))) rfl (fun W hSW => run_build_op 78 _ rfl #[(0, .agg (u64s v69.l)), (1, .agg (u64s v72.l)), (2, .agg (u64s v75.l)), (3, .agg (u64s v78.l))] (by go_simp) _ (built_p _ _ _ _)) ?_
 try go_frame
 refine RL.sk 13 (fun va hlva hsva K hK => ?_)
 have hO := (Hb6.out.below (Below.drew (Below.refl _ _)) Hb6.out.lt).below hlva (by have := Hb6.out.lt; simpa using this)
 refine qg_ 78 _ _ rfl b6 (u64s (els [v69, v72, v75, v78])) _ 78 rfl (by first | rfl | (rw [qi_])) hO (by kernel_rfl) (by first | rfl | kernel_rfl) (qp_ _) ?_
 intro Y hY hgY
 have hsY : Sp.Upd Z13 Y [b6] := Sp.Upd.trans hsva (Sp.Upd.of_grown1 hgY) (fun k hk => .inl (by simp at hk; simp [hk]))
 refine hK.out _ _ hsY ?_
 clear hK
 try go_frame
 refine RL.done (by kernel_rfl) (fun Z14 hlZ14 hsZ14 => ?_)
 have Hb6 := ϕ (show Rg.Blk Z14 b6 78 (u64s (els [v69, v72, v75, v78])) from Rg.Blk.below hY hlZ14 hY.lt)
 have HB := ϕ (qt_ HB.out hsZ14 (fun k hk => by simp at hk; rw [hk]; exact Gb6.out) HB.out.size)
 clear hsY hY hgY hlva hsva hlZ14 hsZ14 hO
 go_wp2_with fail
 refine bodyPost_ret (v := .agg (u64s (els [v69, v72, v75, v78])))
  (results_cell_row results76 _ _ b6 78 _ (0, 0) _ rfl Hb6.out underlying78 rfl (by kernel_rfl)) rfl ?_
 exact ⟨rfl, HB.out⟩
theorem encP_0 {p : Pt} (h : p.x.val % 2 = 0) : toLe 32 p.y.val = enc p := by unfold enc encN; rw [h, Nat.mul_zero, Nat.add_zero]
theorem topP_lt (p : Pt) : p.y.val / 256 ^ 31 < 128 := Nat.div_lt_of_lt_mul (Nat.lt_of_lt_of_le (y_lt p.y) (by decide +kernel))
theorem encP_1 {p : Pt} (h : p.x.val % 2 = 1) : (toLe 32 p.y.val).set 31 (UInt8.ofNat (p.y.val / 256 ^ 31 + 128)) = enc p := by
 have ht := topP_lt p
 unfold enc encN
 rw [h, Nat.mul_one]
 generalize p.y.val = y at *
 apply List.ext_getElem?
 intro i
 by_cases hi : i < 32
 · rw [toLe_get 32 _ i hi]
   by_cases e : i = 31
   · subst e
     rw [List.getElem?_set_self (by rw [qy_]; omega)]
     congr 2
     rw [show (2 : Nat) ^ 255 = 128 * 256 ^ 31 from by decide +kernel, Nat.add_mul_div_right _ _ (Nat.pow_pos (by decide))]
     omega
   · rw [List.getElem?_set_ne (fun h => e h.symm), toLe_get 32 _ i hi]
     congr 2
     rw [show (2 : Nat) ^ 255 = 128 * 256 ^ (30 - i) * 256 * 256 ^ i from by
      rw [Nat.mul_assoc, Nat.mul_assoc, ← Nat.pow_succ', ← Nat.pow_add, show 30 - i + (i + 1) = 31 by omega]]
     rw [Nat.add_mul_div_right _ _ (Nat.pow_pos (by decide)), Nat.add_mul_mod_self_right]
 · rw [List.getElem?_eq_none (by rw [List.length_set, qy_]; omega), List.getElem?_eq_none (by rw [qy_]; omega)]
theorem or128 (x : UInt8) : bits .or .u8 (x.toNat : Int) 128 = ((x ||| 128).toNat : Int) := by
 have h := u8_or_nat x.toNat 128 x.toNat_lt (by decide)
 rw [show ((128 : Nat) : Int) = 128 from rfl] at h
 rw [h, UInt8.toNat_or]; rfl
theorem or128_of (n : Nat) (h : n < 128) : UInt8.ofNat n ||| 128 = UInt8.ofNat (n + 128) := by
 have : ∀ n : Fin 128, UInt8.ofNat n.val ||| 128 = UInt8.ofNat (n.val + 128) := by decide +kernel
 exact this ⟨n, h⟩
theorem encP_or {p : Pt} (h : p.x.val % 2 = 1) {x : UInt8} (hx : (toLe 32 p.y.val)[31]? = some x) : (toLe 32 p.y.val).set 31 (x ||| 128) = enc p := by
 have ht := topP_lt p
 rw [toLe_get 32 _ 31 (by decide)] at hx
 have h1 := Option.some.inj hx
 rw [Nat.mod_eq_of_lt (by omega)] at h1
 rw [← h1, or128_of _ ht]
 exact encP_1 h
theorem bytes_q {x y z t : E} {p : Pt} (hp : Rq p x y z t) : ∀ W : World, Calls prog 36 #[.agg (u64s (els [x, y, z, t]))] W fun e w' => e = .returned (.agg (Cv.bytesV (enc p))) ∧ Below W.heap.size W w' := by
 obtain ⟨X1, Y1, Z1, T1, ex1, ey1, ez1, et1, h1⟩ := hp
 have Ex := ϕ ex1
 have Ey := ϕ ey1
 have Ez := ϕ ez1
 have HEX := ϕ h1.r.x_eq
 have HEY := ϕ h1.r.y_eq
 clear ex1 ey1 ez1 et1 h1
 obtain ⟨v7, ev7, cv7⟩ := inv_e Ez.out
 have Ev7 := ϕ ev7
 have Cv7 := ϕ cv7
 clear ev7 cv7
 obtain ⟨v11, ev11, cv11⟩ := mul_e Ey.out Ev7.out
 have Ev11 := ϕ ev11
 have Cv11 := ϕ cv11
 clear ev11 cv11
 obtain ⟨v16, ev16, cv16⟩ := mul_e Ex.out Ev7.out
 have Ev16 := ϕ ev16
 have Cv16 := ϕ cv16
 clear ev16 cv16
 obtain ⟨v17, ev17, cv17⟩ := odd_e Ev16.out
 have Ev17 := ϕ ev17
 have Cv17 := ϕ cv17
 clear ev17 cv17
 have hby := bytes_e (HEY.out ▸ Ev11.out)
 obtain ⟨le, hle⟩ : ∃ l, enc p = l := exr
 obtain ⟨lb, hlb⟩ : ∃ l, toLe 32 p.y.val = l := exr
 have HLB := ϕ (show lb.length = 32 from hlb ▸ qy_ _ _)
 have HLE := ϕ (show le.length = 32 from hle ▸ jn_ p)
 rw [hlb] at hby
 rw [hle]
 have CBY := ϕ hby
 clear hby
 have HPX := ϕ (show (p.x.val % 2 == 1) = v17 from HEX.out ▸ Ev17.out)
 intro w
 cases v17 with
 | true =>
  have hpx := HPX.out
  rw [beq_iff_eq] at hpx
  obtain ⟨b31, hb31⟩ : ∃ b, lb[31]? = some b := ⟨_, List.getElem?_eq_getElem (by rw [HLB.out]; decide)⟩
  have HX31 := ϕ hb31
  have HENC := ϕ (show lb.set 31 (b31 ||| 128) = le from by rw [← hlb, ← hle]; exact encP_or hpx (hlb ▸ hb31))
  have OR31 := ϕ (or128 b31)
  clear hpx hb31 HPX hle hlb
  go_enter func36, ntmps36
  have tb0 := trivial
  go_upto_region 1 with (clear tb0; (with_reducible refine qd_ ?_); refine Rg.qh_ rfl 78 _ rfl (u64s (els [x, y, z, t])) (by first | rfl | (rw [qi_])) ?_; intro X1 hX hbX hnX; have J0 := ϕ hX; have K0 := ϕ hbX; have M0 := ϕ hnX; clear hX hbX hnX; have tb1 := trivial)
  clear tb1
  have HB := ϕ (Below.refl w.heap.size w)
  obtain ⟨b1, hb1⟩ : ∃ n, w.heap.size = n := exr
  have Hb1 := ϕ (show Rg.Blk X1 b1 78 (u64s (els [x, y, z, t])) from hb1 ▸ J0.out)
  have HB := ϕ (HB.out.trans (K0.out.mono HB.out.size))
  rw [hb1]
  clear hb1 J0 K0 M0
  obtain ⟨b2, hb2⟩ : ∃ n, X1.heap.size = n := exr
  have Gb2 := ϕ (show w.heap.size ≤ b2 from hb2 ▸ HB.out.size)
  have Hb1 := ϕ (Hb1.out.alloc (.cells z32 22))
  have Hb2 := ϕ (show Rg.Blk (X1.alloc (.cells z32 22)) b2 22 z32 from Rg.Blk.newAt hb2.symm _ _)
  have HB := ϕ (HB.out.alloc HB.out.size (.cells z32 22))
  rw [hb2]
  clear hb2
  generalize (X1.alloc (.cells z32 22)) = Y2 at *
  have tk3_0 := trivial
  go_upto_region 2 with (first
   | (clear tk3_0; (with_reducible refine qd_ ?_); refine lxA (u64s z.l) (qe_ (Hb1.out) 2 10 z rfl rfl (by simp)) ?_; have tk3_1 := trivial)
   | (clear tk3_1; go_at_call 70; refine (Cv7.out Y2).mono ?_; rintro e W4 ⟨rfl, hb9⟩; have Hb1 := bl Hb1 hb9; have Hb2 := bl Hb2 hb9; have HB := tm HB hb9; clear hb9; have tk3_2 := trivial)
   | (clear tk3_2; refine Rg.qf_ rfl 76 _ _ rfl (u64s (els [v7])) _ 76 rfl (by first | rfl | (rw [qi_])) (by kernel_rfl) (by first | rfl | kernel_rfl) (qp_ _) ?_; intro X5 hX hbX; obtain ⟨b3, hb3⟩ : ∃ n, W4.heap.size = n := exr; have Hb1 := bl Hb1 hbX; have Hb2 := bl Hb2 hbX; have Hb3 := ϕ (show Rg.Blk X5 b3 76 (u64s (els [v7])) from hb3 ▸ hX); have HB := tm HB hbX; rw [hb3]; clear hb3 hX hbX; have tk3_3 := trivial))
  clear tk3_3
  have tk6_0 := trivial
  go_upto_region 3 with (first
   | (clear tk6_0; (with_reducible refine qd_ ?_); refine lxA (u64s y.l) (qe_ (Hb1.out) 1 5 y rfl rfl (by simp)) ?_; have tk6_1 := trivial)
   | (clear tk6_1; (with_reducible refine qd_ ?_); refine lxA (u64s v7.l) (qe_ (Hb3.out) 0 0 v7 rfl rfl (by simp)) ?_; have tk6_2 := trivial)
   | (clear tk6_2; go_at_call 69; refine (Cv11.out X5).mono ?_; rintro e W7 ⟨rfl, hb9⟩; have Hb1 := bl Hb1 hb9; have Hb2 := bl Hb2 hb9; have Hb3 := bl Hb3 hb9; have HB := tm HB hb9; clear hb9; have tk6_3 := trivial)
   | (clear tk6_3; go_at_call 78; refine (CBY.out W7).mono ?_; rintro e W8 ⟨rfl, hb9⟩; have Hb1 := bl Hb1 hb9; have Hb2 := bl Hb2 hb9; have Hb3 := bl Hb3 hb9; have HB := tm HB hb9; clear hb9; have tk6_4 := trivial)
   | (clear tk6_4; refine Rg.qf_ rfl 22 _ _ rfl (Cv.bytesV lb) _ 22 rfl (by first | rfl | (rw [qi_])) (by rw [Cv.qa_, HLB.out]; kernel_rfl) (by rw [Cv.qa_, HLB.out]; rfl) (Cv.qk_ _) ?_; intro X9 hX hbX; obtain ⟨b4, hb4⟩ : ∃ n, W8.heap.size = n := exr; have Gb4 := ϕ (show w.heap.size ≤ b4 from hb4 ▸ HB.out.size); have Nb2_b4 := ϕ (show ¬ b2 = b4 from by have h1 := Hb2.out.lt; omega); have Nb4_b2 := ϕ (fun e : b4 = b2 => Nb2_b4.out e.symm); have Hb1 := bl Hb1 hbX; have Hb2 := bl Hb2 hbX; have Hb3 := bl Hb3 hbX; have Hb4 := ϕ (show Rg.Blk X9 b4 22 (Cv.bytesV lb) from hb4 ▸ hX); have HB := tm HB hbX; rw [hb4]; clear hb4 hX hbX; have tk6_5 := trivial))
  clear tk6_5
  have tk10_0 := trivial
  go_upto_region 4 with (first
   | (clear tk10_0; (with_reducible refine qd_ ?_); refine lxA (u64s x.l) (qe_ (Hb1.out) 0 0 x rfl rfl (by simp)) ?_; have tk10_1 := trivial)
   | (clear tk10_1; (with_reducible refine qd_ ?_); refine lxA (u64s v7.l) (qe_ (Hb3.out) 0 0 v7 rfl rfl (by simp)) ?_; have tk10_2 := trivial)
   | (clear tk10_2; go_at_call 69; refine (Cv16.out X9).mono ?_; rintro e W11 ⟨rfl, hb9⟩; have Hb1 := bl Hb1 hb9; have Hb2 := bl Hb2 hb9; have Hb3 := bl Hb3 hb9; have Hb4 := bl Hb4 hb9; have HB := tm HB hb9; clear hb9; have tk10_3 := trivial)
   | (clear tk10_3; go_at_call 79; refine (Cv17.out W11).mono ?_; rintro e W12 ⟨rfl, hb9⟩; have Hb1 := bl Hb1 hb9; have Hb2 := bl Hb2 hb9; have Hb3 := bl Hb3 hb9; have Hb4 := bl Hb4 hb9; have HB := tm HB hb9; clear hb9; have tk10_4 := trivial))
  clear tk10_4
  have x31 := Hb4.out.cell 31 (Cv.jb_ _ _ _ HX31.out)
  have o31 := OR31.out
  go_upto_region 5 with ((with_reducible refine qd_ ?_); refine Cv.store_byte rfl 5 _ _ rfl (b := b4) (j := 31) (l := lb) (v := b31 ||| 128) rfl rfl underlying5 (by kernel_rfl) Hb4.out (by rw [HLB.out]; decide) ?_; intro Vx hV hgV; have Hb2 := ϕ (qb_ Hb2.out hgV Nb4_b2.out); have Hb4 := ϕ (HENC.out ▸ hV); have HB := ϕ (HB.out.grown hgV HB.out.size (fun j e => by cases e; exact Gb4.out)); clear hV hgV)
  clear x31 o31
  have tk13_0 := trivial
  go_wp2_with (first
   | (clear tk13_0; (with_reducible refine qd_ ?_); refine Cv.qn_ rfl 22 _ rfl b4 0 rfl (Cv.bytesV le) _ (fun j v hv => by rw [Nat.zero_add]; exact Rg.Blk.cell (Hb4.out) j hv) underlying22 rfl (by rw [Cv.qa_, HLE.out]; kernel_rfl) ?_; have tk13_1 := trivial)
   | (clear tk13_1; (with_reducible refine qd_ ?_); refine Cv.qu_ rfl 22 _ _ rfl b2 (Cv.bytesV le) z32 22 rfl (by first | rfl | (rw [qi_])) Hb2.out (by rw [Cv.qa_, HLE.out]; kernel_rfl) (by rw [Cv.qa_, HLE.out]; rfl) (Cv.qk_ _) ?_; intro X14 hV hgV; have Hb2 := ϕ hV; have HB := ϕ (HB.out.grown hgV HB.out.size (fun j e => by cases e; exact Gb2.out)); clear hV hgV; have tk13_2 := trivial))
  clear tk13_2
  refine bodyPost_ret (v := .agg (Cv.bytesV le))
   (results_cell_row results36 _ _ b2 22 _ (0, 0) _ rfl Hb2.out underlying22 rfl (by rw [Cv.qa_, HLE.out]; kernel_rfl)) rfl ?_
  exact ⟨rfl, HB.out⟩
 | false =>
  have hpx := HPX.out
  rw [beq_eq_false_iff_ne] at hpx
  have HENC := ϕ (show lb = le from by rw [← hlb, ← hle]; exact encP_0 (p := p) (by omega))
  clear hpx HPX hle hlb
  go_enter func36, ntmps36
  have tb0 := trivial
  go_upto_region 1 with (clear tb0; (with_reducible refine qd_ ?_); refine Rg.qh_ rfl 78 _ rfl (u64s (els [x, y, z, t])) (by first | rfl | (rw [qi_])) ?_; intro X1 hX hbX hnX; have J0 := ϕ hX; have K0 := ϕ hbX; have M0 := ϕ hnX; clear hX hbX hnX; have tb1 := trivial)
  clear tb1
  have HB := ϕ (Below.refl w.heap.size w)
  obtain ⟨b1, hb1⟩ : ∃ n, w.heap.size = n := exr
  have Hb1 := ϕ (show Rg.Blk X1 b1 78 (u64s (els [x, y, z, t])) from hb1 ▸ J0.out)
  have HB := ϕ (HB.out.trans (K0.out.mono HB.out.size))
  rw [hb1]
  clear hb1 J0 K0 M0
  obtain ⟨b2, hb2⟩ : ∃ n, X1.heap.size = n := exr
  have Gb2 := ϕ (show w.heap.size ≤ b2 from hb2 ▸ HB.out.size)
  have Hb1 := ϕ (Hb1.out.alloc (.cells z32 22))
  have Hb2 := ϕ (show Rg.Blk (X1.alloc (.cells z32 22)) b2 22 z32 from Rg.Blk.newAt hb2.symm _ _)
  have HB := ϕ (HB.out.alloc HB.out.size (.cells z32 22))
  rw [hb2]
  clear hb2
  generalize (X1.alloc (.cells z32 22)) = Y2 at *
  have tk3_0 := trivial
  go_upto_region 2 with (first
   | (clear tk3_0; (with_reducible refine qd_ ?_); refine lxA (u64s z.l) (qe_ (Hb1.out) 2 10 z rfl rfl (by simp)) ?_; have tk3_1 := trivial)
   | (clear tk3_1; go_at_call 70; refine (Cv7.out Y2).mono ?_; rintro e W4 ⟨rfl, hb9⟩; have Hb1 := bl Hb1 hb9; have Hb2 := bl Hb2 hb9; have HB := tm HB hb9; clear hb9; have tk3_2 := trivial)
   | (clear tk3_2; refine Rg.qf_ rfl 76 _ _ rfl (u64s (els [v7])) _ 76 rfl (by first | rfl | (rw [qi_])) (by kernel_rfl) (by first | rfl | kernel_rfl) (qp_ _) ?_; intro X5 hX hbX; obtain ⟨b3, hb3⟩ : ∃ n, W4.heap.size = n := exr; have Hb1 := bl Hb1 hbX; have Hb2 := bl Hb2 hbX; have Hb3 := ϕ (show Rg.Blk X5 b3 76 (u64s (els [v7])) from hb3 ▸ hX); have HB := tm HB hbX; rw [hb3]; clear hb3 hX hbX; have tk3_3 := trivial))
  clear tk3_3
  have tk6_0 := trivial
  go_upto_region 3 with (first
   | (clear tk6_0; (with_reducible refine qd_ ?_); refine lxA (u64s y.l) (qe_ (Hb1.out) 1 5 y rfl rfl (by simp)) ?_; have tk6_1 := trivial)
   | (clear tk6_1; (with_reducible refine qd_ ?_); refine lxA (u64s v7.l) (qe_ (Hb3.out) 0 0 v7 rfl rfl (by simp)) ?_; have tk6_2 := trivial)
   | (clear tk6_2; go_at_call 69; refine (Cv11.out X5).mono ?_; rintro e W7 ⟨rfl, hb9⟩; have Hb1 := bl Hb1 hb9; have Hb2 := bl Hb2 hb9; have Hb3 := bl Hb3 hb9; have HB := tm HB hb9; clear hb9; have tk6_3 := trivial)
   | (clear tk6_3; go_at_call 78; refine (CBY.out W7).mono ?_; rintro e W8 ⟨rfl, hb9⟩; have Hb1 := bl Hb1 hb9; have Hb2 := bl Hb2 hb9; have Hb3 := bl Hb3 hb9; have HB := tm HB hb9; clear hb9; have tk6_4 := trivial)
   | (clear tk6_4; refine Rg.qf_ rfl 22 _ _ rfl (Cv.bytesV lb) _ 22 rfl (by first | rfl | (rw [qi_])) (by rw [Cv.qa_, HLB.out]; kernel_rfl) (by rw [Cv.qa_, HLB.out]; rfl) (Cv.qk_ _) ?_; intro X9 hX hbX; obtain ⟨b4, hb4⟩ : ∃ n, W8.heap.size = n := exr; have Hb1 := bl Hb1 hbX; have Hb2 := bl Hb2 hbX; have Hb3 := bl Hb3 hbX; have Hb4 := ϕ (show Rg.Blk X9 b4 22 (Cv.bytesV lb) from hb4 ▸ hX); have HB := tm HB hbX; rw [hb4]; clear hb4 hX hbX; have tk6_5 := trivial))
  clear tk6_5
  have tk10_0 := trivial
  go_upto_region 5 with (first
   | (clear tk10_0; (with_reducible refine qd_ ?_); refine lxA (u64s x.l) (qe_ (Hb1.out) 0 0 x rfl rfl (by simp)) ?_; have tk10_1 := trivial)
   | (clear tk10_1; (with_reducible refine qd_ ?_); refine lxA (u64s v7.l) (qe_ (Hb3.out) 0 0 v7 rfl rfl (by simp)) ?_; have tk10_2 := trivial)
   | (clear tk10_2; go_at_call 69; refine (Cv16.out X9).mono ?_; rintro e W11 ⟨rfl, hb9⟩; have Hb1 := bl Hb1 hb9; have Hb2 := bl Hb2 hb9; have Hb3 := bl Hb3 hb9; have Hb4 := bl Hb4 hb9; have HB := tm HB hb9; clear hb9; have tk10_3 := trivial)
   | (clear tk10_3; go_at_call 79; refine (Cv17.out W11).mono ?_; rintro e W12 ⟨rfl, hb9⟩; have Hb1 := bl Hb1 hb9; have Hb2 := bl Hb2 hb9; have Hb3 := bl Hb3 hb9; have Hb4 := bl Hb4 hb9; have HB := tm HB hb9; clear hb9; have tk10_4 := trivial))
  clear tk10_4
  replace Hb4 := ϕ (HENC.out ▸ Hb4.out)
  have tk13_0 := trivial
  go_wp2_with (first
   | (clear tk13_0; (with_reducible refine qd_ ?_); refine Cv.qn_ rfl 22 _ rfl b4 0 rfl (Cv.bytesV le) _ (fun j v hv => by rw [Nat.zero_add]; exact Rg.Blk.cell (Hb4.out) j hv) underlying22 rfl (by rw [Cv.qa_, HLE.out]; kernel_rfl) ?_; have tk13_1 := trivial)
   | (clear tk13_1; (with_reducible refine qd_ ?_); refine Cv.qu_ rfl 22 _ _ rfl b2 (Cv.bytesV le) z32 22 rfl (by first | rfl | (rw [qi_])) Hb2.out (by rw [Cv.qa_, HLE.out]; kernel_rfl) (by rw [Cv.qa_, HLE.out]; rfl) (Cv.qk_ _) ?_; intro X14 hV hgV; have Hb2 := ϕ hV; have HB := ϕ (HB.out.grown hgV HB.out.size (fun j e => by cases e; exact Gb2.out)); clear hV hgV; have tk13_2 := trivial))
  clear tk13_2
  refine bodyPost_ret (v := .agg (Cv.bytesV le))
   (results_cell_row results36 _ _ b2 22 _ (0, 0) _ rfl Hb2.out underlying22 rfl (by rw [Cv.qa_, HLE.out]; kernel_rfl)) rfl ?_
  exact ⟨rfl, HB.out⟩
section
variable {P : Program}
theorem info_part {i0 : Option TypeInfo} {z : Option Value} {s b : Nat} (h : i0.map (fun i => (i.zero, i.size, i.bytes)) = some (z, s, b)) : ∃ i, i0 = some i ∧ i.zero = z ∧ i.size = s ∧ i.bytes = b := by
 cases i0 with
 | none => cases h
 | some i => simp only [Option.map_some, Option.some.injEq, Prod.mk.injEq] at h; exact ⟨i, rfl, h.1, h.2.1, h.2.2⟩
theorem store_one_op {o : Oper} {a : Act} {w : World} {K : Act → World → Prop} {Q : Exit → Act → World → Prop} (ty : TypeId) (x y : Operand) (ho : o.op = .store ty x y)
 (b off : Nat) (v : Value) (cs : Array Value) (T : TypeId) (hx : a.eval x = .pointer (some ⟨b, off, none⟩)) (hy : a.eval y = v) (hv : v.cells = #[v]) (hB : Rg.Blk w b T cs)
 (hi : (P.info? ty).map (·.size) = some 1) (hs : off < cs.size) (h1 : v.oneCell' = true)
 (h : ∀ X, Rg.Blk X b T (cs.setIfInBounds off v) → w.grownBy X (some b) → K (a.put o.dst undef) X) : Oper.wp P o a w K Q := by
 have hst := run_storeCells_at (P := P) b off T [v] 0 cs w hB (by simp; omega) (fun u hu => by rw [List.mem_singleton.1 hu]; exact h1)
 have hn : (cs.toList.take (off + 0) ++ [v] ++ cs.toList.drop (off + 0 + [v].length)).toArray = cs.setIfInBounds off v := by
  apply Array.toList_inj.1
  rw [Array.toList_setIfInBounds]
  simp only [Nat.add_zero, List.length_singleton]
  rw [List.set_eq_take_append_cons_drop, if_pos (by simpa using hs)]
  simp
 rw [hn] at hst
 unfold Oper.wp execOp
 cases hq : P.info? ty with
 | none => simp [hq] at hi
 | some i =>
  have hsz : i.size = 1 := by simpa [hq] using hi
  have hsv : (storeVar ty ⟨b, off, none⟩ v).run P w = .ok () (w.setRow b (cs.setIfInBounds off v)) := by
   simp [storeVar, sizeOf, typeInfo, hq, hv, hsz, hst]
  simp only [ho, hx, hy, Instr.storeAt, Instr.sureAddr, Sem.run_bind, Sem.run_pure, Result.andThen_ok, hsv]
  exact h _ hB.setRow ⟨rfl, rfl, rfl, by simp, fun k _ hk => setRow_other w b k _ (fun e => hk (congrArg some e))⟩
theorem store_one {ops : Array Oper} {rest : List Oper} {o : Oper} {a : Act} {w : World} {Q : Exit → Act → World → Prop} (hgd : o.guard = none) (ty : TypeId) (x y : Operand) (ho : o.op = .store ty x y)
 (b off : Nat) (v : Value) (cs : Array Value) (T : TypeId) (hx : a.eval x = .pointer (some ⟨b, off, none⟩)) (hy : a.eval y = v) (hv : v.cells = #[v]) (hB : Rg.Blk w b T cs)
 (hi : (P.info? ty).map (·.size) = some 1) (hs : off < cs.size) (h1 : v.oneCell' = true)
 (h : ∀ X, Rg.Blk X b T (cs.setIfInBounds off v) → w.grownBy X (some b) → wpList P ops Q rest (a.put o.dst undef) X) : wpList P ops Q (o :: rest) a w :=
 wpList_plain hgd fun _ hK => store_one_op ty x y ho b off v cs T hx hy hv hB hi hs h1 fun X h1 h2 => hK _ _ (h X h1 h2)
end
def bitB (l : List UInt8) (i : Nat) : Bool := (((l.getD (i / 8) 0).toNat / 2 ^ (i % 8) % 2 : Nat) : Int) == 1
def bitsTo (l : List UInt8) (k : Nat) : List Bool := (List.range 256).map fun i => decide (i < k) && bitB l i
def bools (L : List Bool) : Array Value := (L.map Value.bool).toArray
theorem bools_size (L : List Bool) : (bools L).size = L.length := by unfold bools; simp
theorem bitsTo_len (l : List UInt8) (k : Nat) : (bitsTo l k).length = 256 := by unfold bitsTo; simp
theorem bools_set (L : List Bool) (j : Nat) (b : Bool) : (bools L).setIfInBounds j (.bool b) = bools (L.set j b) := by unfold bools; simp [List.map_set]
theorem bools_get {L : List Bool} {j : Nat} {b : Bool} (h : L[j]? = some b) : (bools L)[j]? = some (.bool b) := by unfold bools; simp [h]
theorem bitsTo_set (l : List UInt8) (k : Nat) (h : k < 256) : (bitsTo l k).set k (bitB l k) = bitsTo l (k + 1) := by
 apply List.ext_getElem?
 intro i
 by_cases e : i = k
 · subst e
   rw [List.getElem?_set_self (by rw [bitsTo_len]; exact h)]
   unfold bitsTo
   rw [List.getElem?_map, List.getElem?_range h]
   simp
 · rw [List.getElem?_set_ne (fun h => e h.symm)]
   unfold bitsTo
   rw [List.getElem?_map, List.getElem?_map]
   by_cases hi : i < 256
   · rw [List.getElem?_range hi]
     simp only [Option.map_some]
     congr 2
     by_cases h2 : i < k
     · rw [decide_eq_true h2, decide_eq_true (by omega)]
     · rw [decide_eq_false h2, decide_eq_false (by omega)]
   · rw [List.getElem?_eq_none (by simp; omega)]; rfl
theorem bitsTo_get (l : List UInt8) {i : Nat} (h : i < 256) : (bitsTo l 256)[i]? = some (bitB l i) := by
 unfold bitsTo
 rw [List.getElem?_map, List.getElem?_range h]
 simp [h]
theorem bits_made (l : List UInt8) : madeCells (Value.bool false).cells (256 * 1) = bools (bitsTo l 0) := by
 unfold madeCells bools bitsTo
 apply Array.toList_inj.1
 apply List.ext_getElem?
 intro j
 by_cases hj : j < 256
 · simp [Value.cells, hj, Nat.mod_one]
 · simp [Value.cells, hj]
theorem Bits_any (w : World) (l : List UInt8) (hl : l.length = 32) : Calls prog 75 #[.agg (Cv.bytesV l)] w fun e w' => (∃ g, w.heap.size ≤ g ∧ e = .returned (.slice (some ⟨g, 0, none⟩) 256 256) ∧ Rg.Blk w' g 4 (bools (bitsTo l 256))) ∧ Below w.heap.size w w' := by
 have HL := ϕ hl
 have hmk : ∀ W : World, (Instr.makeSlice 34 (.int .i64 256) (.int .i64 256)).run prog W = .ok (.slice (some ⟨W.heap.size, 0, none⟩) 256 256) (W.alloc (.cells (bools (bitsTo l 0)) 4)) := fun W => by
  obtain ⟨i, hi, hz, hs, hb⟩ := info_part (show (prog.info? 4).map (fun i => (i.zero, i.size, i.bytes)) = some (some (.bool false), 1, 1) by kernel_rfl)
  have h := run_makeSlice (P := prog) (w := W) 34 4 i (.bool false) underlying34 hi hz .i64 .i64 256 256 (by decide) (by decide) (by rw [hs]; decide) (by rw [hb]; decide) (by decide)
  rw [hs, show (256 : Int).toNat = 256 from rfl, bits_made l] at h
  exact h
 clear hl
 go_enter func75, ntmps75
 go_upto_region 1 with ((with_reducible refine qd_ ?_); refine Rg.qh_ rfl 22 _ rfl (Cv.bytesV l) rfl ?_; intro X hX hbX hnX; have HX := ϕ hX; have HBX := ϕ hbX; clear hX hbX hnX)
 obtain ⟨sb, hsb⟩ : ∃ n, w.heap.size = n := exr
 have HSB := ϕ hsb
 have HX := ϕ (hsb ▸ HX.out)
 try rw [hsb]
 clear hsb
 go_upto_region 2 with fail
 obtain ⟨g, hg⟩ : ∃ n, X.heap.size = n := exr
 have HG := ϕ (show w.heap.size ≤ g ∧ sb ≠ g from by have h1 := HBX.out.size; have h2 := HX.out.lt; omega)
 have HK := ϕ (show Rg.Blk (X.alloc (.cells (bools (bitsTo l 0)) 4)) g 4 (bools (bitsTo l 0)) from Rg.Blk.newAt hg.symm _ _)
 have HS := ϕ (show Rg.Blk (X.alloc (.cells (bools (bitsTo l 0)) 4)) sb 22 (Cv.bytesV l) from HX.out.alloc _)
 have HB := ϕ (show Below w.heap.size w (X.alloc (.cells (bools (bitsTo l 0)) 4)) from HBX.out.alloc HBX.out.size _)
 try rw [hg]
 clear hmk hg HX HBX
 generalize X.alloc (.cells (bools (bitsTo l 0)) 4) = Y at *
 go_upto_region 3 with fail
 go_loopw [8] (fun i wr => ∃ k : Nat, k ≤ 256 ∧ i = .int .i64 k ∧ Rg.Blk wr g 4 (bools (bitsTo l k)) ∧ Rg.Blk wr sb 22 (Cv.bytesV l) ∧ Below w.heap.size w wr) (fun i _ => 256 - (intOf i).toNat)
 case atStart => exact ⟨0, Nat.zero_le _, rfl, HK.out, HS.out, HB.out⟩
 case round =>
  obtain ⟨k, hk, rfl, hkk, hs, hb⟩ := hrel
  clear HK HS HB
  have HK := ϕ hkk
  have HS := ϕ hs
  have HB := ϕ hb
  clear hkk hs hb
  by_cases hk5 : k < 256
  · have hki : (k : Int) < 256 := by omega
    have hk0 : (0 : Int) ≤ k := by omega
    have hd : decide ((k : Int) < 256) = true := by simp; exact hki
    obtain ⟨q, hq⟩ : ∃ q, k / 8 = q := exr
    obtain ⟨r, hr⟩ : ∃ r, k % 8 = r := exr
    have hq32 : q < 32 := by omega
    have hqz : (q : Int) < 32 := by omega
    have hq0 : (0 : Int) ≤ q := by omega
    have hr0 : (0 : Int) ≤ r := by omega
    have hr64 : min r 8 = r := by omega
    have eq1 : IntKind.i64.wrap ((k : Int) / 8) = (q : Int) := by rw [show (k : Int) / 8 = (q : Int) by omega]; exact wrapI (by omega)
    have er : (k : Int).tmod 8 = (r : Int) := by rw [Int.tmod_eq_emod_of_nonneg (by omega)]; omega
    obtain ⟨b, hb⟩ : ∃ b : UInt8, l.getD q 0 = b := exr
    have cb := HS.out.cell q (Cv.jb_ l q b (by rw [← hb, List.getD_eq_getElem?_getD, List.getElem?_eq_getElem (by rw [HL.out]; exact hq32)]; rfl))
    obtain ⟨bn, hbn⟩ : ∃ n, b.toNat = n := exr
    have hb256 : bn < 256 := by rw [← hbn]; exact b.toNat_lt
    rw [hbn] at cb
    obtain ⟨c, hc⟩ : ∃ c, bn / 2 ^ r = c := exr
    have hc256 : c < 256 := by rw [← hc]; exact Nat.lt_of_le_of_lt (Nat.div_le_self _ _) hb256
    have esr : (bn : Int) / 2 ^ r = (c : Int) := by rw [← hc]; simp
    obtain ⟨d, hd2⟩ : ∃ d, c % 2 = d := exr
    have ean : bits .and .u8 (c : Int) 1 = (d : Int) := by rw [← hd2, ← Nat.and_one_is_mod]; exact u8_and_nat c 1 hc256 (by decide)
    obtain ⟨is, his⟩ : ∃ t, ((d : Int) == 1) = t := exr
    have HBI := ϕ (show bitB l k = is from by
     rw [← his, ← hd2, ← hc, ← hbn, ← hb, ← hq, ← hr]; rfl)
    have HST := ϕ (show (bitsTo l k).set k is = bitsTo l (k + 1) from by rw [← HBI.out]; exact bitsTo_set l k hk5)
    have HSZ := ϕ (show k < (bools (bitsTo l k)).size from by rw [bools_size, bitsTo_len]; exact hk5)
    clear hb hbn hb256 hc hc256 hd2 hq hr hq32 HBI
    go_upto_region 6 with ((with_reducible refine qd_ ?_); refine store_one rfl 4 _ _ rfl g k (.bool is) (bools (bitsTo l k)) 4 rfl rfl rfl HK.out (by kernel_rfl) HSZ.out rfl ?_; intro V hV hgV; have HK2 := ϕ (show Rg.Blk V g 4 (bools (bitsTo l (k + 1))) from by rw [← HST.out, ← bools_set]; exact hV); have HS2 := ϕ (qb_ HS.out hgV (fun e => HG.out.2 e.symm)); have HB2 := ϕ (HB.out.grown hgV HB.out.size (fun j e => by cases e; exact HG.out.1)); clear hV hgV)
    go_wp2_with fail
    go_roundw
    case rel =>
     have REL := ϕ (show ∃ k' : Nat, k' ≤ 256 ∧ Value.int .i64 ((k : Int) + 1) = .int .i64 k' ∧ Rg.Blk V g 4 (bools (bitsTo l k')) ∧ Rg.Blk V sb 22 (Cv.bytesV l) ∧ Below w.heap.size w V from ⟨k + 1, hk5, rfl, HK2.out, HS2.out, HB2.out⟩)
     first
      | exact REL.out
      | ((repeat apply Exists.intro); refine ⟨?_, rfl⟩; exact REL.out)
    case measure => (first | (simp [intOf]; done) | (simp [intOf]; omega))
  · obtain rfl : k = 256 := by omega
    have hd : decide (((256 : Nat) : Int) < 256) = false := by simp
    go_wp2_with fail
    go_ret
    exact ⟨⟨g, HG.out.1, rfl, HK.out⟩, HB.out⟩
end Kx
namespace Au
open Go.RowKit Go.Proofs.YtciibogkfbicfaaGreatDoor.Wi Go.Proofs.YtciibogkfbicfaaGreatDoor.Ow Go.Proofs.YtciibogkfbicfaaGreatDoor.Be Go.Proofs.YtciibogkfbicfaaGreatDoor.Bl Go.Proofs.YtciibogkfbicfaaGreatDoor.Cv Go.Proofs.YtciibogkfbicfaaGreatDoor.Kx
def failV (g2 g3 : Nat) : Array Value := #[.int .i64 51, .slice none 0 0, .slice none 0 0, .slice (some ⟨g2, 0, none⟩) 1 1, .slice (some ⟨g3, 0, none⟩) 1 1]
end Au
namespace Kx
open Go.RowKit Go.Proofs.YtciibogkfbicfaaGreatDoor.Cl Go.Proofs.YtciibogkfbicfaaGreatDoor.Ed
def wd (l : List UInt8) (i : Nat) : Nat := leN l / 2 ^ (32 * i) % 2 ^ 32
theorem four (N a b c d : Nat) (ha : N % 256 = a) (hb : N / 256 % 256 = b) (hc : N / 65536 % 256 = c) (hd : N / 16777216 % 256 = d) : N % 4294967296 = a + b * 256 + c * 65536 + d * 16777216 := by omega
theorem wd_is (l : List UInt8) {i : Nat} {a b c d : UInt8} (ha : l[4 * i]? = some a) (hb : l[4 * i + 1]? = some b) (hc : l[4 * i + 2]? = some c) (hd : l[4 * i + 3]? = some d) : wd l i = a.toNat + b.toNat * 256 + c.toNat * 65536 + d.toNat * 16777216 := by
 have g : ∀ (j : Nat) (x : UInt8), l[j]? = some x → leN l / 256 ^ j % 256 = x.toNat := fun j x h => by
  obtain ⟨hj, e⟩ := List.getElem?_eq_some_iff.1 h
  rw [leN_byte l j hj, e]
 unfold wd
 rw [show (2 : Nat) ^ 32 = 4294967296 from rfl, Nat.pow_mul, show (2 : Nat) ^ 32 = 256 ^ 4 from rfl, ← Nat.pow_mul]
 refine four _ _ _ _ _ (g _ _ ha) ?_ ?_ ?_
 · rw [Nat.div_div_eq_div_mul, show 256 ^ (4 * i) * 256 = 256 ^ (4 * i + 1) from rfl]; exact g _ _ hb
 · rw [Nat.div_div_eq_div_mul, show 256 ^ (4 * i) * 65536 = 256 ^ (4 * i + 2) from by rw [Nat.pow_add]]; exact g _ _ hc
 · rw [Nat.div_div_eq_div_mul, show 256 ^ (4 * i) * 16777216 = 256 ^ (4 * i + 3) from by rw [Nat.pow_add]]; exact g _ _ hd
theorem or_sh {a b k : Nat} (h : a < 2 ^ k) : a ||| b * 2 ^ k = a + b * 2 ^ k := by
 rw [Nat.or_comm, ← Nat.shiftLeft_eq, ← Nat.shiftLeft_add_eq_or_of_lt h, Nat.shiftLeft_eq, Nat.add_comm]
theorem u64_or {a b k c : Nat} (h : a < 2 ^ k) (hb : b * 2 ^ k < 18446744073709551616) (hc : a + b * 2 ^ k = c) (ha : a < 18446744073709551616) : bits .or .u64 (a : Int) ((b * 2 ^ k : Nat) : Int) = (c : Int) := by
 rw [u64_or_nat a _ ha hb, or_sh h, hc]
theorem word_any (w : World) (l : List UInt8) (hl : l.length = 32) (i : Nat) (hi : i < 8) : Calls prog 81 #[.agg (Cv.bytesV l), .int .i64 i] w fun e w' => e = .returned (.int .u64 (wd l i : Nat)) ∧ Below w.heap.size w w' := by
 have g : ∀ j, j < 32 → ∃ x, l[j]? = some x := fun j h => ⟨_, List.getElem?_eq_getElem (by omega)⟩
 obtain ⟨a, ha⟩ := g (4 * i) (by omega)
 obtain ⟨b, hb⟩ := g (4 * i + 1) (by omega)
 obtain ⟨c, hc⟩ := g (4 * i + 2) (by omega)
 obtain ⟨d, hd⟩ := g (4 * i + 3) (by omega)
 have hw := wd_is l ha hb hc hd
 obtain ⟨q0, hq0⟩ : ∃ q, 4 * i = q := exr
 obtain ⟨q1, hq1⟩ : ∃ q, 4 * i + 1 = q := exr
 obtain ⟨q2, hq2⟩ : ∃ q, 4 * i + 2 = q := exr
 obtain ⟨q3, hq3⟩ : ∃ q, 4 * i + 3 = q := exr
 rw [hq0] at ha; rw [hq1] at hb; rw [hq2] at hc; rw [hq3] at hd
 have ba := a.toNat_lt
 have bb := b.toNat_lt
 have bc := c.toNat_lt
 have bd := d.toNat_lt
 have hca := Cv.jb_ l _ _ ha
 have hcb := Cv.jb_ l _ _ hb
 have hcc := Cv.jb_ l _ _ hc
 have hcd := Cv.jb_ l _ _ hd
 generalize a.toNat = na at *
 generalize b.toNat = nb at *
 generalize c.toNat = nc at *
 generalize d.toNat = nd at *
 have HC0 := ϕ hca
 have HC1 := ϕ hcb
 have HC2 := ϕ hcc
 have HC3 := ϕ hcd
 obtain ⟨s1, hs1⟩ : ∃ x, na + nb * 256 = x := exr
 obtain ⟨s2, hs2⟩ : ∃ x, s1 + nc * 65536 = x := exr
 obtain ⟨s3, hs3⟩ : ∃ x, s2 + nd * 16777216 = x := exr
 have HW := ϕ (show wd l i = s3 from by omega)
 have HE := ϕ (show (IntKind.i64.wrap (4 * (i : Int)) = (q0 : Int) ∧ IntKind.i64.wrap ((q0 : Int) + 1) = (q1 : Int) ∧ IntKind.i64.wrap ((q0 : Int) + 2) = (q2 : Int) ∧ IntKind.i64.wrap ((q0 : Int) + 3) = (q3 : Int)) ∧
  ((q0 : Int) < 32 ∧ (q1 : Int) < 32 ∧ (q2 : Int) < 32 ∧ (q3 : Int) < 32 ∧ (0 : Int) ≤ q0 ∧ (0 : Int) ≤ q1 ∧ (0 : Int) ≤ q2 ∧ (0 : Int) ≤ q3) ∧
  (IntKind.u64.wrap (na : Int) = (na : Int) ∧ IntKind.u64.wrap (nb : Int) = (nb : Int) ∧ IntKind.u64.wrap (nc : Int) = (nc : Int) ∧ IntKind.u64.wrap (nd : Int) = (nd : Int)) ∧
  (IntKind.u64.wrap ((nb : Int) * 256) = ((nb * 2 ^ 8 : Nat) : Int) ∧ IntKind.u64.wrap ((nc : Int) * 65536) = ((nc * 2 ^ 16 : Nat) : Int) ∧ IntKind.u64.wrap ((nd : Int) * 16777216) = ((nd * 2 ^ 24 : Nat) : Int)) ∧
  (bits .or .u64 (na : Int) ((nb * 2 ^ 8 : Nat) : Int) = (s1 : Int) ∧ bits .or .u64 (s1 : Int) ((nc * 2 ^ 16 : Nat) : Int) = (s2 : Int) ∧ bits .or .u64 (s2 : Int) ((nd * 2 ^ 24 : Nat) : Int) = (s3 : Int)) from by
  refine ⟨⟨?_, ?_, ?_, ?_⟩, ⟨?_, ?_, ?_, ?_, ?_, ?_, ?_, ?_⟩, ⟨?_, ?_, ?_, ?_⟩, ⟨?_, ?_, ?_⟩, ⟨?_, ?_, ?_⟩⟩
  all_goals first
   | omega
   | (rw [IntKind.wrap_u64]; omega)
   | (rw [show (4 * (i : Int)) = ((q0 : Nat) : Int) by omega]; exact wrapI (by omega))
   | (rw [show (q0 : Int) + 1 = ((q1 : Nat) : Int) by omega]; exact wrapI (by omega))
   | (rw [show (q0 : Int) + 2 = ((q2 : Nat) : Int) by omega]; exact wrapI (by omega))
   | (rw [show (q0 : Int) + 3 = ((q3 : Nat) : Int) by omega]; exact wrapI (by omega))
   | (refine u64_or ?_ ?_ ?_ ?_ <;> omega))
 have HV := ϕ (show bits .or .u64 (bits .or .u64 (bits .or .u64 (na : Int) ((nb : Int) * 256)) ((nc : Int) * 65536)) ((nd : Int) * 16777216) = (s3 : Int) from by
  rw [show (nb : Int) * 256 = ((nb * 2 ^ 8 : Nat) : Int) by omega, show (nc : Int) * 65536 = ((nc * 2 ^ 16 : Nat) : Int) by omega, show (nd : Int) * 16777216 = ((nd * 2 ^ 24 : Nat) : Int) by omega, HE.out.2.2.2.2.1, HE.out.2.2.2.2.2.1, HE.out.2.2.2.2.2.2])
 clear g hw ha hb hc hd ba bb bc bd hca hcb hcc hcd hs1 hs2 hs3 hq0 hq1 hq2 hq3
 go_enter func81, ntmps81
 go_upto_region 1 with ((with_reducible refine qd_ ?_); refine Rg.qh_ rfl 22 _ rfl (Cv.bytesV l) rfl ?_; intro X hX hbX hnX; have HS0 := ϕ hX; have HB := ϕ hbX; clear hX hbX hnX)
 obtain ⟨sb, hsb⟩ : ∃ n, w.heap.size = n := exr
 have HS := ϕ (hsb ▸ HS0.out)
 try rw [hsb]
 clear HS0
 refine RL.start (RL.Aft X) (by kernel_rfl) (RL.Aft.drew (RL.Aft.refl X)) ?_
 refine' RL.tv 0 ?hk1 ?_
 case hk1 => (intro W hSW; have e1 := HE.out; go_simp; try with_reducible rfl)
 try go_frame
 refine' RL.tv 1 ?hk2 ?_
 case hk2 => (intro W hSW; have e1 := HE.out; go_simp; try with_reducible rfl)
 try go_frame
 refine' RL.tv 2 ?hk3 ?_
 case hk3 => (intro W hSW; have e1 := HE.out; go_simp; try with_reducible rfl)
 try go_frame
 refine' RL.tv 3 ?hk4 ?_
 case hk4 => (intro W hSW; have e1 := HE.out; have x1 := (qc_ hSW HS.out).cell q0 HC0.out; go_simp; try with_reducible rfl)
 try go_frame
 refine' RL.tv 4 ?hk5 ?_
 case hk5 => (intro W hSW; have e1 := HE.out; go_simp; try with_reducible rfl)
 try go_frame
 refine' RL.tv 5 ?hk6 ?_
 case hk6 => (intro W hSW; have e1 := HE.out; go_simp; try with_reducible rfl)
 try go_frame
 refine' RL.tv 6 ?hk7 ?_
 case hk7 => (intro W hSW; have e1 := HE.out; go_simp; try with_reducible rfl)
 try go_frame
 refine' RL.tv 7 ?hk8 ?_
 case hk8 => (intro W hSW; have e1 := HE.out; go_simp; try with_reducible rfl)
 try go_frame
 refine' RL.tv 8 ?hk9 ?_
 case hk9 => (intro W hSW; have e1 := HE.out; go_simp; try with_reducible rfl)
 try go_frame
 refine' RL.tv 9 ?hk10 ?_
 case hk10 => (intro W hSW; have e1 := HE.out; have x1 := (qc_ hSW HS.out).cell q1 HC1.out; go_simp; try with_reducible rfl)
 try go_frame
 refine' RL.tv 10 ?hk11 ?_
 case hk11 => (intro W hSW; have e1 := HE.out; go_simp; try with_reducible rfl)
 try go_frame
 refine' RL.tv 11 ?hk12 ?_
 case hk12 => (intro W hSW; have e1 := HE.out; go_simp; try with_reducible rfl)
 try go_frame
 refine' RL.tv 12 ?hk13 ?_
 case hk13 => (intro W hSW; have e1 := HE.out; go_simp; try with_reducible rfl)
 try go_frame
 refine' RL.tv 13 ?hk14 ?_
 case hk14 => (intro W hSW; have e1 := HE.out; go_simp; try with_reducible rfl)
 try go_frame
 refine' RL.tv 14 ?hk15 ?_
 case hk15 => (intro W hSW; have e1 := HE.out; go_simp; try with_reducible rfl)
 try go_frame
 refine' RL.tv 15 ?hk16 ?_
 case hk16 => (intro W hSW; have e1 := HE.out; go_simp; try with_reducible rfl)
 try go_frame
 refine' RL.tv 16 ?hk17 ?_
 case hk17 => (intro W hSW; have e1 := HE.out; go_simp; try with_reducible rfl)
 try go_frame
 refine' RL.tv 17 ?hk18 ?_
 case hk18 => (intro W hSW; have e1 := HE.out; have x1 := (qc_ hSW HS.out).cell q2 HC2.out; go_simp; try with_reducible rfl)
 try go_frame
 refine' RL.tv 18 ?hk19 ?_
 case hk19 => (intro W hSW; have e1 := HE.out; go_simp; try with_reducible rfl)
 try go_frame
 refine' RL.tv 19 ?hk20 ?_
 case hk20 => (intro W hSW; have e1 := HE.out; go_simp; try with_reducible rfl)
 try go_frame
 refine' RL.tv 20 ?hk21 ?_
 case hk21 => (intro W hSW; have e1 := HE.out; go_simp; try with_reducible rfl)
 try go_frame
 refine' RL.tv 21 ?hk22 ?_
 case hk22 => (intro W hSW; have e1 := HE.out; go_simp; try with_reducible rfl)
 try go_frame
 refine' RL.tv 22 ?hk23 ?_
 case hk23 => (intro W hSW; have e1 := HE.out; go_simp; try with_reducible rfl)
 try go_frame
 refine' RL.tv 23 ?hk24 ?_
 case hk24 => (intro W hSW; have e1 := HE.out; go_simp; try with_reducible rfl)
 try go_frame
 refine' RL.tv 24 ?hk25 ?_
 case hk25 => (intro W hSW; have e1 := HE.out; go_simp; try with_reducible rfl)
 try go_frame
 refine' RL.tv 25 ?hk26 ?_
 case hk26 => (intro W hSW; have e1 := HE.out; have x1 := (qc_ hSW HS.out).cell q3 HC3.out; go_simp; try with_reducible rfl)
 try go_frame
 refine' RL.tv 26 ?hk27 ?_
 case hk27 => (intro W hSW; have e1 := HE.out; go_simp; try with_reducible rfl)
 try go_frame
 refine' RL.tv 27 ?hk28 ?_
 case hk28 => (intro W hSW; have e1 := HE.out; go_simp; try with_reducible rfl)
 try go_frame
 refine' RL.tv 28 ?hk29 ?_
 case hk29 => (intro W hSW; have e1 := HE.out; go_simp; try with_reducible rfl)
 try go_frame
 refine' RL.tv 29 ?hk30 ?_
 case hk30 => (intro W hSW; have e1 := HE.out; go_simp; try with_reducible rfl)
 try go_frame
 refine RL.done (by kernel_rfl) (fun Z hlZ hsZ => ?_)
 have HB := ϕ (HB.out.trans (Below.mono (show RL.Aft X Z from hsZ) HB.out.size))
 go_wp2_with fail
 go_ret
 exact ⟨by rw [HW.out]; exact congrArg (fun z => Ending.returned (.int .u64 z)) HV.out, HB.out⟩
def vk (xs : List Nat) : Nat → Nat
 | 0 => 0
 | k + 1 => vk xs k + nth xs k * 2 ^ (32 * k)
def sm32 (xs : List Nat) : Prop := ∀ j, nth xs j < 2 ^ 32
theorem vk_lt {xs : List Nat} (h : sm32 xs) : ∀ k, vk xs k < 2 ^ (32 * k)
 | 0 => by show 0 < 1; omega
 | k + 1 => by
  have h1 := vk_lt h k
  have h2 := h k
  show vk xs k + nth xs k * 2 ^ (32 * k) < 2 ^ (32 * k + 32)
  rw [Nat.pow_add]
  generalize 2 ^ (32 * k) = B at *
  have : (nth xs k + 1) * B ≤ 2 ^ 32 * B := Nat.mul_le_mul_right _ h2
  rw [Nat.add_mul, Nat.one_mul] at this
  rw [Nat.mul_comm B]
  omega
theorem vk_set {xs : List Nat} {j v : Nat} : ∀ {k : Nat}, k ≤ j → vk (xs.set j v) k = vk xs k
 | 0, _ => rfl
 | k + 1, h => by
  show vk (xs.set j v) k + nth (xs.set j v) k * _ = vk xs k + nth xs k * _
  rw [vk_set (by omega), jc_ (by omega)]
theorem sm32_set {xs : List Nat} (h : sm32 xs) {j v : Nat} (hv : v < 2 ^ 32) : sm32 (xs.set j v) := fun i => by
 by_cases e : j = i
 · subst e
   by_cases hj : j < xs.length
   · rw [nth_set hj]; exact hv
   · rw [List.set_eq_of_length_le (by omega)]; exact h j
 · rw [jc_ e]; exact h i
theorem vk_less {xs ys : List Nat} (hx : sm32 xs) {m : Nat} (h : nth xs m < nth ys m) : vk xs (m + 1) < vk ys (m + 1) := by
 have h1 := vk_lt hx m
 show vk xs m + nth xs m * 2 ^ (32 * m) < vk ys m + nth ys m * 2 ^ (32 * m)
 generalize 2 ^ (32 * m) = B at *
 have : (nth xs m + 1) * B ≤ nth ys m * B := Nat.mul_le_mul_right _ h
 rw [Nat.add_mul, Nat.one_mul] at this
 omega
def ordL : List Nat := [1559614445, 1477600026, 2734136534, 350157278, 0, 0, 0, 268435456]
theorem ord_num : vk ordL 8 = Ed.L := by decide +kernel
theorem ord_sm : sm32 ordL := fun j => by
 match j with
 | 0 | 1 | 2 | 3 | 4 | 5 | 6 | 7 => decide
 | j + 8 => exact (by decide : 0 < 2 ^ 32)
def u32s (l : List Nat) : Array Value := (l.map fun (n : Nat) => Value.int .u32 (n : Int)).toArray
theorem u32s_size (l : List Nat) : (u32s l).size = l.length := by unfold u32s; simp
theorem u32s_get {l : List Nat} {j : Nat} (h : j < l.length) : (u32s l)[j]? = some (.int .u32 (nth l j : Nat)) := by unfold u32s nth; simp [h]
theorem u32s_set (l : List Nat) (j v : Nat) : (u32s l).setIfInBounds j (.int .u32 (v : Int)) = u32s (l.set j v) := by unfold u32s; simp [List.map_set]
structure Ord (w : World) : Prop where
 at' : ∀ t, t < 8 → w.cell? ⟨22, t, none⟩ = some (.int .u32 (nth ordL t : Nat))
 size : 22 < w.heap.size
theorem Ord.below {w w' : World} {B : Nat} (h : Ord w) (hb : Below B w w') (hB : 22 < B) : Ord w' :=
 ⟨fun t ht => (hb.cell (p := ⟨22, t, none⟩) hB).trans (h.at' t ht), Nat.lt_of_lt_of_le h.size hb.size⟩
theorem less_any (w : World) (xs : List Nat) (hl : xs.length = 9) (hs : sm32 xs) (b : Nat) (hx : Rg.Blk w b 193 (u32s xs)) (hO : Ord w) : Calls prog 133 #[.pointer (some ⟨b, 0, none⟩)] w fun e w' => e = .returned (.bool (decide (vk xs 9 < Ed.L))) ∧ Below w.heap.size w w' := by
 have HX := ϕ hx
 have HO := ϕ hO
 have HS := ϕ hs
 have HL := ϕ hl
 have h8 := hx.cell 8 (u32s_get (by omega : 8 < xs.length))
 obtain ⟨x8, hx8⟩ : ∃ x, nth xs 8 = x := exr
 rw [hx8] at h8
 have HX8 := ϕ hx8
 clear hx hO hs hl hx8
 go_enter func133, ntmps133
 by_cases h0 : x8 = 0
 · have hd0 : ((x8 : Int) == 0) = true := by rw [h0]; rfl
   have hd1 : ((x8 : Int) != 0) = false := by rw [h0]; rfl
   have hd2 : decide (x8 = 0) = true := by rw [h0]; rfl
   have H0 := ϕ h0
   go_upto_region 4 with fail
   clear h8 hd0 hd1 hd2 h0
   go_loopw [3] (fun i wr => ∃ m : Nat, m ≤ 8 ∧ i = .int .i64 ((m : Int) - 1) ∧ vk xs 9 + vk ordL m = Ed.L + vk xs m ∧ RL.Aft w wr) (fun i _ => (intOf i + 1).toNat)
   case atStart => exact ⟨8, Nat.le_refl _, rfl, by rw [← ord_num]; show vk xs 8 + nth xs 8 * _ + _ = _; rw [HX8.out, H0.out]; omega, RL.Aft.refl w⟩
   case round =>
    obtain ⟨m1, hm, rfl, hv, ha⟩ := hrel
    have HA := ϕ ha
    have HV := ϕ hv
    clear ha hv
    cases m1 with
    | zero =>
     have hd : decide ((0 : Int) ≤ ((0 : Nat) : Int) - 1) = false := by simp
     have HR := ϕ (show decide (vk xs 9 < Ed.L) = false from decide_eq_false (by have h := HV.out; show ¬ _ < _; have h1 : vk ordL 0 = 0 := rfl; have h2 : vk xs 0 = 0 := rfl; omega))
     go_wp2_with fail
     go_ret
     exact ⟨by rw [HR.out]; rfl, HA.out⟩
    | succ m =>
     have hd : decide ((0 : Int) ≤ ((m + 1 : Nat) : Int) - 1) = true := by simp
     have hmm : ((m + 1 : Nat) : Int) - 1 = (m : Int) := by omega
     rw [hmm] at hd ⊢
     have HM := ϕ (show m < 8 from by omega)
     have HE := ϕ (show (0 : Int) ≤ (m : Int) ∧ (m : Int) < 9 ∧ (m : Int) < 8 from by omega)
     obtain ⟨x, hx⟩ : ∃ x, nth xs m = x := exr
     obtain ⟨y, hy⟩ : ∃ y, nth ordL m = y := exr
     have hcx := u32s_get (by rw [HL.out]; omega : m < xs.length)
     rw [hx] at hcx
     have HCX := ϕ hcx
     have HNX := ϕ hx
     have HNY := ϕ hy
     clear hcx hx hy hmm
     by_cases hxy : x = y
     · have HNE := ϕ (show ((x : Int) != (y : Int)) = false ∧ ((x : Int) == (y : Int)) = true ∧ decide ((x : Int) = (y : Int)) = true from by subst hxy; simp)
       have HXY := ϕ hxy
       clear hxy
       go_upto_region 6 with fail
       refine RL.start (RL.Aft wr) (by kernel_rfl) (RL.Aft.drew (RL.Aft.refl wr)) ?_
       refine' RL.tv 0 ?hk1 ?_
       case hk1 => (intro W hSW; have e1 := HE.out; go_simp; try with_reducible rfl)
       try go_frame
       refine' RL.tv 1 ?hk2 ?_
       case hk2 => (intro W hSW; have e1 := HE.out; go_simp; try with_reducible rfl)
       try go_frame
       refine' RL.tv 2 ?hk3 ?_
       case hk3 => (intro W hSW; have e1 := HE.out; go_simp; try with_reducible rfl)
       try go_frame
       refine' RL.tv 3 ?hk4 ?_
       case hk4 => (intro W hSW; have e1 := HE.out; go_simp; try with_reducible rfl)
       try go_frame
       refine' RL.tv 4 ?hk5 ?_
       case hk5 => (intro W hSW; have e1 := HE.out; have x1 := (qc_ (RL.Aft.lat HA.out hSW) HX.out).cell m HCX.out; go_simp; try with_reducible rfl)
       try go_frame
       refine' RL.tv 5 ?hk6 ?_
       case hk6 => (intro W hSW; have e1 := HE.out; go_simp; try with_reducible rfl)
       try go_frame
       refine' RL.tv 6 ?hk7 ?_
       case hk7 => (intro W hSW; have e1 := HE.out; go_simp; try with_reducible rfl)
       try go_frame
       refine' RL.tv 7 ?hk8 ?_
       case hk8 => (intro W hSW; have e1 := HE.out; have x2 := (HO.out.below (RL.Aft.lat HA.out hSW) HO.out.size).at' m HM.out; rw [HNY.out] at x2; go_simp; try with_reducible rfl)
       try go_frame
       refine' RL.tv 8 ?hk9 ?_
       case hk9 => (intro W hSW; have e1 := HE.out; go_simp; try with_reducible rfl)
       try go_frame
       refine RL.done (by kernel_rfl) (fun Z6 hlZ6 hsZ6 => ?_)
       have HA := ϕ (show RL.Aft w Z6 from RL.Aft.lat HA.out hsZ6)
       have hne1 := HNE.out.1
       have hne2 := HNE.out.2.1
       have hne3 := HNE.out.2.2
       go_wp2_with fail
       go_roundw
       case rel =>
        have REL := ϕ (show ∃ m' : Nat, m' ≤ 8 ∧ Value.int .i64 ((m : Int) - 1) = .int .i64 ((m' : Int) - 1) ∧ vk xs 9 + vk ordL m' = Ed.L + vk xs m' ∧ RL.Aft w Z6 from ⟨m, by have := HM.out; omega, rfl, by
         have h := HV.out
         have h1 : vk ordL (m + 1) = vk ordL m + nth ordL m * 2 ^ (32 * m) := rfl
         have h2 : vk xs (m + 1) = vk xs m + nth xs m * 2 ^ (32 * m) := rfl
         rw [h1, h2, HNX.out, HNY.out, HXY.out] at h
         omega, HA.out⟩)
        first
         | exact REL.out
         | ((repeat apply Exists.intro); refine ⟨?_, rfl⟩; exact REL.out)
       case measure => (first | (simp [intOf]; done) | (simp [intOf]; omega))
     · have HNE := ϕ (show ((x : Int) != (y : Int)) = true ∧ ((x : Int) == (y : Int)) = false ∧ decide ((x : Int) = (y : Int)) = false from by
        have : ¬ (x : Int) = (y : Int) := by omega
        simp [this])
       have HRES := ϕ (show decide (vk xs 9 < Ed.L) = decide (x < y) from by
        have h := HV.out
        by_cases hlt : x < y
        · have h1 := vk_less (ys := ordL) HS.out (m := m) (by rw [HNX.out, HNY.out]; exact hlt)
          rw [decide_eq_true (by omega), decide_eq_true (by omega)]
        · have h1 := vk_less (xs := ordL) (ys := xs) ord_sm (m := m) (by rw [HNX.out, HNY.out]; omega)
          rw [decide_eq_false (by omega), decide_eq_false (by omega)])
       clear hxy
       go_upto_region 6 with fail
       refine RL.start (RL.Aft wr) (by kernel_rfl) (RL.Aft.drew (RL.Aft.refl wr)) ?_
       refine' RL.tv 0 ?hk10 ?_
       case hk10 => (intro W hSW; have e1 := HE.out; go_simp; try with_reducible rfl)
       try go_frame
       refine' RL.tv 1 ?hk11 ?_
       case hk11 => (intro W hSW; have e1 := HE.out; go_simp; try with_reducible rfl)
       try go_frame
       refine' RL.tv 2 ?hk12 ?_
       case hk12 => (intro W hSW; have e1 := HE.out; go_simp; try with_reducible rfl)
       try go_frame
       refine' RL.tv 3 ?hk13 ?_
       case hk13 => (intro W hSW; have e1 := HE.out; go_simp; try with_reducible rfl)
       try go_frame
       refine' RL.tv 4 ?hk14 ?_
       case hk14 => (intro W hSW; have e1 := HE.out; have x1 := (qc_ (RL.Aft.lat HA.out hSW) HX.out).cell m HCX.out; go_simp; try with_reducible rfl)
       try go_frame
       refine' RL.tv 5 ?hk15 ?_
       case hk15 => (intro W hSW; have e1 := HE.out; go_simp; try with_reducible rfl)
       try go_frame
       refine' RL.tv 6 ?hk16 ?_
       case hk16 => (intro W hSW; have e1 := HE.out; go_simp; try with_reducible rfl)
       try go_frame
       refine' RL.tv 7 ?hk17 ?_
       case hk17 => (intro W hSW; have e1 := HE.out; have x2 := (HO.out.below (RL.Aft.lat HA.out hSW) HO.out.size).at' m HM.out; rw [HNY.out] at x2; go_simp; try with_reducible rfl)
       try go_frame
       refine' RL.tv 8 ?hk18 ?_
       case hk18 => (intro W hSW; have e1 := HE.out; go_simp; try with_reducible rfl)
       try go_frame
       refine RL.done (by kernel_rfl) (fun Z6 hlZ6 hsZ6 => ?_)
       have HA := ϕ (show RL.Aft w Z6 from RL.Aft.lat HA.out hsZ6)
       have hne1 := HNE.out.1
       have hne2 := HNE.out.2.1
       have hne3 := HNE.out.2.2
       go_upto_region 7 with fail
       clear hne1 hne2 hne3
       refine RL.start (RL.Aft Z6) (by kernel_rfl) (RL.Aft.drew (RL.Aft.refl Z6)) ?_
       refine' RL.tv 0 ?hk19 ?_
       case hk19 => (intro W hSW; have e1 := HE.out; go_simp; try with_reducible rfl)
       try go_frame
       refine' RL.tv 1 ?hk20 ?_
       case hk20 => (intro W hSW; have e1 := HE.out; go_simp; try with_reducible rfl)
       try go_frame
       refine' RL.tv 2 ?hk21 ?_
       case hk21 => (intro W hSW; have e1 := HE.out; go_simp; try with_reducible rfl)
       try go_frame
       refine' RL.tv 3 ?hk22 ?_
       case hk22 => (intro W hSW; have e1 := HE.out; go_simp; try with_reducible rfl)
       try go_frame
       refine' RL.tv 4 ?hk23 ?_
       case hk23 => (intro W hSW; have e1 := HE.out; have x1 := (qc_ (RL.Aft.lat HA.out hSW) HX.out).cell m HCX.out; go_simp; try with_reducible rfl)
       try go_frame
       refine' RL.tv 5 ?hk24 ?_
       case hk24 => (intro W hSW; have e1 := HE.out; go_simp; try with_reducible rfl)
       try go_frame
       refine' RL.tv 6 ?hk25 ?_
       case hk25 => (intro W hSW; have e1 := HE.out; go_simp; try with_reducible rfl)
       try go_frame
       refine' RL.tv 7 ?hk26 ?_
       case hk26 => (intro W hSW; have e1 := HE.out; have x2 := (HO.out.below (RL.Aft.lat HA.out hSW) HO.out.size).at' m HM.out; rw [HNY.out] at x2; go_simp; try with_reducible rfl)
       try go_frame
       refine' RL.tv 8 ?hk27 ?_
       case hk27 => (intro W hSW; have e1 := HE.out; go_simp; try with_reducible rfl)
       try go_frame
       refine' RL.tv 9 ?hk28 ?_
       case hk28 => (intro W hSW; have e1 := HE.out; go_simp; try with_reducible rfl)
       try go_frame
       refine RL.done (by kernel_rfl) (fun Z7 hlZ7 hsZ7 => ?_)
       have HA := ϕ (show RL.Aft w Z7 from RL.Aft.lat HA.out hsZ7)
       go_wp2_with fail
       go_ret
       exact ⟨by rw [HRES.out]; rfl, HA.out⟩
 · have hd0 : ((x8 : Int) == 0) = false := by simp; omega
   have hd1 : ((x8 : Int) != 0) = true := by simp; omega
   have hd2 : decide (x8 = 0) = false := by simp; omega
   have HR := ϕ (show decide (vk xs 9 < Ed.L) = false from decide_eq_false (by
    have h : 1 * 2 ^ (32 * 8) ≤ nth xs 8 * 2 ^ (32 * 8) := Nat.mul_le_mul_right _ (by rw [HX8.out]; omega)
    have h2 : Ed.L < 1 * 2 ^ (32 * 8) := by decide +kernel
    show ¬ vk xs 8 + nth xs 8 * 2 ^ (32 * 8) < Ed.L
    omega))
   go_wp2_with fail
   go_ret
   exact ⟨by rw [HR.out]; rfl, Below.refl _ _⟩
theorem low_or {x b : Nat} (hb : b < 2) (hx : x < 4294967296) : bits .or .u32 ((x * 2 % 4294967296 : Nat) : Int) (b : Int) = ((x * 2 % 4294967296 + b : Nat) : Int) := by
 have h1 : x * 2 % 4294967296 < 4294967296 := Nat.mod_lt _ (by decide)
 rw [u32_or_nat _ b h1 (by omega)]
 obtain ⟨q, hq⟩ : ∃ q, x * 2 % 4294967296 = q * 2 ^ 1 := ⟨x * 2 % 4294967296 / 2, by omega⟩
 rw [hq, Nat.or_comm, or_sh (by omega : b < 2 ^ 1), Nat.add_comm]
theorem twice_step {xs zs : List Nat} {k b bit x : Nat} (hz : vk zs k + bit * 2 ^ (32 * k) = 2 * vk xs k + b) (hx : nth xs k = x) (hk : k < zs.length) :
 vk (zs.set k (x * 2 % 4294967296 + bit)) (k + 1) + x / 2147483648 * 2 ^ (32 * (k + 1)) = 2 * vk xs (k + 1) + b := by
 show vk (zs.set k _) k + nth (zs.set k _) k * 2 ^ (32 * k) + _ = 2 * (vk xs k + nth xs k * 2 ^ (32 * k)) + b
 rw [vk_set (Nat.le_refl k), nth_set hk, hx, show 32 * (k + 1) = 32 * k + 32 by omega, Nat.pow_add]
 generalize 2 ^ (32 * k) = B at *
 have h1 : x * 2 % 4294967296 + x / 2147483648 * 2 ^ 32 = 2 * x := by omega
 have h2 : (x * 2 % 4294967296 + bit) * B + x / 2147483648 * (B * 2 ^ 32) = (x * 2 % 4294967296 + x / 2147483648 * 2 ^ 32) * B + bit * B := by
  rw [Nat.add_mul, Nat.add_mul, Nat.mul_assoc (x / 2147483648), Nat.mul_comm (2 ^ 32) B]; omega
 have h3 : 2 * (vk xs k + x * B) = 2 * vk xs k + 2 * x * B := by rw [Nat.mul_add, Nat.mul_assoc]
 rw [Nat.add_assoc, h2, h1, h3]
 omega
theorem less_step {xs ys zs : List Nat} {k c x y z c' : Nat} (hz : vk zs k + vk ys k = vk xs k + c * 2 ^ (32 * k)) (hx : nth xs k = x) (hy : nth ys k = y) (hk : k < zs.length) (h : z + y + c = x + c' * 4294967296) :
 vk (zs.set k z) (k + 1) + vk ys (k + 1) = vk xs (k + 1) + c' * 2 ^ (32 * (k + 1)) := by
 show vk (zs.set k _) k + nth (zs.set k _) k * 2 ^ (32 * k) + (vk ys k + nth ys k * 2 ^ (32 * k)) = vk xs k + nth xs k * 2 ^ (32 * k) + _
 rw [vk_set (Nat.le_refl k), nth_set hk, hx, hy, show 32 * (k + 1) = 32 * k + 32 by omega, Nat.pow_add]
 generalize 2 ^ (32 * k) = B at *
 have h1 : (z + y + c) * B = (x + c' * 4294967296) * B := by rw [h]
 rw [Nat.add_mul, Nat.add_mul, Nat.add_mul, Nat.mul_assoc c'] at h1
 rw [show (2 : Nat) ^ 32 = 4294967296 from rfl, Nat.mul_comm B]
 omega
theorem sub_end {xs zs : List Nat} {c : Nat} (hs : sm32 zs) (hc : c < 2) (hn : ¬ vk xs 9 < Ed.L) (h9 : nth ordL 8 = 0) (h : vk zs 9 + vk ordL 9 = vk xs 9 + c * 2 ^ (32 * 9)) : vk zs 9 = vk xs 9 - Ed.L := by
 have h1 := vk_lt hs 9
 have h2 : vk ordL 9 = Ed.L := by rw [← ord_num]; show vk ordL 8 + nth ordL 8 * _ = _; rw [h9]; omega
 rw [h2] at h
 generalize 2 ^ (32 * 9) = B at *
 have : c = 0 ∨ c = 1 := by omega
 rcases this with rfl | rfl <;> omega
theorem dig_sub (x y c : Nat) (hx : x < 4294967296) (hy : y < 4294967296) (hc : c < 2) : ∃ d1 d2 z c' : Nat, IntKind.u64.wrap ((x : Int) - (y : Int)) = (d1 : Int) ∧ IntKind.u64.wrap ((d1 : Int) - (c : Int)) = (d2 : Int) ∧ IntKind.u32.wrap (d2 : Int) = (z : Int) ∧ d2 / 9223372036854775808 = c' ∧ z < 4294967296 ∧ c' < 2 ∧ z + y + c = x + c' * 4294967296 ∧ d2 < 18446744073709551616 := by
 refine ⟨(x + 18446744073709551616 - y) % 18446744073709551616, ((x + 18446744073709551616 - y) % 18446744073709551616 + 18446744073709551616 - c) % 18446744073709551616, ((x + 18446744073709551616 - y) % 18446744073709551616 + 18446744073709551616 - c) % 18446744073709551616 % 4294967296, ((x + 18446744073709551616 - y) % 18446744073709551616 + 18446744073709551616 - c) % 18446744073709551616 / 9223372036854775808, ?_, ?_, ?_, rfl, ?_, ?_, ?_, ?_⟩
 · rw [IntKind.wrap_u64]; omega
 · rw [IntKind.wrap_u64]; omega
 · simp [IntKind.wrap, IntKind.bits, IntKind.signed]
 · omega
 · omega
 · omega
 · omega
theorem ord_grown {w w' : World} {b : Nat} (h : Ord w) (hg : w.grownBy w' (some b)) (hb : 22 < b) : Ord w' :=
 h.below (B := 22 + 1) ⟨hg.os, hg.tape, hg.output, hg.size, fun k hk => hg.block k (Nat.lt_of_lt_of_le hk h.size) (fun e => by injection e with e; omega)⟩ (Nat.lt_succ_self _)
theorem sub_any (w : World) (xs : List Nat) (hl : xs.length = 9) (hs : sm32 xs) (b : Nat) (hx : Rg.Blk w b 193 (u32s xs)) (hO : Ord w) (hb : 22 < b) : Calls prog 147 #[.pointer (some ⟨b, 0, none⟩)] w fun e w' => (∃ v, e = .returned v) ∧ (∃ zs, zs.length = 9 ∧ sm32 zs ∧ vk zs 9 = (if vk xs 9 < Ed.L then vk xs 9 else vk xs 9 - Ed.L) ∧ Rg.Blk w' b 193 (u32s zs)) ∧ Sp.Upd w w' [b] ∧ Ord w' := by
 have HLS := ϕ (less_any w xs hl hs b hx hO)
 have HX := ϕ hx
 have HO := ϕ hO
 have HS := ϕ hs
 have HL := ϕ hl
 have HNE := ϕ hb
 clear hx hO hs hl hb
 go_enter func147, ntmps147
 by_cases hn : vk xs 9 < Ed.L
 · rw [decide_eq_true hn] at HLS
   rw [if_pos hn]
   clear hn
   go_wp2_with (go_at_call 133; refine HLS.out.mono ?_; rintro e w1 ⟨rfl, hb1⟩; have HB1 := ϕ hb1; clear hb1)
   go_wp2_with fail
   refine bodyPost_ret (results_none rfl _ _ _) rfl ?_
   exact ⟨⟨_, rfl⟩, ⟨xs, HL.out, HS.out, rfl, HX.out.below HB1.out HX.out.lt⟩, Sp.Upd.trans (Sp.Upd.refl w [b]) (Sp.Upd.of_below HB1.out) (by simp), HO.out.below HB1.out HO.out.size⟩
 · rw [decide_eq_false hn] at HLS
   rw [if_neg hn]
   have HN := ϕ hn
   clear hn
   go_upto_region 3 with (go_at_call 133; refine HLS.out.mono ?_; rintro e w1 ⟨rfl, hb1⟩; have HB1 := ϕ hb1; clear hb1)
   have HU1 := ϕ (show Sp.Upd w w1 [b] from Sp.Upd.trans (Sp.Upd.refl w [b]) (Sp.Upd.of_below HB1.out) (by simp))
   have HX1 := ϕ (HX.out.below HB1.out HX.out.lt)
   have HO1 := ϕ (HO.out.below HB1.out HO.out.size)
   clear HLS HX HO HB1
   go_loopw [2, 8] (fun c i wr => ∃ (k cc : Nat) (zs : List Nat), k ≤ 9 ∧ c = .int .u64 cc ∧ i = .int .i64 k ∧ cc < 2 ∧ zs.length = 9 ∧ sm32 zs ∧ (∀ j, k ≤ j → nth zs j = nth xs j) ∧ vk zs k + vk ordL k = vk xs k + cc * 2 ^ (32 * k) ∧ Rg.Blk wr b 193 (u32s zs) ∧ Sp.Upd w wr [b] ∧ Ord wr) (fun _ i _ => 9 - (intOf i).toNat)
   case atStart => exact ⟨0, 0, xs, by decide, rfl, rfl, by decide, HL.out, HS.out, fun _ _ => rfl, rfl, HX1.out, HU1.out, HO1.out⟩
   case round =>
    obtain ⟨k, cc, zs, hk, rfl, rfl, hcc, hzl, hsm, heq, hv, hz, hu, ho⟩ := hrel
    clear HX1 HU1 HO1
    have HCC := ϕ hcc
    have HZL := ϕ hzl
    have HSM := ϕ hsm
    have HEQ := ϕ heq
    have HV := ϕ hv
    have HZ := ϕ hz
    have HU := ϕ hu
    have HO := ϕ ho
    clear hcc hzl hsm heq hv hz hu ho
    by_cases hk9 : k < 9
    · have hd : decide ((k : Int) < 9) = true := by simp; omega
      have hki : (k : Int) < 9 := by omega
      have hk0 : (0 : Int) ≤ k := by omega
      by_cases hk8 : k < 8
      · obtain ⟨x, hx⟩ : ∃ x, nth zs k = x := exr
        obtain ⟨y, hy⟩ : ∃ y, nth ordL k = y := exr
        have hxs : nth xs k = x := by rw [← HEQ.out k (Nat.le_refl k)]; exact hx
        obtain ⟨d1, d2, z, c', e1, e2, e3, e4, hz, hc', hzz, hd2⟩ := dig_sub x y cc (hx ▸ HSM.out k) (hy ▸ ord_sm k) HCC.out
        have hcx := u32s_get (by rw [HZL.out]; omega : k < zs.length)
        rw [hx] at hcx
        have cx := HZ.out.cell k hcx
        have HST := ϕ (less_step HV.out hxs hy (by rw [HZL.out]; omega) hzz)
        have HSZ := ϕ (show k < (u32s zs).size from by rw [u32s_size, HZL.out]; omega)
        have HSM2 := ϕ (sm32_set HSM.out (j := k) hz)
        have HC2 := ϕ hc'
        have hwx : IntKind.u64.wrap (x : Int) = (x : Int) := by have h := HSM.out k; rw [hx] at h; rw [IntKind.wrap_u64]; omega
        have hwy : IntKind.u64.wrap (y : Int) = (y : Int) := by have h := ord_sm k; rw [hy] at h; rw [IntKind.wrap_u64]; omega
        have hsh : (d2 : Int) / 9223372036854775808 = (c' : Int) := by omega
        have hx32 : x < 4294967296 := hx ▸ HSM.out k
        have co := HO.out.at' k (by omega)
        rw [hy] at co
        have hk8 : decide ((k : Int) < 8) = true := by simp; omega
        have hk8i : (k : Int) < 8 := by omega
        clear hx hy hxs hcx hz hc' hzz e4 hd2
        go_upto_region 10 with ((with_reducible refine qd_ ?_); refine store_one rfl 100 _ _ rfl b k (.int .u32 z) (u32s zs) 193 rfl (by first | rfl | (simp [e3]; done) | (rw [e3])) rfl HZ.out (by kernel_rfl) HSZ.out rfl ?_; intro V hV hgV; have HZ2 := ϕ (show Rg.Blk V b 193 (u32s (zs.set k z)) from by rw [← u32s_set]; exact hV); have HU2 := ϕ (Sp.Upd.trans HU.out (Sp.Upd.of_grown1 hgV) (fun q hq => .inl hq)); have HO2 := ϕ (ord_grown HO.out hgV HNE.out); clear hV hgV)
        go_wp2_with fail
        go_roundw
        case rel =>
         have REL := ϕ (show ∃ (k' cc' : Nat) (zs' : List Nat), k' ≤ 9 ∧ Value.int .u64 (c' : Nat) = .int .u64 cc' ∧ Value.int .i64 ((k : Int) + 1) = .int .i64 k' ∧ cc' < 2 ∧ zs'.length = 9 ∧ sm32 zs' ∧ (∀ j, k' ≤ j → nth zs' j = nth xs j) ∧ vk zs' k' + vk ordL k' = vk xs k' + cc' * 2 ^ (32 * k') ∧ Rg.Blk V b 193 (u32s zs') ∧ Sp.Upd w V [b] ∧ Ord V from
          ⟨k + 1, c', zs.set k z, by omega, rfl, rfl, HC2.out, by rw [List.length_set]; exact HZL.out, HSM2.out, fun j hj => by rw [jc_ (by omega)]; exact HEQ.out j (by omega), HST.out, HZ2.out, HU2.out, HO2.out⟩)
         first
          | exact REL.out
          | ((repeat apply Exists.intro); refine ⟨?_, rfl⟩; exact REL.out)
        case measure => (first | (simp [intOf]; done) | (simp [intOf]; omega))
      · obtain ⟨x, hx⟩ : ∃ x, nth zs k = x := exr
        obtain ⟨y, hy⟩ : ∃ y, nth ordL k = y := exr
        have hxs : nth xs k = x := by rw [← HEQ.out k (Nat.le_refl k)]; exact hx
        obtain ⟨d1, d2, z, c', e1, e2, e3, e4, hz, hc', hzz, hd2⟩ := dig_sub x y cc (hx ▸ HSM.out k) (hy ▸ ord_sm k) HCC.out
        have hcx := u32s_get (by rw [HZL.out]; omega : k < zs.length)
        rw [hx] at hcx
        have cx := HZ.out.cell k hcx
        have HST := ϕ (less_step HV.out hxs hy (by rw [HZL.out]; omega) hzz)
        have HSZ := ϕ (show k < (u32s zs).size from by rw [u32s_size, HZL.out]; omega)
        have HSM2 := ϕ (sm32_set HSM.out (j := k) hz)
        have HC2 := ϕ hc'
        have hwx : IntKind.u64.wrap (x : Int) = (x : Int) := by have h := HSM.out k; rw [hx] at h; rw [IntKind.wrap_u64]; omega
        have hwy : IntKind.u64.wrap (y : Int) = (y : Int) := by have h := ord_sm k; rw [hy] at h; rw [IntKind.wrap_u64]; omega
        have hsh : (d2 : Int) / 9223372036854775808 = (c' : Int) := by omega
        have hx32 : x < 4294967296 := hx ▸ HSM.out k
        have hk8 : decide ((k : Int) < 8) = false := by simp; omega
        obtain rfl : y = 0 := by rw [← hy, show k = 8 by omega]; rfl
        have e5 : (x : Int) = (d1 : Int) := by rw [← e1, show ((x : Int) - ((0 : Nat) : Int)) = (x : Int) by omega]; exact hwx.symm
        obtain rfl : d1 = x := by omega
        clear e1 e5 hwy
        clear hx hy hxs hcx hz hc' hzz e4 hd2
        go_upto_region 10 with ((with_reducible refine qd_ ?_); refine store_one rfl 100 _ _ rfl b k (.int .u32 z) (u32s zs) 193 rfl (by first | rfl | (simp [e3]; done) | (rw [e3])) rfl HZ.out (by kernel_rfl) HSZ.out rfl ?_; intro V hV hgV; have HZ2 := ϕ (show Rg.Blk V b 193 (u32s (zs.set k z)) from by rw [← u32s_set]; exact hV); have HU2 := ϕ (Sp.Upd.trans HU.out (Sp.Upd.of_grown1 hgV) (fun q hq => .inl hq)); have HO2 := ϕ (ord_grown HO.out hgV HNE.out); clear hV hgV)
        go_wp2_with fail
        go_roundw
        case rel =>
         have REL := ϕ (show ∃ (k' cc' : Nat) (zs' : List Nat), k' ≤ 9 ∧ Value.int .u64 (c' : Nat) = .int .u64 cc' ∧ Value.int .i64 ((k : Int) + 1) = .int .i64 k' ∧ cc' < 2 ∧ zs'.length = 9 ∧ sm32 zs' ∧ (∀ j, k' ≤ j → nth zs' j = nth xs j) ∧ vk zs' k' + vk ordL k' = vk xs k' + cc' * 2 ^ (32 * k') ∧ Rg.Blk V b 193 (u32s zs') ∧ Sp.Upd w V [b] ∧ Ord V from
          ⟨k + 1, c', zs.set k z, by omega, rfl, rfl, HC2.out, by rw [List.length_set]; exact HZL.out, HSM2.out, fun j hj => by rw [jc_ (by omega)]; exact HEQ.out j (by omega), HST.out, HZ2.out, HU2.out, HO2.out⟩)
         first
          | exact REL.out
          | ((repeat apply Exists.intro); refine ⟨?_, rfl⟩; exact REL.out)
        case measure => (first | (simp [intOf]; done) | (simp [intOf]; omega))
    · obtain rfl : k = 9 := by omega
      have hd : decide (((9 : Nat) : Int) < 9) = false := by simp
      have HR := ϕ (sub_end HSM.out HCC.out HN.out rfl HV.out)
      go_wp2_with fail
      go_end0
      exact ⟨⟨_, rfl⟩, ⟨zs, HZL.out, HSM.out, HR.out, HZ.out⟩, HU.out, HO.out⟩
theorem shift_endV {z c B n b q : Nat} (hn : n < q) (hb : b < 2) (hB : 2 * q + 2 ≤ B) (h : z + c * B = 2 * n + b) : z = 2 * n + b := by
 cases c with
 | zero => rw [Nat.zero_mul] at h; omega
 | succ c =>
  rw [Nat.add_mul, Nat.one_mul] at h
  generalize c * B = y at *
  omega
theorem big8 : 2 * Ed.L + 2 ≤ 2 ^ 144 * 2 ^ 144 := by decide +kernel
theorem big9 (m : Nat) (hm : m = 144 + 144) : 2 * Ed.L + 2 ≤ 2 ^ m := by
 subst hm
 rw [Nat.pow_add 2 144 144]
 exact big8
theorem shift_end {xs zs : List Nat} {c b : Nat} (m : Nat) (hm : m = 144 + 144) (hn : vk xs 9 < Ed.L) (hb : b < 2) (h : vk zs 9 + c * 2 ^ m = 2 * vk xs 9 + b) : vk zs 9 = 2 * vk xs 9 + b := shift_endV hn hb (big9 m hm) h
theorem shift_mod {n b : Nat} (hn : n < Ed.L) (hb : b < 2) : (if 2 * n + b < Ed.L then 2 * n + b else 2 * n + b - Ed.L) = (2 * n + b) % Ed.L := by
 by_cases h : 2 * n + b < Ed.L
 · rw [if_pos h, Nat.mod_eq_of_lt h]
 · rw [if_neg h, Nat.mod_eq_sub_mod (by omega), Nat.mod_eq_of_lt (by omega)]
theorem ord_upd {w w' : World} {b : Nat} (h : Ord w) (hu : Sp.Upd w w' [b]) (hb : 22 < b) : Ord w' :=
 h.below (B := 22 + 1) (qt_ (Below.refl _ _) hu (fun k hk => by simp at hk; omega) h.size) (Nat.lt_succ_self _)
theorem shift_any (w : World) (xs : List Nat) (hl : xs.length = 9) (hs : sm32 xs) (b b0 : Nat) (hx : Rg.Blk w b 193 (u32s xs)) (hO : Ord w) (hb : 22 < b) (hn : vk xs 9 < Ed.L) (hb0 : b0 < 2) : Calls prog 120 #[.pointer (some ⟨b, 0, none⟩), .int .u32 b0] w fun e w' => (∃ v, e = .returned v) ∧ (∃ zs, zs.length = 9 ∧ sm32 zs ∧ vk zs 9 = (2 * vk xs 9 + b0) % Ed.L ∧ Rg.Blk w' b 193 (u32s zs)) ∧ Sp.Upd w w' [b] ∧ Ord w' := by
 have HX := ϕ hx
 have HO := ϕ hO
 have HS := ϕ hs
 have HL := ϕ hl
 have HNE := ϕ hb
 have HN := ϕ hn
 have HB0 := ϕ hb0
 clear hx hO hs hl hb hn hb0
 go_enter func120, ntmps120
 go_upto_region 1 with fail
 go_loopw [1, 6] (fun c i wr => ∃ (k cc : Nat) (zs : List Nat), k ≤ 9 ∧ c = .int .u32 cc ∧ i = .int .i64 k ∧ cc < 2 ∧ zs.length = 9 ∧ sm32 zs ∧ (∀ j, k ≤ j → nth zs j = nth xs j) ∧ vk zs k + cc * 2 ^ (32 * k) = 2 * vk xs k + b0 ∧ Rg.Blk wr b 193 (u32s zs) ∧ Sp.Upd w wr [b] ∧ Ord wr) (fun _ i _ => 9 - (intOf i).toNat)
 case atStart => exact ⟨0, b0, xs, by decide, rfl, rfl, HB0.out, HL.out, HS.out, fun _ _ => rfl, by show 0 + b0 * 1 = 2 * 0 + b0; omega, HX.out, Sp.Upd.refl w [b], HO.out⟩
 case round =>
  obtain ⟨k, cc, zs, hk, rfl, rfl, hcc, hzl, hsm, heq, hv, hz, hu, ho⟩ := hrel
  clear HX HO
  have HCC := ϕ hcc
  have HZL := ϕ hzl
  have HSM := ϕ hsm
  have HEQ := ϕ heq
  have HV := ϕ hv
  have HZ := ϕ hz
  have HU := ϕ hu
  have HO := ϕ ho
  clear hcc hzl hsm heq hv hz hu ho
  by_cases hk9 : k < 9
  · have hd : decide ((k : Int) < 9) = true := by simp; omega
    have hki : (k : Int) < 9 := by omega
    have hk0 : (0 : Int) ≤ k := by omega
    obtain ⟨x, hx⟩ : ∃ x, nth zs k = x := exr
    have hxs : nth xs k = x := by rw [← HEQ.out k (Nat.le_refl k)]; exact hx
    have hx32 : x < 4294967296 := hx ▸ HSM.out k
    have hcx := u32s_get (by rw [HZL.out]; omega : k < zs.length)
    rw [hx] at hcx
    have cx := HZ.out.cell k hcx
    have HCX := ϕ hcx
    obtain ⟨t, ht⟩ : ∃ t, x / 2147483648 = t := exr
    have hsh : (x : Int) / 2147483648 = (t : Int) := by omega
    have HT2 := ϕ (show t < 2 from by omega)
    have HST := ϕ (ht ▸ twice_step HV.out hxs (by rw [HZL.out]; omega))
    have HSZ := ϕ (show k < (u32s zs).size from by rw [u32s_size, HZL.out]; omega)
    have HSM2 := ϕ (sm32_set HSM.out (j := k) (v := x * 2 % 4294967296 + cc) (by have := HCC.out; omega))
    have HE := ϕ (show (0 : Int) ≤ k ∧ (k : Int) < 9 from ⟨hk0, hki⟩)
    have HE2 := ϕ (show IntKind.u32.wrap ((x : Int) * 2) = ((x * 2 % 4294967296 : Nat) : Int) ∧ bits .or .u32 ((x * 2 % 4294967296 : Nat) : Int) (cc : Int) = ((x * 2 % 4294967296 + cc : Nat) : Int) from ⟨by simp [IntKind.wrap, IntKind.bits, IntKind.signed], low_or HCC.out hx32⟩)
    have HE3 := ϕ (show bits .or .u32 ((x : Int) * 2 % 4294967296) (cc : Int) = ((x * 2 % 4294967296 + cc : Nat) : Int) from by rw [show ((x : Int) * 2 % 4294967296) = ((x * 2 % 4294967296 : Nat) : Int) by omega]; exact low_or HCC.out hx32)
    clear hx hxs hcx ht
    go_upto_region 4 with fail
    clear cx hsh hd
    refine RL.start (fun W => Sp.Upd wr W [b]) (by kernel_rfl) (Sp.Upd.trans (Sp.Upd.refl _ _) (Sp.Upd.of_below (Below.drew (Below.refl _ _))) (by simp)) ?_
    refine' RL.tv 0 ?hk1 ?_
    case hk1 => (intro W hSW; have e1 := HE.out; go_simp; try with_reducible rfl)
    try go_frame
    refine' RL.tv 1 ?hk2 ?_
    case hk2 => (intro W hSW; have e1 := HE.out; go_simp; try with_reducible rfl)
    try go_frame
    refine' RL.tv 2 ?hk3 ?_
    case hk3 => (intro W hSW; have e1 := HE.out; go_simp; try with_reducible rfl)
    try go_frame
    refine' RL.tv 3 ?hk4 ?_
    case hk4 => (intro W hSW; have e1 := HE.out; go_simp; try with_reducible rfl)
    try go_frame
    refine' RL.tv 4 ?hk5 ?_
    case hk5 => (intro W hSW; have e1 := HE.out; go_simp; try with_reducible rfl)
    try go_frame
    refine' RL.tv 5 ?hk6 ?_
    case hk6 => (intro W hSW; have e1 := HE.out; go_simp; try with_reducible rfl)
    try go_frame
    refine' RL.tv 8 ?hk7 ?_
    case hk7 => (intro W hSW; have e1 := HE.out; go_simp; try with_reducible rfl)
    try go_frame
    refine' RL.tv 10 ?hk8 ?_
    case hk8 => (intro W hSW; have e1 := HE.out; go_simp; try with_reducible rfl)
    try go_frame
    refine RL.sk 6 (fun q6 hlq6 hsq6 K hK => ?_)
    have hO6 := (HZ.out.below (Below.drew (Below.refl _ _)) HZ.out.lt).below hlq6 (by have := HZ.out.lt; simpa using this)
    have x1 := hO6.cell k HCX.out
    refine wp_val (v := .int .u32 x) (by go_simp; try rfl) ?_
    refine hK.out _ _ hsq6 ?_
    clear hK hO6 x1
    try go_frame
    refine' RL.tv 7 ?hk9 ?_
    case hk9 => (intro W hSW; have e1 := HE2.out.1; go_simp; try with_reducible rfl)
    try go_frame
    refine' RL.tv 9 ?hk10 ?_
    case hk10 => (intro W hSW; have e1 := HE2.out.2; go_simp; try with_reducible rfl)
    try go_frame
    refine' RL.tv 11 ?hk11 ?_
    case hk11 => (intro W hSW; have e1 := HE.out; go_simp; try with_reducible rfl)
    try go_frame
    refine RL.sk 12 (fun va hlva hsva K hK => ?_)
    have hO6 := (HZ.out.below (Below.drew (Below.refl _ _)) HZ.out.lt).below (hlq6.trans hlva) (by have := HZ.out.lt; simpa using this)
    refine store_one_op 100 _ _ rfl b k (.int .u32 (x * 2 % 4294967296 + cc : Nat)) (u32s zs) 193 rfl (congrArg (Value.int .u32) HE3.out) rfl hO6 (by kernel_rfl) HSZ.out rfl ?_
    intro Y hY hgY
    refine hK.out _ _ (Sp.Upd.trans hsva (Sp.Upd.of_grown1 hgY) (fun q hq => .inl hq)) ?_
    clear hK
    try go_frame
    refine RL.done (by kernel_rfl) (fun V hlV hsV => ?_)
    have HZ2 := ϕ (show Rg.Blk V b 193 (u32s (zs.set k (x * 2 % 4294967296 + cc))) from by rw [← u32s_set]; exact Rg.Blk.below hY hlV hY.lt)
    have HU2 := ϕ (Sp.Upd.trans HU.out hsV (fun q hq => .inl hq))
    have HO2 := ϕ (ord_upd HO.out hsV HNE.out)
    clear hO6 hY hgY hlva hsva hlq6 hsq6 hlV hsV
    go_wp2_with fail
    go_roundw
    case rel =>
     have REL := ϕ (show ∃ (k' cc' : Nat) (zs' : List Nat), k' ≤ 9 ∧ Value.int .u32 (t : Nat) = .int .u32 cc' ∧ Value.int .i64 ((k : Int) + 1) = .int .i64 k' ∧ cc' < 2 ∧ zs'.length = 9 ∧ sm32 zs' ∧ (∀ j, k' ≤ j → nth zs' j = nth xs j) ∧ vk zs' k' + cc' * 2 ^ (32 * k') = 2 * vk xs k' + b0 ∧ Rg.Blk V b 193 (u32s zs') ∧ Sp.Upd w V [b] ∧ Ord V from
      ⟨k + 1, t, zs.set k (x * 2 % 4294967296 + cc), by omega, rfl, rfl, HT2.out, by rw [List.length_set]; exact HZL.out, HSM2.out, fun j hj => by rw [jc_ (by omega)]; exact HEQ.out j (by omega), HST.out, HZ2.out, HU2.out, HO2.out⟩)
     first
      | exact REL.out
      | ((repeat apply Exists.intro); refine ⟨?_, rfl⟩; exact REL.out)
    case measure => (first | (simp [intOf]; done) | (simp [intOf]; omega))
  · obtain rfl : k = 9 := by omega
    have hd : decide (((9 : Nat) : Int) < 9) = false := by simp
    have HR := ϕ (shift_end (32 * 9) rfl HN.out HB0.out HV.out)
    have HM := ϕ (shift_mod HN.out HB0.out)
    go_wp2_with (go_at_call 147; refine (sub_any _ zs HZL.out HSM.out b HZ.out HO.out HNE.out).mono ?_; rintro e w1 ⟨⟨v1, rfl⟩, hz1, hu1, ho1⟩; have HZ1 := ϕ hz1; have HU1 := ϕ hu1; have HO1 := ϕ ho1; clear hz1 hu1 ho1)
    go_end0
    refine ⟨⟨_, rfl⟩, ?_, Sp.Upd.trans HU.out HU1.out (fun q hq => .inl hq), HO1.out⟩
    obtain ⟨us, u1, u2, u3, u4⟩ := HZ1.out
    exact ⟨us, u1, u2, by rw [u3, HR.out, HM.out], u4⟩
theorem vk_word {xs : List Nat} (h : sm32 xs) {j : Nat} : ∀ {k : Nat}, j < k → vk xs k / 2 ^ (32 * j) % 2 ^ 32 = nth xs j
 | 0, hj => absurd hj (by omega)
 | k + 1, hj => by
  show (vk xs k + nth xs k * 2 ^ (32 * k)) / 2 ^ (32 * j) % 2 ^ 32 = _
  by_cases e : j = k
  · subst e
    rw [Nat.add_mul_div_right _ _ (Nat.pow_pos (by decide)), Nat.div_eq_of_lt (vk_lt h j), Nat.zero_add]
    exact Nat.mod_eq_of_lt (h j)
  · have hk : j < k := by omega
    obtain ⟨d, rfl⟩ : ∃ d, k = j + 1 + d := ⟨k - j - 1, by omega⟩
    rw [show 32 * (j + 1 + d) = 32 * d + 32 + 32 * j by omega, Nat.pow_add, ← Nat.mul_assoc, Nat.add_mul_div_right _ _ (Nat.pow_pos (by decide)), Nat.pow_add, ← Nat.mul_assoc, Nat.add_mul_mod_self_right]
    exact vk_word h hk
theorem byte_word {xs : List Nat} (h : sm32 xs) {i : Nat} (hi : i < 32) : vk xs 9 / 256 ^ i % 256 = nth xs (i / 4) / 2 ^ (8 * (i % 4)) % 256 := by
 have h1 := vk_word h (j := i / 4) (k := 9) (by omega)
 rw [← h1, show (256 : Nat) ^ i = 2 ^ (32 * (i / 4)) * 2 ^ (8 * (i % 4)) from by rw [show (256 : Nat) = 2 ^ 8 from rfl, ← Nat.pow_mul, ← Nat.pow_add]; congr 1; omega, ← Nat.div_div_eq_div_mul]
 generalize vk xs 9 / 2 ^ (32 * (i / 4)) = m at *
 have h4 : i % 4 < 4 := Nat.mod_lt _ (by decide)
 generalize i % 4 = r at *
 have : r = 0 ∨ r = 1 ∨ r = 2 ∨ r = 3 := by omega
 rcases this with rfl | rfl | rfl | rfl <;> omega
theorem toLe_of {n : Nat} {l : List UInt8} (hl : l.length = 32) (h : ∀ j, j < 32 → l[j]? = some (UInt8.ofNat (n / 256 ^ j % 256))) : l = toLe 32 n := by
 apply List.ext_getElem?
 intro j
 by_cases hj : j < 32
 · rw [h j hj, toLe_get 32 n j hj]
 · rw [List.getElem?_eq_none (by omega), List.getElem?_eq_none (by rw [qy_]; omega)]
theorem z32b : (Cv.bytesV (List.replicate 32 0)) = (#[.int .u8 0, .int .u8 0, .int .u8 0, .int .u8 0, .int .u8 0, .int .u8 0, .int .u8 0, .int .u8 0, .int .u8 0, .int .u8 0, .int .u8 0, .int .u8 0, .int .u8 0, .int .u8 0, .int .u8 0, .int .u8 0, .int .u8 0, .int .u8 0, .int .u8 0, .int .u8 0, .int .u8 0, .int .u8 0, .int .u8 0, .int .u8 0, .int .u8 0, .int .u8 0, .int .u8 0, .int .u8 0, .int .u8 0, .int .u8 0, .int .u8 0, .int .u8 0] : Array Value) := by unfold Cv.bytesV; rfl
theorem nbytes_any (w : World) (xs : List Nat) (hl : xs.length = 9) (hs : sm32 xs) (b : Nat) (hx : Rg.Blk w b 193 (u32s xs)) : Calls prog 121 #[.pointer (some ⟨b, 0, none⟩)] w fun e w' => e = .returned (.agg (Cv.bytesV (toLe 32 (vk xs 9)))) ∧ Below w.heap.size w w' := by
 have HX := ϕ hx
 have HS := ϕ hs
 have HL := ϕ hl
 clear hx hs hl
 go_enter func121, ntmps121
 go_upto_region 3 with fail
 obtain ⟨rb, hrb⟩ : ∃ n, w.heap.size = n := exr
 obtain ⟨ob, hob⟩ : ∃ n, w.heap.size + 1 = n := exr
 have HO1 := ϕ (show Rg.Blk ((w.alloc (.cells z32 22)).alloc (.cells z32 22)) ob 22 (Cv.bytesV (List.replicate 32 0)) from z32b ▸ Rg.Blk.newAt (by rw [← hob]; simp) _ _)
 have HR1 := ϕ (show Rg.Blk ((w.alloc (.cells z32 22)).alloc (.cells z32 22)) rb 22 z32 from (Rg.Blk.newAt hrb.symm _ _).alloc _)
 have HX1 := ϕ ((HX.out.alloc (.cells z32 22)).alloc (.cells z32 22))
 have HB1 := ϕ (show Below w.heap.size w ((w.alloc (.cells z32 22)).alloc (.cells z32 22)) from ((Below.refl _ _).alloc (Nat.le_refl _) _).alloc (by simp) _)
 have HN := ϕ (show w.heap.size ≤ rb ∧ w.heap.size ≤ ob ∧ ¬ rb = ob ∧ b < rb ∧ b < ob from by have := HX.out.lt; omega)
 rw [hob, hrb]
 generalize (w.alloc (.cells z32 22)).alloc (.cells z32 22) = Y at *
 clear HX hob hrb
 go_loopw [5] (fun i wr => ∃ (k : Nat) (l : List UInt8), k ≤ 32 ∧ i = .int .i64 k ∧ l.length = 32 ∧ (∀ j, j < k → l[j]? = some (UInt8.ofNat (vk xs 9 / 256 ^ j % 256))) ∧ Rg.Blk wr ob 22 (Cv.bytesV l) ∧ Rg.Blk wr rb 22 z32 ∧ Rg.Blk wr b 193 (u32s xs) ∧ Below w.heap.size w wr) (fun i _ => 32 - (intOf i).toNat)
 case atStart => exact ⟨0, List.replicate 32 0, by decide, rfl, by simp, fun j h => absurd h (by omega), HO1.out, HR1.out, HX1.out, HB1.out⟩
 case round =>
  obtain ⟨k, l, hk, rfl, hl, hg, ho, hr, hx, hb⟩ := hrel
  clear HO1 HR1 HX1 HB1
  have HLL := ϕ hl
  have HG := ϕ hg
  have HO := ϕ ho
  have HR := ϕ hr
  have HX := ϕ hx
  have HB := ϕ hb
  clear hl hg ho hr hx hb
  by_cases hk5 : k < 32
  · have hki : (k : Int) < 32 := by omega
    have hk0 : (0 : Int) ≤ k := by omega
    have hd : decide ((k : Int) < 32) = true := by simp; exact hki
    obtain ⟨q, hq⟩ : ∃ q, k / 4 = q := exr
    obtain ⟨r, hr⟩ : ∃ r, k % 4 = r := exr
    obtain ⟨s, hs⟩ : ∃ s, 8 * r = s := exr
    have hq9 : q < 9 := by omega
    have hqz : (q : Int) < 9 := by omega
    have hq0 : (0 : Int) ≤ q := by omega
    have hr0 : (0 : Int) ≤ r := by omega
    have hs0 : (0 : Int) ≤ s := by omega
    have hs32 : min s 32 = s := by omega
    have eq1 : IntKind.i64.wrap ((k : Int) / 4) = (q : Int) := by rw [show (k : Int) / 4 = (q : Int) by omega]; exact wrapI (by omega)
    have er : (k : Int).tmod 4 = (r : Int) := by rw [Int.tmod_eq_emod_of_nonneg (by omega)]; omega
    have es : IntKind.i64.wrap (8 * (r : Int)) = (s : Int) := by rw [show 8 * (r : Int) = (s : Int) by omega]; exact wrapI (by omega)
    obtain ⟨x, hx⟩ : ∃ x, nth xs q = x := exr
    have hcx := u32s_get (by rw [HL.out]; exact hq9 : q < xs.length)
    rw [hx] at hcx
    have cx := HX.out.cell q hcx
    obtain ⟨c, hc⟩ : ∃ c, x / 2 ^ s = c := exr
    have esr : (x : Int) / 2 ^ s = (c : Int) := by rw [← hc]; simp
    obtain ⟨v, hv⟩ : ∃ v : UInt8, UInt8.ofNat (c % 256) = v := exr
    have hvn : v.toNat = c % 256 := by rw [← hv, UInt8.toNat_ofNat']; omega
    have ev : IntKind.u8.wrap (c : Int) = (v.toNat : Int) := by rw [hvn]; simp [IntKind.wrap, IntKind.bits, IntKind.signed]
    have ev2 : (c : Int) % 256 = (v.toNat : Int) := by rw [hvn]; omega
    have HVV := ϕ (show UInt8.ofNat (vk xs 9 / 256 ^ k % 256) = v from by rw [byte_word HS.out hk5, hq, hr, hx, hs, hc, hv])
    clear hx hcx hc hv hvn hq hr hs hq9
    go_upto_region 6 with ((with_reducible refine qd_ ?_); refine Cv.store_byte rfl 5 _ _ rfl (b := ob) (j := k) (l := l) (v := v) rfl (by first | rfl | (simp [ev, ev2]; done)) underlying5 (by kernel_rfl) HO.out (by rw [HLL.out]; exact hk5) ?_; intro V hV hgV; have HO2 := ϕ hV; have HR2 := ϕ (qb_ HR.out hgV (fun e => HN.out.2.2.1 e.symm)); have HX2 := ϕ (qb_ HX.out hgV (by have := HN.out; omega)); have HB2 := ϕ (HB.out.grown hgV HB.out.size (fun j e => by cases e; exact HN.out.2.1)); clear hV hgV)
    go_wp2_with fail
    go_roundw
    case rel =>
     have REL := ϕ (show ∃ (k' : Nat) (l' : List UInt8), k' ≤ 32 ∧ Value.int .i64 ((k : Int) + 1) = .int .i64 k' ∧ l'.length = 32 ∧ (∀ j, j < k' → l'[j]? = some (UInt8.ofNat (vk xs 9 / 256 ^ j % 256))) ∧ Rg.Blk V ob 22 (Cv.bytesV l') ∧ Rg.Blk V rb 22 z32 ∧ Rg.Blk V b 193 (u32s xs) ∧ Below w.heap.size w V from
      ⟨k + 1, l.set k v, hk5, rfl, by rw [List.length_set]; exact HLL.out, fun j hj => by
       by_cases e : j = k
       · subst e; rw [List.getElem?_set_self (by rw [HLL.out]; exact hk5), HVV.out]
       · rw [List.getElem?_set_ne (fun h => e h.symm)]; exact HG.out j (by omega), HO2.out, HR2.out, HX2.out, HB2.out⟩)
     first
      | exact REL.out
      | ((repeat apply Exists.intro); refine ⟨?_, rfl⟩; exact REL.out)
    case measure => (first | (simp [intOf]; done) | (simp [intOf]; omega))
  · obtain rfl : k = 32 := by omega
    have hd : decide (((32 : Nat) : Int) < 32) = false := by simp
    have HTL := ϕ (toLe_of HLL.out HG.out)
    go_wp2_with (first
     | ((with_reducible refine qd_ ?_); refine Cv.qn_ rfl 22 _ rfl ob 0 rfl (Cv.bytesV l) _ (fun j v hv => by rw [Nat.zero_add]; exact Rg.Blk.cell HO.out j hv) underlying22 rfl (by rw [Cv.qa_, HLL.out]; kernel_rfl) ?_)
     | ((with_reducible refine qd_ ?_); refine Cv.qu_ rfl 22 _ _ rfl rb (Cv.bytesV l) z32 22 rfl rfl HR.out (by rw [Cv.qa_, HLL.out]; kernel_rfl) (by rw [Cv.qa_, HLL.out]; rfl) (Cv.qk_ _) ?_; intro V hV hgV; have HZ := ϕ hV; have HB2 := ϕ (HB.out.grown hgV HB.out.size (fun j e => by cases e; exact HN.out.1)); clear hV hgV))
    rw [← HTL.out]
    refine bodyPost_ret (v := .agg (Cv.bytesV l))
     (results_cell_row results121 _ _ rb 22 _ (0, 0) _ rfl HZ.out underlying22 rfl (by rw [Cv.qa_, HLL.out]; kernel_rfl)) rfl ?_
    exact ⟨rfl, HB2.out⟩
theorem red_step (A j : Nat) : (2 * (A / 2 ^ (j + 1) % Ed.L) + A / 2 ^ j % 2) % Ed.L = A / 2 ^ j % Ed.L := by
 rw [Nat.pow_succ, ← Nat.div_div_eq_div_mul]
 generalize A / 2 ^ j = m
 have h : m = 2 * (m / 2) + m % 2 := by omega
 conv => rhs; rw [h]
 rw [Nat.add_mod, Nat.mul_mod, Nat.mod_mod, ← Nat.mul_mod, ← Nat.add_mod]
theorem red_next {A v j k k' b : Nat} (hv : v = A / 2 ^ k' % Ed.L) (hk : k' = j + 1) (hb : A / 2 ^ j % 2 = b) (hk2 : k = j) : (2 * v + b) % Ed.L = A / 2 ^ k % Ed.L := by
 subst hk2 hk hv hb
 exact red_step A k
theorem div_topV {A n : Nat} (h : A < (2 ^ 8) ^ n) : A / 2 ^ (8 * n) = 0 := by
 rw [Nat.pow_mul]
 exact Nat.div_eq_of_lt h
theorem div_top {A m : Nat} (n : Nat) (h : A < (2 ^ 8) ^ n) (hm : m = 8 * n) : A / 2 ^ m = 0 := by
 subst hm
 exact div_topV h
theorem L_pos : 0 < Ed.L := by decide +kernel
theorem n9z : vk (List.replicate 9 0) 9 = 0 := by decide
theorem n9s : sm32 (List.replicate 9 0) := fun j => by
 unfold nth
 rw [List.getD_eq_getElem?_getD, List.getElem?_replicate]
 split <;> decide
theorem n9b : (u32s (List.replicate 9 0)) = (#[.int .u32 0, .int .u32 0, .int .u32 0, .int .u32 0, .int .u32 0, .int .u32 0, .int .u32 0, .int .u32 0, .int .u32 0] : Array Value) := by unfold u32s; rfl
theorem str_bit (t : ByteArray) {q r j : Nat} (hq : q < t.size) (hr : r < 8) (hj : 8 * q + r = j) : leN t.data.toList / 2 ^ j % 2 = t[q].toNat / 2 ^ r % 2 := by
 have hl : q < t.data.toList.length := by rw [Array.length_toList]; exact hq
 have h := leN_bit t.data.toList q r hl hr
 rw [hj] at h
 rw [h]
 rfl
theorem Reduce_any (w : World) (t : ByteArray) (ht : t.size = 64) (hO : Ord w) : Calls prog 80 #[.string t] w fun e w' => e = .returned (.agg (Cv.bytesV (toLe 32 (leN t.data.toList % Ed.L)))) ∧ Below w.heap.size w w' := by
 obtain ⟨A, hA⟩ : ∃ n, leN t.data.toList = n := exr
 have HT := ϕ (show t.data.toList.length = 64 by rw [Array.length_toList]; exact ht)
 have HA := ϕ hA
 have HO := ϕ hO
 have HTS := ϕ ht
 have HA0 := ϕ (div_top (A := A) (m := 512) 64 (by
  have h := leN_lt t.data.toList
  rw [HT.out, hA] at h
  exact h) rfl)
 rw [hA]
 have hsl : ∀ W : World, (Instr.slice 9 (.string t) none (some (.int .i64 64)) none).run prog W = .ok (.string t) W := fun W => by
  rw [run_slice_string_to_if (P := prog) (w := W) 9 t .i64 64 underlying9, if_pos (by omega)]
  have e : t.extract 0 64 = t := by rw [← ht]; exact ByteArray.extract_zero_size
  rw [show (64 : Int).toNat = 64 from rfl, e]
 have htz : (t.size : Int) = 64 := by omega
 clear hO hA
 go_enter func80, ntmps80
 go_upto_region 1 with fail
 obtain ⟨rb, hrb⟩ : ∃ n, w.heap.size = n := exr
 have HR1 := ϕ (show Rg.Blk (w.alloc (.cells z32 22)) rb 22 z32 from Rg.Blk.newAt hrb.symm _ _)
 have HB1 := ϕ (show Below w.heap.size w (w.alloc (.cells z32 22)) from (Below.refl _ _).alloc (Nat.le_refl _) _)
 have HO1 := ϕ (HO.out.below HB1.out HO.out.size)
 have HN := ϕ (show w.heap.size ≤ rb from Nat.le_of_eq hrb)
 rw [hrb]
 generalize w.alloc (.cells z32 22) = Y at *
 clear hrb
 go_upto_region 4 with ((with_reducible refine qd_ ?_); refine Rg.qh_ rfl 193 _ rfl (u32s (List.replicate 9 0)) (by rw [n9b]; rfl) ?_; intro X hX hbX hnX; have HX := ϕ hX; have HBX := ϕ hbX; clear hX hbX hnX)
 obtain ⟨nb, hnb⟩ : ∃ n, Y.heap.size = n := exr
 have HX1 := ϕ (show Rg.Blk X nb 193 (u32s (List.replicate 9 0)) from hnb ▸ HX.out)
 have HN2 := ϕ (show w.heap.size ≤ nb ∧ ¬ rb = nb ∧ 22 < nb from by
  have h1 := HR1.out.lt
  have h2 := HO1.out.size
  have h3 := HN.out
  omega)
 have HR2 := ϕ (HR1.out.below HBX.out HR1.out.lt)
 have HB2 := ϕ (HB1.out.trans (HBX.out.mono HB1.out.size))
 have HO2 := ϕ (HO1.out.below HBX.out HO1.out.size)
 rw [hnb]
 clear hnb HX HBX HR1 HB1 HO1 hsl htz
 go_loopw [4] (fun i wr => ∃ (k : Nat) (zs : List Nat), k ≤ 512 ∧ i = .int .i64 ((k : Int) - 1) ∧ zs.length = 9 ∧ sm32 zs ∧ vk zs 9 = A / 2 ^ k % Ed.L ∧ Rg.Blk wr nb 193 (u32s zs) ∧ Rg.Blk wr rb 22 z32 ∧ Ord wr ∧ Below w.heap.size w wr) (fun i _ => (intOf i + 1).toNat)
 case atStart => exact ⟨512, List.replicate 9 0, Nat.le_refl _, rfl, rfl, n9s, by rw [n9z, HA0.out, Nat.zero_mod], HX1.out, HR2.out, HO2.out, HB2.out⟩
 case round =>
  obtain ⟨k, zs, hk, rfl, hzl, hsm, hv, hz, hr, ho, hb⟩ := hrel
  clear HX1 HR2 HO2 HB2
  have HZL := ϕ hzl
  have HSM := ϕ hsm
  have HV := ϕ hv
  have HZ := ϕ hz
  have HR := ϕ hr
  have HO := ϕ ho
  have HB := ϕ hb
  clear hzl hsm hv hz hr ho hb
  cases k with
  | zero =>
   have hd : decide ((0 : Int) ≤ ((0 : Nat) : Int) - 1) = false := by simp
   have HE := ϕ (show toLe 32 (vk zs 9) = toLe 32 (A % Ed.L) from by rw [HV.out, show (2 : Nat) ^ 0 = 1 from rfl, Nat.div_one])
   go_wp2_with (first
    | (go_at_call 121; refine (nbytes_any _ zs HZL.out HSM.out nb HZ.out).mono ?_; rintro e w1 ⟨rfl, hb1⟩; rw [HE.out]; have HR1 := ϕ (HR.out.below hb1 HR.out.lt); have HB1 := ϕ (HB.out.trans (hb1.mono HB.out.size)); clear hb1)
    | ((with_reducible refine qd_ ?_); refine Cv.qu_ rfl 22 _ _ rfl rb (Cv.bytesV (toLe 32 (A % Ed.L))) z32 22 rfl rfl HR1.out (by rw [Cv.qa_, qy_]; kernel_rfl) (by rw [Cv.qa_, qy_]; rfl) (Cv.qk_ _) ?_; intro V hV hgV; have HZ2 := ϕ hV; have HB2 := ϕ (HB1.out.grown hgV HB1.out.size (fun j e => by cases e; exact HN.out)); clear hV hgV))
   refine bodyPost_ret (v := .agg (Cv.bytesV (toLe 32 (A % Ed.L))))
    (results_cell_row results80 _ _ rb 22 _ (0, 0) _ rfl HZ2.out underlying22 rfl (by rw [Cv.qa_, qy_]; kernel_rfl)) rfl ?_
   exact ⟨rfl, HB2.out⟩
  | succ m =>
   have hd : decide ((0 : Int) ≤ ((m + 1 : Nat) : Int) - 1) = true := by simp
   have hmm : ((m + 1 : Nat) : Int) - 1 = (m : Int) := by omega
   rw [hmm] at hd ⊢
   have HM := ϕ hk
   have hm0 : (0 : Int) ≤ m := by omega
   have hm5 : (m : Int) < 512 := by omega
   obtain ⟨q, hq⟩ : ∃ q, m / 8 = q := exr
   obtain ⟨r, hr⟩ : ∃ r, m % 8 = r := exr
   have hr8 : r < 8 := by omega
   have hqs : q < t.size := by have := HTS.out; omega
   have hqz : (q : Int) < (t.size : Int) := by omega
   have hq0 : (0 : Int) ≤ q := by omega
   have hr0 : (0 : Int) ≤ r := by omega
   have hr64 : min r 8 = r := by omega
   have eq1 : IntKind.i64.wrap ((m : Int) / 8) = (q : Int) := by rw [show (m : Int) / 8 = (q : Int) by omega]; exact wrapI (by omega)
   have er : (m : Int).tmod 8 = (r : Int) := by rw [Int.tmod_eq_emod_of_nonneg (by omega)]; omega
   have hsb := str_bit t hqs hr8 (show 8 * q + r = m by omega)
   obtain ⟨bn, hbn⟩ : ∃ n, t[q].toNat = n := exr
   rw [hbn, HA.out] at hsb
   have hb256 : bn < 256 := by rw [← hbn]; exact t[q].toNat_lt
   obtain ⟨c, hc⟩ : ∃ c, bn / 2 ^ r = c := exr
   have hc256 : c < 256 := by rw [← hc]; exact Nat.lt_of_le_of_lt (Nat.div_le_self _ _) hb256
   have esr : (bn : Int) / 2 ^ r = (c : Int) := by rw [← hc]; simp
   obtain ⟨d, hd2⟩ : ∃ d, c % 2 = d := exr
   have ean : bits .and .u8 (c : Int) 1 = (d : Int) := by rw [← hd2, ← Nat.and_one_is_mod]; exact u8_and_nat c 1 hc256 (by decide)
   have hdl : d < 2 := by omega
   have hdw : IntKind.u32.wrap (d : Int) = (d : Int) := by simp [IntKind.wrap, IntKind.bits, IntKind.signed]; omega
   have hdm : (d : Int) % 4294967296 = (d : Int) := by omega
   have HD2 := ϕ (show d < 2 from by omega)
   have HVV := ϕ (red_next HV.out rfl (show A / 2 ^ m % 2 = d by rw [hsb, hc, hd2]) rfl)
   have HLT := ϕ (show vk zs 9 < Ed.L from by rw [HV.out]; exact Nat.mod_lt _ L_pos)
   clear hsb hc hd2 hc256 hq hr hk hmm hdl
   go_upto_region 6 with fail
   go_wp2_with (go_at_call 120; refine (shift_any _ zs HZL.out HSM.out nb d HZ.out HO.out HN2.out.2.2 HLT.out HD2.out).mono ?_; rintro e w1 ⟨⟨v1, rfl⟩, hz1, hu1, ho1⟩; have HZ1 := ϕ hz1; have HO1 := ϕ ho1; have HR1 := ϕ (qm_ hu1 HR.out (by simp; exact HN2.out.2.1)); have HB1 := ϕ (qt_ HB.out hu1 (fun k hk => by simp at hk; rw [hk]; exact HN2.out.1) HB.out.size); clear hz1 hu1 ho1)
   go_roundw
   case rel =>
    obtain ⟨us, u1, u2, u3, u4⟩ := HZ1.out
    have REL := ϕ (show ∃ (k' : Nat) (zs' : List Nat), k' ≤ 512 ∧ Value.int .i64 ((m : Int) - 1) = .int .i64 ((k' : Int) - 1) ∧ zs'.length = 9 ∧ sm32 zs' ∧ vk zs' 9 = A / 2 ^ k' % Ed.L ∧ Rg.Blk w1 nb 193 (u32s zs') ∧ Rg.Blk w1 rb 22 z32 ∧ Ord w1 ∧ Below w.heap.size w w1 from
     ⟨m, us, by have := HM.out; omega, rfl, u1, u2, u3.trans HVV.out, u4, HR1.out, HO1.out, HB1.out⟩)
    first
     | exact REL.out
     | ((repeat apply Exists.intro); refine ⟨?_, rfl⟩; exact REL.out)
   case measure => (first | (simp [intOf]; done) | (simp [intOf]; omega))
theorem u64r_size (l : List Nat) : (Cl.u64s l).size = l.length := by unfold Cl.u64s; simp
theorem u64r_get {l : List Nat} {j : Nat} (h : j < l.length) : (Cl.u64s l)[j]? = some (.int .u64 (nth l j : Nat)) := by unfold Cl.u64s nth; simp [h]
theorem u64r_set (l : List Nat) (j v : Nat) : (Cl.u64s l).setIfInBounds j (.int .u64 (v : Int)) = Cl.u64s (l.set j v) := by unfold Cl.u64s; simp [List.map_set]
theorem wd_lt (l : List UInt8) (i : Nat) : wd l i < 2 ^ 32 := Nat.mod_lt _ (by decide)
theorem mod_word (A k : Nat) : A % 2 ^ (32 * k) + A / 2 ^ (32 * k) % 2 ^ 32 * 2 ^ (32 * k) = A % 2 ^ (32 * (k + 1)) := by
 rw [show 32 * (k + 1) = 32 * k + 32 by omega, Nat.pow_add, Nat.mod_mul, Nat.mul_comm (2 ^ (32 * k))]
theorem set_step {xs l : List Nat} {L : List UInt8} {k : Nat} (h : vk xs k = leN L % 2 ^ (32 * k)) (hk : k < xs.length) : vk (xs.set k (wd L k)) (k + 1) = leN L % 2 ^ (32 * (k + 1)) := by
 show vk (xs.set k _) k + nth (xs.set k _) k * _ = _
 rw [vk_set (Nat.le_refl k), nth_set hk, h]
 exact mod_word _ _
theorem vk_zero {xs : List Nat} {k : Nat} : ∀ {n : Nat}, (∀ j, k ≤ j → nth xs j = 0) → vk xs (k + n) = vk xs k
 | 0, _ => rfl
 | n + 1, h => by
  show vk xs (k + n) + nth xs (k + n) * _ = _
  rw [h (k + n) (by omega), Nat.zero_mul, Nat.add_zero]
  exact vk_zero h
theorem leN_256 {l : List UInt8} (h : l.length = 32) : leN l < 2 ^ 256 := by
 have h1 := leN_lt l
 rw [h] at h1
 exact Nat.lt_of_lt_of_eq h1 (by decide)
theorem mod_all {l : List UInt8} (h : l.length = 32) : leN l % 2 ^ (32 * 8) = leN l := Nat.mod_eq_of_lt (leN_256 h)
theorem mac_step {os o0 : List Nat} {b : Nat → Nat} {B : Nat → Nat} {p i k c a o bk x P : Nat} (hp : p = i + k) (h : vk os p + c * 2 ^ (32 * p) = vk o0 p + a * B k * P) (hP : P * 2 ^ (32 * k) = 2 ^ (32 * p)) (hB : B (k + 1) = B k + bk * 2 ^ (32 * k)) (ho : nth o0 p = o) (hk : p < os.length) (hx : o + a * bk + c = x) :
 vk (os.set p (x % 2 ^ 32)) (p + 1) + x / 2 ^ 32 * 2 ^ (32 * (p + 1)) = vk o0 (p + 1) + a * B (k + 1) * P := by
 show vk (os.set p _) p + nth (os.set p _) p * 2 ^ (32 * p) + _ = vk o0 p + nth o0 p * 2 ^ (32 * p) + _
 rw [vk_set (Nat.le_refl p), nth_set hk, ho, hB, show 32 * (p + 1) = 32 * p + 32 by omega, Nat.pow_add, Nat.mul_add a, Nat.add_mul]
 have e1 : a * (bk * 2 ^ (32 * k)) * P = a * bk * 2 ^ (32 * p) := by rw [← hP, Nat.mul_assoc, Nat.mul_assoc, Nat.mul_assoc, Nat.mul_comm P]
 have e2 : x % 2 ^ 32 * 2 ^ (32 * p) + x / 2 ^ 32 * (2 ^ (32 * p) * 2 ^ 32) = x * 2 ^ (32 * p) := by
  rw [Nat.mul_comm (2 ^ (32 * p)), ← Nat.mul_assoc, ← Nat.add_mul, Nat.mul_comm (x / 2 ^ 32), Nat.mod_add_div]
 rw [e1]
 have e3 : x * 2 ^ (32 * p) = o * 2 ^ (32 * p) + a * bk * 2 ^ (32 * p) + c * 2 ^ (32 * p) := by rw [← hx, Nat.add_mul, Nat.add_mul]
 generalize 2 ^ (32 * p) = Q at *
 generalize a * bk * Q = z1 at *
 generalize a * B k * P = z2 at *
 omega
theorem car_step {os o0 : List Nat} {p c o x D : Nat} (h : vk os p + c * 2 ^ (32 * p) = vk o0 p + D) (ho : nth o0 p = o) (hk : p < os.length) (hx : o + c = x) :
 vk (os.set p (x % 2 ^ 32)) (p + 1) + x / 2 ^ 32 * 2 ^ (32 * (p + 1)) = vk o0 (p + 1) + D := by
 show vk (os.set p _) p + nth (os.set p _) p * 2 ^ (32 * p) + _ = vk o0 p + nth o0 p * 2 ^ (32 * p) + _
 rw [vk_set (Nat.le_refl p), nth_set hk, ho, show 32 * (p + 1) = 32 * p + 32 by omega, Nat.pow_add]
 have e2 : x % 2 ^ 32 * 2 ^ (32 * p) + x / 2 ^ 32 * (2 ^ (32 * p) * 2 ^ 32) = x * 2 ^ (32 * p) := by
  rw [Nat.mul_comm (2 ^ (32 * p)), ← Nat.mul_assoc, ← Nat.add_mul, Nat.mul_comm (x / 2 ^ 32), Nat.mod_add_div]
 have e3 : x * 2 ^ (32 * p) = o * 2 ^ (32 * p) + c * 2 ^ (32 * p) := by rw [← hx, Nat.add_mul]
 generalize 2 ^ (32 * p) = Q at *
 omega
theorem mac_end {V c C B A a P M : Nat} (h : V + c * M = C + B * (A % P) + a * B * P) (hA : A % P + a * P = A % (P * 2 ^ 32)) (hM : C + B * A < M) : V = C + B * (A % (P * 2 ^ 32)) := by
 have e : C + B * (A % P) + a * B * P = C + B * (A % (P * 2 ^ 32)) := by rw [← hA, Nat.mul_add, Nat.mul_comm a B, Nat.mul_assoc, Nat.add_assoc]
 have h1 : B * (A % (P * 2 ^ 32)) ≤ B * A := Nat.mul_le_mul_left _ (Nat.mod_le _ _)
 rw [e] at h
 cases c with
 | zero => omega
 | succ c =>
  rw [Nat.add_mul, Nat.one_mul] at h
  omega
theorem all_ltV {A B C P : Nat} (hA : A < P) (hB : B < P) (hC : C < P) : C + B * A < P * P := by
 obtain ⟨q, rfl⟩ : ∃ q, P = q + 1 := ⟨P - 1, by omega⟩
 have h1 : B * A ≤ q * q := Nat.mul_le_mul (by omega) (by omega)
 have h2 : (q + 1) * (q + 1) = q * q + 2 * q + 1 := by rw [Nat.add_mul, Nat.mul_add]; omega
 omega
theorem pow_dbl (m k : Nat) (h : k = m + m) : 2 ^ k = 2 ^ m * 2 ^ m := by subst h; exact Nat.pow_add 2 m m
theorem mac_lt {o a b c : Nat} (ho : o < 4294967296) (ha : a < 4294967296) (hb : b < 4294967296) (hc : c < 4294967296) : a * b ≤ 18446744065119617025 ∧ o + a * b + c < 18446744073709551616 := by
 have h1 : a * b ≤ 4294967295 * 4294967295 := Nat.mul_le_mul (by omega) (by omega)
 omega
theorem byte_word16 {xs : List Nat} (h : sm32 xs) {i : Nat} (hi : i < 64) : vk xs 16 / 256 ^ i % 256 = nth xs (i / 4) / 2 ^ (8 * (i % 4)) % 256 := by
 have h1 := vk_word h (j := i / 4) (k := 16) (by omega)
 rw [← h1, show (256 : Nat) ^ i = 2 ^ (32 * (i / 4)) * 2 ^ (8 * (i % 4)) from by rw [show (256 : Nat) = 2 ^ 8 from rfl, ← Nat.pow_mul, ← Nat.pow_add]; congr 1; omega, ← Nat.div_div_eq_div_mul]
 generalize vk xs 16 / 2 ^ (32 * (i / 4)) = m at *
 have h4 : i % 4 < 4 := Nat.mod_lt _ (by decide)
 generalize i % 4 = r at *
 have : r = 0 ∨ r = 1 ∨ r = 2 ∨ r = 3 := by omega
 rcases this with rfl | rfl | rfl | rfl <;> omega
theorem toLe_ofn {n m : Nat} {l : List UInt8} (hl : l.length = m) (h : ∀ j, j < m → l[j]? = some (UInt8.ofNat (n / 256 ^ j % 256))) : l = toLe m n := by
 apply List.ext_getElem?
 intro j
 by_cases hj : j < m
 · rw [h j hj, toLe_get m n j hj]
 · rw [List.getElem?_eq_none (by omega), List.getElem?_eq_none (by rw [qy_]; omega)]
theorem and32 {x : Nat} (h : x < 18446744073709551616) : bits .and .u64 (x : Int) 4294967295 = ((x % 4294967296 : Nat) : Int) := by
 have h1 := u64_and_nat x 4294967295 h (by decide)
 rw [show (4294967295 : Nat) = 2 ^ 32 - 1 from rfl, Nat.and_two_pow_sub_one_eq_mod] at h1
 exact h1
theorem Fits_any (w : World) (l : List UInt8) (hl : l.length = 32) (hO : Ord w) : Calls prog 97 #[.agg (Cv.bytesV l)] w fun e w' => e = .returned (.bool (decide (leN l < Ed.L))) ∧ Below w.heap.size w w' := by
 have HL := ϕ hl
 have HO := ϕ hO
 clear hl hO
 go_enter func97, ntmps97
 go_upto_region 1 with ((with_reducible refine qd_ ?_); refine Rg.qh_ rfl 22 _ rfl (Cv.bytesV l) rfl ?_; intro X hX hbX hnX; have HX := ϕ hX; have HBX := ϕ hbX; clear hX hbX hnX)
 obtain ⟨sb, hsb⟩ : ∃ n, w.heap.size = n := exr
 have HS1 := ϕ (show Rg.Blk X sb 22 (Cv.bytesV l) from hsb ▸ HX.out)
 have HO1 := ϕ (HO.out.below HBX.out HO.out.size)
 have HN1 := ϕ (show w.heap.size ≤ sb from Nat.le_of_eq hsb)
 have HBX1 := ϕ HBX.out
 try rw [hsb]
 clear hsb HX HBX
 go_upto_region 3 with ((with_reducible refine qd_ ?_); refine Rg.qh_ rfl 193 _ rfl (u32s (List.replicate 9 0)) (by rw [n9b]; rfl) ?_; intro Y hX hbX hnX; have HY := ϕ hX; have HBY := ϕ hbX; clear hX hbX hnX)
 obtain ⟨nb, hnb⟩ : ∃ n, X.heap.size = n := exr
 have HZ1 := ϕ (show Rg.Blk Y nb 193 (u32s (List.replicate 9 0)) from hnb ▸ HY.out)
 have HN2 := ϕ (show w.heap.size ≤ nb ∧ ¬ sb = nb ∧ 22 < nb from by
  have h1 := HS1.out.lt
  have h2 := HO1.out.size
  have h3 := HN1.out
  omega)
 have HS2 := ϕ (HS1.out.below HBY.out HS1.out.lt)
 have HB2 := ϕ (HBX1.out.trans (HBY.out.mono HBX1.out.size))
 have HO2 := ϕ (HO1.out.below HBY.out HO1.out.size)
 try rw [hnb]
 clear hnb HY HBY HS1 HBX1 HO1
 go_loopw [7] (fun i wr => ∃ (k : Nat) (zs : List Nat), k ≤ 8 ∧ i = .int .i64 k ∧ zs.length = 9 ∧ sm32 zs ∧ vk zs k = leN l % 2 ^ (32 * k) ∧ (∀ j, k ≤ j → nth zs j = 0) ∧ Rg.Blk wr nb 193 (u32s zs) ∧ Rg.Blk wr sb 22 (Cv.bytesV l) ∧ Ord wr ∧ Below w.heap.size w wr) (fun i _ => 8 - (intOf i).toNat)
 case atStart => exact ⟨0, List.replicate 9 0, by decide, rfl, rfl, n9s, by rw [show (2 : Nat) ^ (32 * 0) = 1 from rfl, Nat.mod_one]; rfl, fun j _ => by unfold nth; rw [List.getD_eq_getElem?_getD, List.getElem?_replicate]; split <;> rfl, HZ1.out, HS2.out, HO2.out, HB2.out⟩
 case round =>
  obtain ⟨k, zs, hk, rfl, hzl, hsm, hv, h0, hz, hs, ho, hb⟩ := hrel
  clear HZ1 HS2 HO2 HB2
  have HZL := ϕ hzl
  have HSM := ϕ hsm
  have HV := ϕ hv
  have H0 := ϕ h0
  have HZ := ϕ hz
  have HS := ϕ hs
  have HO := ϕ ho
  have HB := ϕ hb
  clear hzl hsm hv h0 hz hs ho hb
  by_cases hk8 : k < 8
  · have hki : (k : Int) < 8 := by omega
    have hk0 : (0 : Int) ≤ k := by omega
    have hd : decide ((k : Int) < 8) = true := by simp; exact hki
    have HK8 := ϕ hk8
    have HE := ϕ (show (0 : Int) ≤ k ∧ (k : Int) < 9 from ⟨hk0, by omega⟩)
    have HE2 := ϕ (show IntKind.u32.wrap ((wd l k : Nat) : Int) = ((wd l k : Nat) : Int) from by have h := wd_lt l k; simp [IntKind.wrap, IntKind.bits, IntKind.signed]; omega)
    have HSZ := ϕ (show k < (u32s zs).size from by rw [u32s_size, HZL.out]; omega)
    go_upto_region 5 with fail
    clear hd
    refine RL.start (fun W => Sp.Upd wr W [nb]) (by kernel_rfl) (Sp.Upd.trans (Sp.Upd.refl _ _) (Sp.Upd.of_below (Below.drew (Below.refl _ _))) (by simp)) ?_
    refine RL.tu 0 ?_; go_frame
    refine RL.tu 1 ?_; go_frame
    refine RL.tw 2 (v := .agg (Cv.bytesV l)) rfl (fun W hSW => RT.qx_ 22 _ rfl _ rfl _ _ (qm_ hSW HS.out (by simp; exact HN2.out.2.1)) underlying22 rfl (by rw [Cv.qa_, HL.out]; kernel_rfl)) ?_
    try go_frame
    refine RL.tu 3 ?_; go_frame
    refine' RL.td 4 (v := (.int .u64 (wd l k : Nat))) 81 #[.agg (Cv.bytesV l), .int .i64 k] ?hc4 ?_
    case hc4 => (intro W hSW; exact (word_any W l HL.out k HK8.out).mono (fun e w9 h9 => ⟨h9.1, h9.2, Sp.Upd.trans hSW (Sp.Upd.of_below h9.2) (by simp)⟩))
    try go_frame
    refine' RL.tv 5 ?hk5 ?_
    case hk5 => (intro W hSW; have e1 := HE2.out; go_simp; try with_reducible rfl)
    try go_frame
    refine RL.tu 6 ?_; go_frame
    refine' RL.tv 7 ?hk7 ?_
    case hk7 => (intro W hSW; have e1 := HE.out; go_simp; try with_reducible rfl)
    try go_frame
    refine RL.sk 8 (fun va hlva hsva K hK => ?_)
    have hO6 := (HZ.out.below (Below.drew (Below.refl _ _)) HZ.out.lt).below hlva (by have := HZ.out.lt; simpa using this)
    refine store_one_op 100 _ _ rfl nb k (.int .u32 (wd l k : Nat)) (u32s zs) 193 rfl (by first | rfl | (simp [HE2.out]; done)) rfl hO6 (by kernel_rfl) HSZ.out rfl ?_
    intro Y hY hgY
    refine hK.out _ _ (Sp.Upd.trans hsva (Sp.Upd.of_grown1 hgY) (fun q hq => .inl hq)) ?_
    clear hK
    try go_frame
    refine RL.done (by kernel_rfl) (fun V hlV hsV => ?_)
    have HZ2 := ϕ (show Rg.Blk V nb 193 (u32s (zs.set k (wd l k))) from by rw [← u32s_set]; exact Rg.Blk.below hY hlV hY.lt)
    have HS2 := ϕ (qm_ hsV HS.out (by simp; exact HN2.out.2.1))
    have HB2 := ϕ (qt_ HB.out hsV (fun k hk => by simp at hk; rw [hk]; exact HN2.out.1) HB.out.size)
    have HO2 := ϕ (ord_upd HO.out hsV HN2.out.2.2)
    clear hO6 hY hgY hlva hsva hlV hsV
    go_wp2_with fail
    go_roundw
    case rel =>
     have REL := ϕ (show ∃ (k' : Nat) (zs' : List Nat), k' ≤ 8 ∧ Value.int .i64 ((k : Int) + 1) = .int .i64 k' ∧ zs'.length = 9 ∧ sm32 zs' ∧ vk zs' k' = leN l % 2 ^ (32 * k') ∧ (∀ j, k' ≤ j → nth zs' j = 0) ∧ Rg.Blk V nb 193 (u32s zs') ∧ Rg.Blk V sb 22 (Cv.bytesV l) ∧ Ord V ∧ Below w.heap.size w V from
      ⟨k + 1, zs.set k (wd l k), HK8.out, rfl, by rw [List.length_set]; exact HZL.out, sm32_set HSM.out (wd_lt l k), set_step (l := []) HV.out (by rw [HZL.out]; omega), fun j hj => by rw [jc_ (by omega)]; exact H0.out j (by omega), HZ2.out, HS2.out, HO2.out, HB2.out⟩)
     first
      | exact REL.out
      | ((repeat apply Exists.intro); refine ⟨?_, rfl⟩; exact REL.out)
    case measure => (first | (simp [intOf]; done) | (simp [intOf]; omega))
  · obtain rfl : k = 8 := by omega
    have hd : decide (((8 : Nat) : Int) < 8) = false := by simp
    have HR := ϕ (show vk zs 9 = leN l from by
     rw [vk_zero (k := 8) (n := 1) H0.out, HV.out]
     exact mod_all HL.out)
    go_wp2_with (go_at_call 133; refine (less_any _ zs HZL.out HSM.out nb HZ.out HO.out).mono ?_; rintro e w1 ⟨rfl, hb1⟩; rw [HR.out]; have HB1 := ϕ (HB.out.trans (hb1.mono HB.out.size)); clear hb1)
    go_ret
    exact ⟨rfl, HB1.out⟩
structure MuS (w wr : World) (ab bb cb rb ob : Nat) (a b c : List UInt8) (os : List Nat) : Prop where
 pa : Rg.Blk wr ab 22 (Cv.bytesV a)
 pb : Rg.Blk wr bb 22 (Cv.bytesV b)
 pc : Rg.Blk wr cb 22 (Cv.bytesV c)
 pr : Rg.Blk wr rb 22 z32
 po : Rg.Blk wr ob 147 (Cl.u64s os)
 or : Ord wr
 be : Below w.heap.size w wr
 nn : w.heap.size ≤ ob ∧ w.heap.size ≤ rb ∧ ¬ ab = ob ∧ ¬ bb = ob ∧ ¬ cb = ob ∧ ¬ rb = ob ∧ 22 < ob
theorem MuS.below {w wr V : World} {ab bb cb rb ob : Nat} {a b c : List UInt8} {os : List Nat} (h : MuS w wr ab bb cb rb ob a b c os) (hb : Below wr.heap.size wr V) : MuS w V ab bb cb rb ob a b c os :=
 ⟨h.pa.below hb h.pa.lt, h.pb.below hb h.pb.lt, h.pc.below hb h.pc.lt, h.pr.below hb h.pr.lt, h.po.below hb h.po.lt, h.or.below hb h.or.size, h.be.trans (hb.mono h.be.size), h.nn⟩
theorem MuS.store {w wr V : World} {ab bb cb rb ob : Nat} {a b c : List UInt8} {os os' : List Nat} (h : MuS w wr ab bb cb rb ob a b c os) (hV : Rg.Blk V ob 147 (Cl.u64s os')) (hg : wr.grownBy V (some ob)) : MuS w V ab bb cb rb ob a b c os' :=
 have n := h.nn
 ⟨qb_ h.pa hg (fun e => n.2.2.1 e.symm), qb_ h.pb hg (fun e => n.2.2.2.1 e.symm), qb_ h.pc hg (fun e => n.2.2.2.2.1 e.symm), qb_ h.pr hg (fun e => n.2.2.2.2.2.1 e.symm), hV, ord_grown h.or hg n.2.2.2.2.2.2, h.be.grown hg h.be.size (fun j e => by cases e; exact n.1), n⟩
theorem z16b : Cl.u64s (List.replicate 16 0) = (#[.int .u64 0, .int .u64 0, .int .u64 0, .int .u64 0, .int .u64 0, .int .u64 0, .int .u64 0, .int .u64 0, .int .u64 0, .int .u64 0, .int .u64 0, .int .u64 0, .int .u64 0, .int .u64 0, .int .u64 0, .int .u64 0] : Array Value) := by unfold Cl.u64s; rfl
theorem z64b : (Cv.bytesV (List.replicate 64 0)) = (#[.int .u8 0, .int .u8 0, .int .u8 0, .int .u8 0, .int .u8 0, .int .u8 0, .int .u8 0, .int .u8 0, .int .u8 0, .int .u8 0, .int .u8 0, .int .u8 0, .int .u8 0, .int .u8 0, .int .u8 0, .int .u8 0, .int .u8 0, .int .u8 0, .int .u8 0, .int .u8 0, .int .u8 0, .int .u8 0, .int .u8 0, .int .u8 0, .int .u8 0, .int .u8 0, .int .u8 0, .int .u8 0, .int .u8 0, .int .u8 0, .int .u8 0, .int .u8 0, .int .u8 0, .int .u8 0, .int .u8 0, .int .u8 0, .int .u8 0, .int .u8 0, .int .u8 0, .int .u8 0, .int .u8 0, .int .u8 0, .int .u8 0, .int .u8 0, .int .u8 0, .int .u8 0, .int .u8 0, .int .u8 0, .int .u8 0, .int .u8 0, .int .u8 0, .int .u8 0, .int .u8 0, .int .u8 0, .int .u8 0, .int .u8 0, .int .u8 0, .int .u8 0, .int .u8 0, .int .u8 0, .int .u8 0, .int .u8 0, .int .u8 0, .int .u8 0] : Array Value) := by unfold Cv.bytesV; rfl
theorem n16s : sm32 (List.replicate 16 0) := fun j => by
 unfold nth
 rw [List.getD_eq_getElem?_getD, List.getElem?_replicate]
 split <;> decide
theorem n16z (j : Nat) : nth (List.replicate 16 0) j = 0 := by
 unfold nth
 rw [List.getD_eq_getElem?_getD, List.getElem?_replicate]
 split <;> rfl
theorem pow_split (i k : Nat) : 2 ^ (32 * i) * 2 ^ (32 * k) = 2 ^ (32 * (i + k)) := by rw [← Nat.pow_add, Nat.mul_add]
theorem vk_all {os o0 : List Nat} {p c D : Nat} (h : vk os p + c * 2 ^ (32 * p) = vk o0 p + D) (hp : p = 16) : vk os 16 + c * (2 ^ 256 * 2 ^ 256) = vk o0 16 + D := by
 rw [pow_dbl 256 (32 * p) (by omega)] at h
 subst hp
 exact h
def mulN (a b c : List UInt8) : Nat := leN c + leN b * leN a
theorem mulN_lt {a b c : List UInt8} (ha : a.length = 32) (hb : b.length = 32) (hc : c.length = 32) : mulN a b c < (2 ^ 256 * 2 ^ 256) := all_ltV (leN_256 ha) (leN_256 hb) (leN_256 hc)
theorem mac_round {os o0 : List Nat} {a b c : List UInt8} {i cc : Nat} (ha : a.length = 32) (hb : b.length = 32) (hc : c.length = 32)
 (h0 : vk o0 16 = leN c + leN b * (leN a % 2 ^ (32 * i))) (h : vk os 16 + cc * (2 ^ 256 * 2 ^ 256) = vk o0 16 + wd a i * leN b * 2 ^ (32 * i)) : vk os 16 = leN c + leN b * (leN a % 2 ^ (32 * (i + 1))) := by
 rw [h0] at h
 rw [show 32 * (i + 1) = 32 * i + 32 by omega, Nat.pow_add]
 refine mac_end h ?_ (all_ltV (leN_256 ha) (leN_256 hb) (leN_256 hc))
 have := mod_word (leN a) i
 rw [show 32 * (i + 1) = 32 * i + 32 by omega, Nat.pow_add] at this
 exact this
theorem mac_done {os : List Nat} {a b c : List UInt8} (ha : a.length = 32) (h : vk os 16 = leN c + leN b * (leN a % 2 ^ (32 * 8))) : vk os 16 = mulN a b c := by rw [h, mod_all ha]; rfl
theorem leN_64 {a b c : List UInt8} (ha : a.length = 32) (hb : b.length = 32) (hc : c.length = 32) : leN (toLe 64 (mulN a b c)) = mulN a b c := by
 rw [leN_toLe, Nat.mod_eq_of_lt (Nat.lt_of_lt_of_eq (mulN_lt ha hb hc) (by rw [show (256 : Nat) ^ 64 = 256 ^ 32 * 256 ^ 32 from Nat.pow_add 256 32 32, show (256 : Nat) ^ 32 = 2 ^ 256 from by decide]))]
theorem MulAdd_any (w : World) (a b c : List UInt8) (ha : a.length = 32) (hb : b.length = 32) (hc : c.length = 32) (hO : Ord w) : Calls prog 39 #[.agg (Cv.bytesV a), .agg (Cv.bytesV b), .agg (Cv.bytesV c)] w fun e w' => e = .returned (.agg (Cv.bytesV (toLe 32 (mulN a b c % Ed.L)))) ∧ Below w.heap.size w w' := by
 have HAL := ϕ ha
 have HBL := ϕ hb
 have HCL := ϕ hc
 have HO := ϕ hO
 clear ha hb hc hO
 go_enter func39, ntmps39
 have tb0 := trivial
 go_upto_region 2 with (first
  | (have _t := tb0; (with_reducible refine qd_ ?_); refine Rg.qh_ rfl 22 _ rfl (Cv.bytesV a) rfl ?_; intro X1 hX hbX hnX; have J0 := ϕ hX; have K0 := ϕ hbX; clear hX hbX hnX _t tb0; have tb1 := trivial)
  | (have _t := tb1; (with_reducible refine qd_ ?_); refine Rg.qh_ rfl 22 _ rfl (Cv.bytesV b) rfl ?_; intro X2 hX hbX hnX; have J1 := ϕ hX; have K1 := ϕ hbX; clear hX hbX hnX _t tb1; have tb2 := trivial)
  | (have _t := tb2; (with_reducible refine qd_ ?_); refine Rg.qh_ rfl 22 _ rfl (Cv.bytesV c) rfl ?_; intro X3 hX hbX hnX; have J2 := ϕ hX; have K2 := ϕ hbX; clear hX hbX hnX _t tb2; have tb3 := trivial))
 clear tb3
 obtain ⟨ab, hab⟩ : ∃ n, w.heap.size = n := exr
 obtain ⟨bb, hbb⟩ : ∃ n, X1.heap.size = n := exr
 obtain ⟨cb, hcb⟩ : ∃ n, X2.heap.size = n := exr
 obtain ⟨rb, hrb⟩ : ∃ n, X3.heap.size = n := exr
 obtain ⟨ob, hob⟩ : ∃ n, X3.heap.size + 1 = n := exr
 have l0 := HO.out.size
 have l1 : ab < X1.heap.size := hab ▸ J0.out.lt
 have l2 : bb < X2.heap.size := hbb ▸ J1.out.lt
 have l3 : cb < X3.heap.size := hcb ▸ J2.out.lt
 have q1 := K0.out.size
 have q2 := K1.out.size
 have q3 := K2.out.size
 have A1 := hab ▸ J0.out
 have A2 := A1.below K1.out A1.lt
 have A3 := A2.below K2.out A2.lt
 have B2 := hbb ▸ J1.out
 have B3 := B2.below K2.out B2.lt
 have C3 := hcb ▸ J2.out
 have O1 := HO.out.below K0.out HO.out.size
 have O2 := O1.below K1.out O1.size
 have O3 := O2.below K2.out O2.size
 have E3 := (K0.out.trans (K1.out.mono K0.out.size)).trans (K2.out.mono (Nat.le_trans K0.out.size K1.out.size))
 have D1 := (Below.refl X3.heap.size X3).alloc (Nat.le_refl _) (.cells z32 22)
 have D2 := D1.alloc D1.size (.cells #[.int .u64 0, .int .u64 0, .int .u64 0, .int .u64 0, .int .u64 0, .int .u64 0, .int .u64 0, .int .u64 0, .int .u64 0, .int .u64 0, .int .u64 0, .int .u64 0, .int .u64 0, .int .u64 0, .int .u64 0, .int .u64 0] 147)
 have HM0 := ϕ (show MuS w ((X3.alloc (.cells z32 22)).alloc (.cells #[.int .u64 0, .int .u64 0, .int .u64 0, .int .u64 0, .int .u64 0, .int .u64 0, .int .u64 0, .int .u64 0, .int .u64 0, .int .u64 0, .int .u64 0, .int .u64 0, .int .u64 0, .int .u64 0, .int .u64 0, .int .u64 0] 147)) ab bb cb rb ob a b c (List.replicate 16 0) from
  ⟨A3.below D2 A3.lt, B3.below D2 B3.lt, C3.below D2 C3.lt, (Rg.Blk.newAt hrb.symm _ _).alloc _, z16b ▸ Rg.Blk.newAt (by rw [← hob]; simp) _ _, O3.below D2 O3.size, E3.trans (D2.mono E3.size), by omega⟩)
 rw [hab, hbb, hcb]
 try rw [hob]
 try rw [hrb]
 generalize (X3.alloc (.cells z32 22)).alloc (.cells #[.int .u64 0, .int .u64 0, .int .u64 0, .int .u64 0, .int .u64 0, .int .u64 0, .int .u64 0, .int .u64 0, .int .u64 0, .int .u64 0, .int .u64 0, .int .u64 0, .int .u64 0, .int .u64 0, .int .u64 0, .int .u64 0] 147) = Y at *
 clear l0 l1 l2 l3 q1 q2 q3 A1 A2 A3 B2 B3 C3 O1 O2 O3 E3 D1 D2 J0 J1 J2 K0 K1 K2 hab hbb hcb hrb hob HO
 go_upto_region 3 with fail
 go_loopw [17] (fun i wr => ∃ (k : Nat) (os : List Nat), k ≤ 8 ∧ i = .int .i64 k ∧ os.length = 16 ∧ sm32 os ∧ vk os k = leN c % 2 ^ (32 * k) ∧ (∀ j, k ≤ j → nth os j = 0) ∧ MuS w wr ab bb cb rb ob a b c os) (fun i _ => 8 - (intOf i).toNat)
 case atStart => exact ⟨0, List.replicate 16 0, by decide, rfl, rfl, n16s, by rw [show (2 : Nat) ^ (32 * 0) = 1 from rfl, Nat.mod_one]; rfl, fun j _ => n16z j, HM0.out⟩
 case round =>
  obtain ⟨k, os, hk, rfl, hol, hsm, hv, h0, hm⟩ := hrel
  clear HM0
  have HOL := ϕ hol
  have HSM := ϕ hsm
  have HV := ϕ hv
  have H0 := ϕ h0
  have HM := ϕ hm
  clear hol hsm hv h0 hm
  by_cases hk8 : k < 8
  · have hki : (k : Int) < 16 := by omega
    have hk0 : (0 : Int) ≤ k := by omega
    have hd : decide ((k : Int) < 8) = true := by simp; omega
    have HK8 := ϕ hk8
    have HSZ := ϕ (show k < (Cl.u64s os).size from by rw [u64r_size, HOL.out]; omega)
    go_upto_region 6 with (first
     | ((with_reducible refine qd_ ?_); refine Cv.qn_ rfl 22 _ rfl cb 0 rfl (Cv.bytesV c) _ (fun j v hv => by rw [Nat.zero_add]; exact Rg.Blk.cell HM.out.pc j hv) underlying22 rfl (by rw [Cv.qa_, HCL.out]; kernel_rfl) ?_)
     | (go_at_call 81; refine (word_any _ c HCL.out k HK8.out).mono ?_; rintro e w1 ⟨rfl, hb1⟩; have HM1 := ϕ (HM.out.below hb1); clear hb1)
     | ((with_reducible refine qd_ ?_); refine store_one rfl 73 _ _ rfl ob k (.int .u64 (wd c k : Nat)) (Cl.u64s os) 147 rfl (rfl) rfl HM1.out.po (by kernel_rfl) HSZ.out rfl ?_; intro V hV hgV; have HM2 := ϕ (HM1.out.store (show Rg.Blk V ob 147 (Cl.u64s (os.set k (wd c k))) from by rw [← u64r_set]; exact hV) hgV); clear hV hgV))
    go_wp2_with fail
    go_roundw
    case rel =>
     have REL := ϕ (show ∃ (k' : Nat) (os' : List Nat), k' ≤ 8 ∧ Value.int .i64 ((k : Int) + 1) = .int .i64 k' ∧ os'.length = 16 ∧ sm32 os' ∧ vk os' k' = leN c % 2 ^ (32 * k') ∧ (∀ j, k' ≤ j → nth os' j = 0) ∧ MuS w V ab bb cb rb ob a b c os' from
      ⟨k + 1, os.set k (wd c k), HK8.out, rfl, by rw [List.length_set]; exact HOL.out, sm32_set HSM.out (wd_lt c k), set_step (l := []) HV.out (by rw [HOL.out]; omega), fun j hj => by rw [jc_ (by omega)]; exact H0.out j (by omega), HM2.out⟩)
     first
      | exact REL.out
      | ((repeat apply Exists.intro); refine ⟨?_, rfl⟩; exact REL.out)
    case measure => (first | (simp [intOf]; done) | (simp [intOf]; omega))
  · obtain rfl : k = 8 := by omega
    have hd : decide (((8 : Nat) : Int) < 8) = false := by simp
    have HV2 := ϕ (show vk os 16 = leN c + leN b * (leN a % 2 ^ (32 * 0)) from by
     rw [vk_zero (k := 8) (n := 8) H0.out, HV.out, mod_all HCL.out, show (2 : Nat) ^ (32 * 0) = 1 from rfl, Nat.mod_one, Nat.mul_zero, Nat.add_zero])
    clear HV H0
    go_upto_region 8 with fail
    clear hd
    go_loopw [26] (fun i wr => ∃ (k : Nat) (os : List Nat), k ≤ 8 ∧ i = .int .i64 k ∧ os.length = 16 ∧ sm32 os ∧ vk os 16 = leN c + leN b * (leN a % 2 ^ (32 * k)) ∧ MuS w wr ab bb cb rb ob a b c os) (fun i _ => 8 - (intOf i).toNat)
    case atStart => exact ⟨0, os, by decide, rfl, HOL.out, HSM.out, HV2.out, HM.out⟩
    case round =>
     clear HM HV2 HSM HOL
     obtain ⟨ii, o0, hk, rfl, hol, hsm, hv, hm⟩ := hrel
     have HOL0 := ϕ hol
     have HSM0 := ϕ hsm
     have HV2 := ϕ hv
     have HM0 := ϕ hm
     clear hol hsm hv hm
     by_cases hk8 : ii < 8
     · have hki : (ii : Int) < 8 := by omega
       have hk0 : (0 : Int) ≤ ii := by omega
       have hd : decide ((ii : Int) < 8) = true := by simp; omega
       have HI8 := ϕ hk8
       go_upto_region 12 with fail
       clear hd
       go_loopw [10, 29] (fun cy i wr => ∃ (k cc : Nat) (os : List Nat), k ≤ 8 ∧ cy = .int .u64 cc ∧ i = .int .i64 k ∧ cc < 4294967296 ∧ os.length = 16 ∧ sm32 os ∧ (∀ j, ii + k ≤ j → nth os j = nth o0 j) ∧ vk os (ii + k) + cc * 2 ^ (32 * (ii + k)) = vk o0 (ii + k) + wd a ii * (leN b % 2 ^ (32 * k)) * 2 ^ (32 * ii) ∧ MuS w wr ab bb cb rb ob a b c os) (fun _ i _ => 8 - (intOf i).toNat)
       case atStart => exact ⟨0, 0, o0, by decide, rfl, rfl, by decide, HOL0.out, HSM0.out, fun _ _ => rfl, by rw [show (2 : Nat) ^ (32 * 0) = 1 from rfl, Nat.mod_one, Nat.mul_zero, Nat.zero_mul, Nat.zero_mul], HM0.out⟩
       case round =>
        obtain ⟨k, cc, os, hk, rfl, rfl, hcc, hol, hsm, heq, hv, hm⟩ := hrel
        clear HM0 HOL0 HSM0
        have HOL := ϕ hol
        have HSM := ϕ hsm
        have HV := ϕ hv
        have HEQ := ϕ heq
        have HCC := ϕ hcc
        have HM := ϕ hm
        clear hcc hol hsm heq hv hm
        by_cases hk8 : k < 8
        · have hki : (k : Int) < 8 := by omega
          have hk0 : (0 : Int) ≤ k := by omega
          have hd : decide ((k : Int) < 8) = true := by simp; omega
          have HK8 := ϕ hk8
          obtain ⟨p, hp⟩ : ∃ p, ii + k = p := exr
          have hp16 : p < 16 := by have := HI8.out; omega
          have HSZ := ϕ (show p < (Cl.u64s os).size from by rw [u64r_size, HOL.out]; omega)
          obtain ⟨o, ho⟩ : ∃ o, nth os p = o := exr
          have ho32 : o < 4294967296 := ho ▸ HSM.out p
          have hcx := u64r_get (by rw [HOL.out]; omega : p < os.length)
          rw [ho] at hcx
          have HCX := ϕ hcx
          obtain ⟨wa, hwa⟩ : ∃ x, wd a ii = x := exr
          obtain ⟨wb, hwb⟩ : ∃ x, wd b k = x := exr
          have HWA := ϕ (fun W : World => show Calls prog 81 #[.agg (Cv.bytesV a), .int .i64 ii] W fun e w' => e = .returned (.int .u64 (wa : Nat)) ∧ Below W.heap.size W w' from hwa ▸ word_any W a HAL.out ii HI8.out)
          have HWB := ϕ (fun W : World => show Calls prog 81 #[.agg (Cv.bytesV b), .int .i64 k] W fun e w' => e = .returned (.int .u64 (wb : Nat)) ∧ Below W.heap.size W w' from hwb ▸ word_any W b HBL.out k hk8)
          have hlt := mac_lt ho32 (hwa ▸ wd_lt a ii : wa < 4294967296) (hwb ▸ wd_lt b k : wb < 4294967296) HCC.out
          obtain ⟨m, hm⟩ : ∃ m, wa * wb = m := exr
          rw [hm] at hlt
          obtain ⟨s, hs⟩ : ∃ s, o + m = s := exr
          obtain ⟨x, hx⟩ : ∃ x, s + cc = x := exr
          have hx64 : x < 18446744073709551616 := by omega
          have HEM := ϕ (show IntKind.u64.wrap ((wa : Int) * (wb : Int)) = (m : Int) ∧ IntKind.u64.wrap ((o : Int) + (m : Int)) = (s : Int) ∧ IntKind.u64.wrap ((s : Int) + (cc : Int)) = (x : Int) from by
           refine ⟨?_, ?_, ?_⟩
           · rw [show (wa : Int) * (wb : Int) = (m : Int) by rw [← hm]; simp, IntKind.wrap_u64]; omega
           · rw [show (o : Int) + (m : Int) = (s : Int) by omega, IntKind.wrap_u64]; omega
           · rw [show (s : Int) + (cc : Int) = (x : Int) by omega, IntKind.wrap_u64]; omega)
          have HEP := ϕ (show IntKind.i64.wrap ((ii : Int) + (k : Int)) = (p : Int) ∧ (ii : Int) + (k : Int) = (p : Int) ∧ (0 : Int) ≤ p ∧ (p : Int) < 16 ∧ IntKind.i64.wrap (p : Int) = (p : Int) from ⟨by rw [show (ii : Int) + (k : Int) = (p : Int) by omega]; exact wrapI (by omega), by omega, by omega, by omega, wrapI (by omega)⟩)
          have em := and32 hx64
          obtain ⟨z, hz⟩ : ∃ z, x / 4294967296 = z := exr
          have ez : (x : Int) / 4294967296 = (z : Int) := by omega
          have HEZ := ϕ ez
          have HZ32 := ϕ (show z < 4294967296 from by omega)
          have HST := ϕ (show vk (os.set p (x % 4294967296)) (p + 1) + z * 2 ^ (32 * (p + 1)) = vk o0 (p + 1) + wd a ii * (leN b % 2 ^ (32 * (k + 1))) * 2 ^ (32 * ii) from by
           rw [← hz]
           refine mac_step (b := fun _ => 0) (B := fun k => leN b % 2 ^ (32 * k)) (i := ii) (k := k) (bk := wb) (c := cc) (o := o) hp.symm ?_ ?_ ?_ ?_ (by rw [HOL.out]; exact hp16) ?_
           · have h := HV.out; rw [hp] at h; exact h
           · rw [pow_split, hp]
           · rw [← hwb]; exact (mod_word (leN b) k).symm
           · rw [← HEQ.out p (by omega)]; exact ho
           · rw [hwa, hm]; omega)
          have HSM2 := ϕ (sm32_set HSM.out (j := p) (v := x % 4294967296) (Nat.mod_lt _ (by decide)))
          have HP := ϕ hp
          clear ho hcx hwa hwb hlt hm hs hx hz ho32 hx64 hp
          go_upto_region 14 with fail
          clear hd em ez
          refine RL.start (RL.Aft wr) (by kernel_rfl) (RL.Aft.drew (RL.Aft.refl wr)) ?_
          refine RL.tu 0 ?_; go_frame
          refine RL.tu 1 ?_; go_frame
          refine' RL.tv 2 ?hk3 ?_
          case hk3 => (intro W hSW; have e1 := HEP.out; go_simp; try with_reducible rfl)
          try go_frame
          refine' RL.tv 3 ?hk4 ?_
          case hk4 => (intro W hSW; have e1 := HEP.out; go_simp; try with_reducible rfl)
          try go_frame
          refine' RL.tv 4 ?hk5 ?_
          case hk5 => (intro W hSW; have x1 := (qc_ hSW HM.out.po).cell p HCX.out; go_simp; try with_reducible rfl)
          try go_frame
          refine RL.tw 5 (v := .agg (Cv.bytesV a)) rfl (fun W hSW => RT.qx_ 22 _ rfl _ rfl _ _ (qc_ hSW HM.out.pa) underlying22 rfl (by rw [Cv.qa_, HAL.out]; kernel_rfl)) ?_
          try go_frame
          refine RL.tu 6 ?_; go_frame
          refine' RL.td 7 (v := (.int .u64 (wa : Nat))) 81 #[.agg (Cv.bytesV a), .int .i64 ii] ?hc7 ?_
          case hc7 => (intro W hSW; exact (HWA.out W).mono (fun e w9 h9 => ⟨h9.1, h9.2, RL.Aft.lat hSW h9.2⟩))
          try go_frame
          refine RL.tw 8 (v := .agg (Cv.bytesV b)) rfl (fun W hSW => RT.qx_ 22 _ rfl _ rfl _ _ (qc_ hSW HM.out.pb) underlying22 rfl (by rw [Cv.qa_, HBL.out]; kernel_rfl)) ?_
          try go_frame
          refine RL.tu 9 ?_; go_frame
          refine' RL.td 10 (v := (.int .u64 (wb : Nat))) 81 #[.agg (Cv.bytesV b), .int .i64 k] ?hc9 ?_
          case hc9 => (intro W hSW; exact (HWB.out W).mono (fun e w9 h9 => ⟨h9.1, h9.2, RL.Aft.lat hSW h9.2⟩))
          try go_frame
          refine' RL.tv 11 ?hk10 ?_
          case hk10 => (intro W hSW; have e1 := HEM.out.1; go_simp; try with_reducible rfl)
          try go_frame
          refine' RL.tv 12 ?hk11 ?_
          case hk11 => (intro W hSW; have e1 := HEM.out.2.1; go_simp; try with_reducible rfl)
          try go_frame
          refine RL.tu 13 ?_; go_frame
          refine' RL.tv 14 ?hk13 ?_
          case hk13 => (intro W hSW; have e1 := HEM.out.2.2; go_simp; try with_reducible rfl)
          try go_frame
          refine RL.tu 15 ?_; go_frame
          refine RL.done (by kernel_rfl) (fun Z hlZ hsZ => ?_)
          have HM := ϕ (HM.out.below hsZ)
          clear hlZ hsZ
          have em := and32 (x := x) (by have h := HEM.out.2.2; rw [IntKind.wrap_u64] at h; omega)
          have ez : (x : Int) / 4294967296 = (z : Int) := HEZ.out
          have ep1 := HEP.out.1
          have ep2 := HEP.out.2.1
          have ep3 := HEP.out.2.2.1
          have ep4 := HEP.out.2.2.2.1
          have ep5 := HEP.out.2.2.2.2
          go_upto_region 16 with ((with_reducible refine qd_ ?_); refine store_one rfl 73 _ _ rfl ob p (.int .u64 (x % 4294967296 : Nat)) (Cl.u64s os) 147 rfl (by first | rfl | (simp [em]; done) | (rw [em])) rfl HM.out.po (by kernel_rfl) HSZ.out rfl ?_; intro V hV hgV; have HM2 := ϕ (HM.out.store (show Rg.Blk V ob 147 (Cl.u64s (os.set p (x % 4294967296))) from by rw [← u64r_set]; exact hV) hgV); clear hV hgV)
          clear ep1 ep2 ep3 ep4 ep5
          go_wp2_with fail
          go_roundw
          case rel =>
           have REL := ϕ (show ∃ (k' cc' : Nat) (os' : List Nat), k' ≤ 8 ∧ Value.int .u64 (z : Nat) = .int .u64 cc' ∧ Value.int .i64 ((k : Int) + 1) = .int .i64 k' ∧ cc' < 4294967296 ∧ os'.length = 16 ∧ sm32 os' ∧ (∀ j, ii + k' ≤ j → nth os' j = nth o0 j) ∧ vk os' (ii + k') + cc' * 2 ^ (32 * (ii + k')) = vk o0 (ii + k') + wd a ii * (leN b % 2 ^ (32 * k')) * 2 ^ (32 * ii) ∧ MuS w V ab bb cb rb ob a b c os' from
            ⟨k + 1, z, os.set p (x % 4294967296), HK8.out, rfl, rfl, HZ32.out, by rw [List.length_set]; exact HOL.out, HSM2.out, fun j hj => by have := HP.out; rw [jc_ (by omega)]; exact HEQ.out j (by omega), by rw [← Nat.add_assoc, HP.out]; exact HST.out, HM2.out⟩)
           first
            | exact REL.out
            | ((repeat apply Exists.intro); refine ⟨?_, rfl⟩; exact REL.out)
          case measure => (first | (simp [intOf]; done) | (simp [intOf]; omega))
        · obtain rfl : k = 8 := by omega
          have hd : decide (((8 : Nat) : Int) < 8) = false := by simp
          obtain ⟨p, hp⟩ : ∃ p, ii + 8 = p := exr
          have HV4 := ϕ (show vk os p + cc * 2 ^ (32 * p) = vk o0 p + wd a ii * leN b * 2 ^ (32 * ii) from by have h := HV.out; rw [mod_all HBL.out, hp] at h; exact h)
          have HEQ4 := ϕ (show ∀ j, p ≤ j → nth os j = nth o0 j from fun j h => HEQ.out j (by omega))
          have HP16 := ϕ (show p ≤ 16 from by have := HI8.out; omega)
          have e8 : IntKind.i64.wrap ((ii : Int) + 8) = (p : Int) := by have := HI8.out; rw [show (ii : Int) + 8 = (p : Int) by omega]; exact wrapI (by omega)
          have e9 : (ii : Int) + 8 = (p : Int) := by omega
          clear hp
          go_upto_region 19 with fail
          clear hd e8 e9 HV HEQ
          go_loopw [10, 13] (fun cy i wr => ∃ (k cc : Nat) (os : List Nat), k ≤ 16 ∧ cy = .int .u64 cc ∧ i = .int .i64 k ∧ cc < 4294967296 ∧ os.length = 16 ∧ sm32 os ∧ (∀ j, k ≤ j → nth os j = nth o0 j) ∧ vk os k + cc * 2 ^ (32 * k) = vk o0 k + wd a ii * leN b * 2 ^ (32 * ii) ∧ MuS w wr ab bb cb rb ob a b c os) (fun _ i _ => 16 - (intOf i).toNat)
          case atStart => exact ⟨p, cc, os, HP16.out, rfl, by first | rfl | (congr 1), HCC.out, HOL.out, HSM.out, HEQ4.out, HV4.out, HM.out⟩
          case round =>
           clear HM HV4 HEQ4 HSM HOL HCC HP16
           obtain ⟨k, cc, os, hk, rfl, rfl, hcc, hol, hsm, heq, hv, hm⟩ := hrel
           have HOL := ϕ hol
           have HSM := ϕ hsm
           have HV := ϕ hv
           have HEQ := ϕ heq
           have HCC := ϕ hcc
           have HM := ϕ hm
           clear hcc hol hsm heq hv hm
           by_cases hk8 : k < 16
           · have hki : (k : Int) < 16 := by omega
             have hk0 : (0 : Int) ≤ k := by omega
             have hd : decide ((k : Int) < 16) = true := by simp; omega
             have HK8 := ϕ hk8
             have HSZ := ϕ (show k < (Cl.u64s os).size from by rw [u64r_size, HOL.out]; omega)
             obtain ⟨o, ho⟩ : ∃ o, nth os k = o := exr
             have ho32 : o < 4294967296 := ho ▸ HSM.out k
             have hcx := u64r_get (by rw [HOL.out]; omega : k < os.length)
             rw [ho] at hcx
             have cx := HM.out.po.cell k hcx
             obtain ⟨x, hx⟩ : ∃ x, o + cc = x := exr
             have hx64 : x < 18446744073709551616 := by have := HCC.out; omega
             have ew : IntKind.u64.wrap ((o : Int) + (cc : Int)) = (x : Int) := by rw [show (o : Int) + (cc : Int) = (x : Int) by omega, IntKind.wrap_u64]; omega
             have em := and32 hx64
             obtain ⟨z, hz⟩ : ∃ z, x / 4294967296 = z := exr
             have ez : (x : Int) / 4294967296 = (z : Int) := by omega
             have HZ32 := ϕ (show z < 4294967296 from by omega)
             have HST := ϕ (car_step HV.out (by rw [← HEQ.out k (Nat.le_refl k)]; exact ho) (by rw [HOL.out]; exact hk8) hx)
             have HST := ϕ (show vk (os.set k (x % 4294967296)) (k + 1) + z * 2 ^ (32 * (k + 1)) = vk o0 (k + 1) + wd a ii * leN b * 2 ^ (32 * ii) from by rw [← hz]; exact HST.out)
             have HSM2 := ϕ (sm32_set HSM.out (j := k) (v := x % 4294967296) (Nat.mod_lt _ (by decide)))
             clear ho hcx hx hz ho32 hx64
             go_upto_region 20 with ((with_reducible refine qd_ ?_); refine store_one rfl 73 _ _ rfl ob k (.int .u64 (x % 4294967296 : Nat)) (Cl.u64s os) 147 rfl (by first | rfl | (simp [em]; done) | (rw [em])) rfl HM.out.po (by kernel_rfl) HSZ.out rfl ?_; intro V hV hgV; have HM2 := ϕ (HM.out.store (show Rg.Blk V ob 147 (Cl.u64s (os.set k (x % 4294967296))) from by rw [← u64r_set]; exact hV) hgV); clear hV hgV)
             clear hd
             go_wp2_with fail
             go_roundw
             case rel =>
              have REL := ϕ (show ∃ (k' cc' : Nat) (os' : List Nat), k' ≤ 16 ∧ Value.int .u64 (z : Nat) = .int .u64 cc' ∧ Value.int .i64 ((k : Int) + 1) = .int .i64 k' ∧ cc' < 4294967296 ∧ os'.length = 16 ∧ sm32 os' ∧ (∀ j, k' ≤ j → nth os' j = nth o0 j) ∧ vk os' k' + cc' * 2 ^ (32 * k') = vk o0 k' + wd a ii * leN b * 2 ^ (32 * ii) ∧ MuS w V ab bb cb rb ob a b c os' from
               ⟨k + 1, z, os.set k (x % 4294967296), HK8.out, rfl, rfl, HZ32.out, by rw [List.length_set]; exact HOL.out, HSM2.out, fun j hj => by rw [jc_ (by omega)]; exact HEQ.out j (by omega), HST.out, HM2.out⟩)
              first
               | exact REL.out
               | ((repeat apply Exists.intro); refine ⟨?_, rfl⟩; exact REL.out)
             case measure => (first | (simp [intOf]; done) | (simp [intOf]; omega))
           · obtain rfl : k = 16 := by omega
             have hd : decide (((16 : Nat) : Int) < 16) = false := by simp
             have HVN := ϕ (mac_round HAL.out HBL.out HCL.out HV2.out (vk_all HV.out rfl))
             go_wp2_with fail
             go_roundw
             case rel =>
              have REL := ϕ (show ∃ (k' : Nat) (os' : List Nat), k' ≤ 8 ∧ Value.int .i64 ((ii : Int) + 1) = .int .i64 k' ∧ os'.length = 16 ∧ sm32 os' ∧ vk os' 16 = leN c + leN b * (leN a % 2 ^ (32 * k')) ∧ MuS w wr ab bb cb rb ob a b c os' from
               ⟨ii + 1, os, HI8.out, rfl, HOL.out, HSM.out, HVN.out, HM.out⟩)
              first
               | exact REL.out
               | ((repeat apply Exists.intro); refine ⟨?_, rfl⟩; exact REL.out)
             case measure => (first | (simp [intOf]; done) | (simp [intOf]; omega))
     · obtain rfl : ii = 8 := by omega
       have hd : decide (((8 : Nat) : Int) < 8) = false := by simp
       have HVM := ϕ (mac_done HAL.out HV2.out)
       clear HV2
       go_upto_region 26 with fail
       clear hd
       obtain ⟨sb, hsb⟩ : ∃ n, wr.heap.size = n := exr
       have HS1 := ϕ (show Rg.Blk (wr.alloc (.cells z64 29)) sb 29 (Cv.bytesV (List.replicate 64 0)) from z64b ▸ Rg.Blk.newAt hsb.symm _ _)
       have HM1 := ϕ (HM0.out.below ((Below.refl _ _).alloc (Nat.le_refl _) (.cells z64 29)))
       have HSN := ϕ (show w.heap.size ≤ sb ∧ ob < sb ∧ ab < sb ∧ bb < sb ∧ cb < sb ∧ rb < sb ∧ 22 < sb from hsb ▸ ⟨HM0.out.be.size, HM0.out.po.lt, HM0.out.pa.lt, HM0.out.pb.lt, HM0.out.pc.lt, HM0.out.pr.lt, HM0.out.or.size⟩)
       rw [hsb]
       generalize wr.alloc (.cells z64 29) = Y at *
       clear HM0 hsb
       go_upto_region 27 with fail
       go_loopw [74] (fun i wr => ∃ (k : Nat) (l : List UInt8), k ≤ 64 ∧ i = .int .i64 k ∧ l.length = 64 ∧ (∀ j, j < k → l[j]? = some (UInt8.ofNat (mulN a b c / 256 ^ j % 256))) ∧ Rg.Blk wr sb 29 (Cv.bytesV l) ∧ MuS w wr ab bb cb rb ob a b c o0) (fun i _ => 64 - (intOf i).toNat)
       case atStart => exact ⟨0, List.replicate 64 0, by decide, rfl, by simp, fun j h => absurd h (by omega), HS1.out, HM1.out⟩
       case round =>
        obtain ⟨k, l, hk, rfl, hl, hg, hs, hm⟩ := hrel
        clear HS1 HM1
        have HLL := ϕ hl
        have HG := ϕ hg
        have HS := ϕ hs
        have HM := ϕ hm
        clear hl hg hs hm
        by_cases hk5 : k < 64
        · have hki : (k : Int) < 64 := by omega
          have hk0 : (0 : Int) ≤ k := by omega
          have hd : decide ((k : Int) < 64) = true := by simp; exact hki
          obtain ⟨q, hq⟩ : ∃ q, k / 4 = q := exr
          obtain ⟨r, hr⟩ : ∃ r, k % 4 = r := exr
          obtain ⟨s, hs⟩ : ∃ s, 8 * r = s := exr
          have hq9 : q < 16 := by omega
          have hqz : (q : Int) < 16 := by omega
          have hq0 : (0 : Int) ≤ q := by omega
          have hr0 : (0 : Int) ≤ r := by omega
          have hs0 : (0 : Int) ≤ s := by omega
          have hs32 : min s 64 = s := by omega
          have eq1 : IntKind.i64.wrap ((k : Int) / 4) = (q : Int) := by rw [show (k : Int) / 4 = (q : Int) by omega]; exact wrapI (by omega)
          have er : (k : Int).tmod 4 = (r : Int) := by rw [Int.tmod_eq_emod_of_nonneg (by omega)]; omega
          have es : IntKind.i64.wrap (8 * (r : Int)) = (s : Int) := by rw [show 8 * (r : Int) = (s : Int) by omega]; exact wrapI (by omega)
          obtain ⟨x, hx⟩ : ∃ x, nth o0 q = x := exr
          have hcx := u64r_get (by rw [HOL0.out]; exact hq9 : q < o0.length)
          rw [hx] at hcx
          have cx := HM.out.po.cell q hcx
          obtain ⟨cw, hc⟩ : ∃ c, x / 2 ^ s = c := exr
          have esr : (x : Int) / 2 ^ s = (cw : Int) := by rw [← hc]; simp
          obtain ⟨v, hv⟩ : ∃ v : UInt8, UInt8.ofNat (cw % 256) = v := exr
          have hvn : v.toNat = cw % 256 := by rw [← hv, UInt8.toNat_ofNat']; omega
          have ev : IntKind.u8.wrap (cw : Int) = (v.toNat : Int) := by rw [hvn]; simp [IntKind.wrap, IntKind.bits, IntKind.signed]
          have ev2 : (cw : Int) % 256 = (v.toNat : Int) := by rw [hvn]; omega
          have HVV := ϕ (show UInt8.ofNat (mulN a b c / 256 ^ k % 256) = v from by rw [← HVM.out, byte_word16 HSM0.out hk5, hq, hr, hx, hs, hc, hv])
          clear hx hcx hc hv hvn hq hr hs hq9
          go_upto_region 30 with ((with_reducible refine qd_ ?_); refine Cv.store_byte rfl 5 _ _ rfl (b := sb) (j := k) (l := l) (v := v) rfl (by first | rfl | (simp [ev, ev2]; done)) underlying5 (by kernel_rfl) HS.out (by rw [HLL.out]; exact hk5) ?_; intro V hV hgV; have HS2 := ϕ hV; have HM2 := ϕ (show MuS w V ab bb cb rb ob a b c o0 from ⟨qb_ HM.out.pa hgV (by have := HSN.out; omega), qb_ HM.out.pb hgV (by have := HSN.out; omega), qb_ HM.out.pc hgV (by have := HSN.out; omega), qb_ HM.out.pr hgV (by have := HSN.out; omega), qb_ HM.out.po hgV (by have := HSN.out; omega), ord_grown HM.out.or hgV HSN.out.2.2.2.2.2.2, HM.out.be.grown hgV HM.out.be.size (fun j e => by cases e; exact HSN.out.1), HM.out.nn⟩); clear hV hgV)
          clear hd
          go_wp2_with fail
          go_roundw
          case rel =>
           have REL := ϕ (show ∃ (k' : Nat) (l' : List UInt8), k' ≤ 64 ∧ Value.int .i64 ((k : Int) + 1) = .int .i64 k' ∧ l'.length = 64 ∧ (∀ j, j < k' → l'[j]? = some (UInt8.ofNat (mulN a b c / 256 ^ j % 256))) ∧ Rg.Blk V sb 29 (Cv.bytesV l') ∧ MuS w V ab bb cb rb ob a b c o0 from
            ⟨k + 1, l.set k v, hk5, rfl, by rw [List.length_set]; exact HLL.out, fun j hj => by
             by_cases e : j = k
             · subst e; rw [List.getElem?_set_self (by rw [HLL.out]; exact hk5), HVV.out]
             · rw [List.getElem?_set_ne (fun h => e h.symm)]; exact HG.out j (by omega), HS2.out, HM2.out⟩)
           first
            | exact REL.out
            | ((repeat apply Exists.intro); refine ⟨?_, rfl⟩; exact REL.out)
          case measure => (first | (simp [intOf]; done) | (simp [intOf]; omega))
        · obtain rfl : k = 64 := by omega
          have hd : decide (((64 : Nat) : Int) < 64) = false := by simp
          have HTL := ϕ (toLe_ofn HLL.out HG.out)
          have HSL := ϕ (show (⟨l.toArray⟩ : ByteArray).size = 64 from by show l.toArray.size = 64; rw [List.size_toArray]; exact HLL.out)
          have HRE := ϕ (show toLe 32 (leN (⟨l.toArray⟩ : ByteArray).data.toList % Ed.L) = toLe 32 (mulN a b c % Ed.L) from by
           show toLe 32 (leN l % Ed.L) = _
           rw [HTL.out, leN_64 HAL.out HBL.out HCL.out])
          go_wp2_with (first
           | (refine Cv.ji_ rfl 28 5 9 _ rfl underlying28 underlying5 underlying9 sb 0 64 64 l rfl HLL.out (Cv.Bytes.of_blk HS.out) ?_; skip)
           | (go_at_call 80; refine (Reduce_any _ ⟨l.toArray⟩ HSL.out HM.out.or).mono ?_; rintro e w1 ⟨rfl, hb1⟩; rw [HRE.out]; have HR1 := ϕ (HM.out.pr.below hb1 HM.out.pr.lt); have HB1 := ϕ (HM.out.be.trans (hb1.mono HM.out.be.size)); clear hb1)
           | ((with_reducible refine qd_ ?_); refine Cv.qu_ rfl 22 _ _ rfl rb (Cv.bytesV (toLe 32 (mulN a b c % Ed.L))) z32 22 rfl rfl HR1.out (by rw [Cv.qa_, qy_]; kernel_rfl) (by rw [Cv.qa_, qy_]; rfl) (Cv.qk_ _) ?_; intro V hV hgV; have HZ2 := ϕ hV; have HB2 := ϕ (HB1.out.grown hgV HB1.out.size (fun j e => by cases e; exact HM.out.nn.2.1)); clear hV hgV))
          refine bodyPost_ret (v := .agg (Cv.bytesV (toLe 32 (mulN a b c % Ed.L))))
           (results_cell_row results39 _ _ rb 22 _ (0, 0) _ rfl HZ2.out underlying22 rfl (by rw [Cv.qa_, qy_]; kernel_rfl)) rfl ?_
          exact ⟨rfl, HB2.out⟩
structure E4 where
 x : E
 y : E
 z : E
 t : E
def E4.l (R : E4) : List E := [R.x, R.y, R.z, R.t]
def Rq4 (p : Pt) (R : E4) : Prop := Rq p R.x R.y R.z R.t
theorem chain_ex {α : Type} (I : Nat → α → Prop) (S : Nat → α → α → Prop) (Z : α → Prop) (h0 : ∃ R, I 0 R ∧ Z R) (hs : ∀ k R, I k R → ∃ R', I (k + 1) R' ∧ S k R R') : ∃ f : Nat → α, Z (f 0) ∧ (∀ k, I k (f k)) ∧ ∀ k, S k (f k) (f (k + 1)) := by
 obtain ⟨R0, hi0, hz⟩ := h0
 let g : (k : Nat) → {R : α // I k R} := fun k => Nat.rec ⟨R0, hi0⟩ (fun k R => ⟨Classical.choose (hs k R.1 R.2), (Classical.choose_spec (hs k R.1 R.2)).1⟩) k
 exact ⟨fun k => (g k).1, hz, fun k => (g k).2, fun k => (Classical.choose_spec (hs k (g k).1 (g k).2)).2⟩
def AddsTo (cd ct c1 c2 c3 c4 : E) (A B C : E4) : Prop := ∀ (cb : Nat) (W : World), Rg.Blk W cb 84 (u64s (els [cd, ct, c1, c2, c3, c4])) → Calls prog 76 #[.pointer (some ⟨cb, 0, none⟩), .agg (u64s (els [A.x, A.y, A.z, A.t])), .agg (u64s (els [B.x, B.y, B.z, B.t]))] W fun e w' => e = .returned (.agg (u64s (els [C.x, C.y, C.z, C.t]))) ∧ Below W.heap.size W w'
theorem adds {cd ct c1 c2 c3 c4 : E} {A B : E4} {p q : Pt} (hc : El ct (dE + dE)) (hp : Rq4 p A) (hq : Rq4 q B) : ∃ C, Rq4 (p.add q) C ∧ AddsTo cd ct c1 c2 c3 c4 A B C := by
 obtain ⟨x, y, z, t, h1, h2⟩ := add_q (cd := cd) (c1 := c1) (c2 := c2) (c3 := c3) (c4 := c4) hc hp hq
 exact ⟨⟨x, y, z, t⟩, h1, h2⟩
def Round (cd ct c1 c2 c3 c4 : E) (l : List UInt8) (P : E4) (k : Nat) (R R' : E4) : Prop := k < 256 → ∃ D, AddsTo cd ct c1 c2 c3 c4 R R D ∧ ((bitB l (255 - k) = true ∧ AddsTo cd ct c1 c2 c3 c4 D P R') ∨ (bitB l (255 - k) = false ∧ R' = D))
theorem bitB_is (l : List UInt8) (hl : l.length = 32) {i : Nat} (hi : i < 256) : bitB l i = (leN l / 2 ^ i % 2 == 1) := by
 have h := leN_bit l (i / 8) (i % 8) (by omega) (Nat.mod_lt _ (by decide))
 rw [show 8 * (i / 8) + i % 8 = i by omega] at h
 rw [h]
 unfold bitB
 rw [List.getD_eq_getElem?_getD, List.getElem?_eq_getElem (by omega : i / 8 < l.length), Option.getD_some]
 have h2 : (l[i / 8]'(by omega)).toNat / 2 ^ (i % 8) % 2 < 2 := Nat.mod_lt _ (by decide)
 generalize (l[i / 8]'(by omega)).toNat / 2 ^ (i % 8) % 2 = b at *
 have : b = 0 ∨ b = 1 := by omega
 rcases this with rfl | rfl <;> rfl
theorem rounds {cd ct c1 c2 c3 c4 : E} {P Z : E4} {p : Pt} (hc : El ct (dE + dE)) (hp : Rq4 p P) (hz : Rq4 Pt.zero Z) (l : List UInt8) (hl : l.length = 32) :
 ∃ f : Nat → E4, f 0 = Z ∧ (∀ k, Rq4 (Pt.mul (leN l / 2 ^ (256 - k)) p) (f k)) ∧ ∀ k, Round cd ct c1 c2 c3 c4 l P k (f k) (f (k + 1)) := by
 refine chain_ex (fun k R => Rq4 (Pt.mul (leN l / 2 ^ (256 - k)) p) R) (Round cd ct c1 c2 c3 c4 l P) (fun R => R = Z) ⟨Z, ?_, rfl⟩ ?_
 · have h1 := leN_lt l
   rw [hl] at h1
   have : leN l / 2 ^ (256 - 0) = 0 := Nat.div_eq_of_lt (Nat.lt_of_lt_of_le h1 (by decide +kernel))
   rw [this]; exact hz
 · intro k R hR
   by_cases hk : k < 256
   · obtain ⟨D, hD, cD⟩ := adds (cd := cd) (c1 := c1) (c2 := c2) (c3 := c3) (c4 := c4) hc hR hR
     have hb := bitB_is l hl (i := 255 - k) (by omega)
     have hd : leN l / 2 ^ (256 - k) = leN l / 2 ^ (255 - k) / 2 := by rw [show 256 - k = (255 - k) + 1 by omega, Nat.pow_succ, Nat.div_div_eq_div_mul]
     rw [show 256 - (k + 1) = 255 - k by omega]
     rw [hd] at hD hR
     generalize leN l / 2 ^ (255 - k) = m at *
     by_cases hm : m % 2 = 1
     · obtain ⟨R', hR', cR'⟩ := adds (cd := cd) (c1 := c1) (c2 := c2) (c3 := c3) (c4 := c4) hc hD hp
       rw [← Pt.mul_odd, show 2 * (m / 2) + 1 = m by omega] at hR'
       exact ⟨R', hR', fun _ => ⟨D, cD, .inl ⟨by rw [hb, hm]; rfl, cR'⟩⟩⟩
     · rw [← Pt.mul_two, show 2 * (m / 2) = m by omega] at hD
       exact ⟨D, hD, fun _ => ⟨D, cD, .inr ⟨by rw [hb]; exact beq_eq_false_iff_ne.2 hm, rfl⟩⟩⟩
   · rw [show 256 - (k + 1) = 256 - k by omega]
     exact ⟨R, hR, fun h => absurd h hk⟩
theorem mult_q {cd ct c1 c2 c3 c4 : E} {P : E4} {p : Pt} (hc : El ct (dE + dE)) (hp : Rq4 p P) (l : List UInt8) (hl : l.length = 32) : ∃ R, Rq4 (Pt.mul (leN l) p) R ∧
 ∀ (cb : Nat) (W : World), Rg.Blk W cb 84 (u64s (els [cd, ct, c1, c2, c3, c4])) → Calls prog 34 #[.pointer (some ⟨cb, 0, none⟩), .agg (Cv.bytesV l), .agg (u64s (els [P.x, P.y, P.z, P.t]))] W fun e w' => e = .returned (.agg (u64s (els [R.x, R.y, R.z, R.t]))) ∧ Below W.heap.size W w' := by
 obtain ⟨zx, zy, zz, zt, hz, cz⟩ := zero_e
 obtain ⟨Z0, hZ0⟩ : ∃ R : E4, ⟨zx, zy, zz, zt⟩ = R := exr
 have hz0 : Rq4 Pt.zero Z0 := hZ0 ▸ hz
 have CZ := ϕ (show ∀ W : World, Calls prog 74 #[] W fun e w' => e = .returned (.agg (u64s (els [Z0.x, Z0.y, Z0.z, Z0.t]))) ∧ Below W.heap.size W w' from hZ0 ▸ cz)
 obtain ⟨f, hf0, hfk, hro⟩ := rounds (cd := cd) (c1 := c1) (c2 := c2) (c3 := c3) (c4 := c4) hc hp hz0 l hl
 have h256 := hfk 256
 rw [Nat.sub_self, Nat.pow_zero, Nat.div_one] at h256
 refine ⟨f 256, h256, fun cb w hcb => ?_⟩
 have Hcb := ϕ hcb
 have HL := ϕ hl
 have HF0 := ϕ hf0.symm
 have HRO := ϕ hro
 clear hcb hc hp hl hz hz0 hZ0 cz hf0 hfk hro h256
 go_enter func34, ntmps34
 have tb0 := trivial
 go_upto_region 1 with (first
  | (clear tb0; (with_reducible refine qd_ ?_); refine Rg.qh_ rfl 22 _ rfl (Cv.bytesV l) (by first | rfl | (rw [qi_])) ?_; intro X1 hX hbX hnX; have J0 := ϕ hX; have K0 := ϕ hbX; have M0 := ϕ hnX; clear hX hbX hnX; have tb1 := trivial)
  | (clear tb1; (with_reducible refine qd_ ?_); refine Rg.qh_ rfl 78 _ rfl (u64s (els [P.x, P.y, P.z, P.t])) (by first | rfl | (rw [qi_])) ?_; intro X2 hX hbX hnX; have J1 := ϕ hX; have K1 := ϕ hbX; have M1 := ϕ hnX; clear hX hbX hnX; have tb2 := trivial))
 clear tb2
 have HB := ϕ (Below.refl w.heap.size w)
 obtain ⟨b4, hb4⟩ : ∃ n, w.heap.size = n := exr
 have Hcb := bl Hcb K0.out
 have Hb4 := ϕ (show Rg.Blk X1 b4 22 (Cv.bytesV l) from hb4 ▸ J0.out)
 have HB := ϕ (HB.out.trans (K0.out.mono HB.out.size))
 rw [hb4]
 clear hb4 J0 K0 M0
 obtain ⟨b5, hb5⟩ : ∃ n, X1.heap.size = n := exr
 have Hcb := bl Hcb K1.out
 have Hb4 := bl Hb4 K1.out
 have Hb5 := ϕ (show Rg.Blk X2 b5 78 (u64s (els [P.x, P.y, P.z, P.t])) from hb5 ▸ J1.out)
 have HB := ϕ (HB.out.trans (K1.out.mono HB.out.size))
 rw [hb5]
 clear hb5 J1 K1 M1
 obtain ⟨b6, hb6⟩ : ∃ n, X2.heap.size = n := exr
 have Gb6 := ϕ (show w.heap.size ≤ b6 from hb6 ▸ HB.out.size)
 have Hcb := ϕ (Hcb.out.alloc (.cells q20 78))
 have Hb4 := ϕ (Hb4.out.alloc (.cells q20 78))
 have Hb5 := ϕ (Hb5.out.alloc (.cells q20 78))
 have Hb6 := ϕ (show Rg.Blk (X2.alloc (.cells q20 78)) b6 78 (u64s (els [zE, zE, zE, zE])) from Rg.Blk.newAt hb6.symm _ _)
 have HB := ϕ (HB.out.alloc HB.out.size (.cells q20 78))
 rw [hb6]
 clear hb6
 generalize (X2.alloc (.cells q20 78)) = Y3 at *
 have tk4_0 := trivial
 go_upto_region 2 with (first
  | (clear tk4_0; go_at_call 74; refine (CZ.out Y3).mono ?_; rintro e W5 ⟨rfl, hb9⟩; have Hcb := bl Hcb hb9; have Hb4 := bl Hb4 hb9; have Hb5 := bl Hb5 hb9; have Hb6 := bl Hb6 hb9; have HB := tm HB hb9; clear hb9; have tk4_1 := trivial)
  | (clear tk4_1; refine Rg.qf_ rfl 78 _ _ rfl (u64s (els [Z0.x, Z0.y, Z0.z, Z0.t])) _ 78 rfl (by first | rfl | (rw [qi_])) (by kernel_rfl) (by first | rfl | kernel_rfl) (qp_ _) ?_; intro X6 hX hbX; obtain ⟨b7, hb7⟩ : ∃ n, W5.heap.size = n := exr; have Gb7 := ϕ (show w.heap.size ≤ b7 from hb7 ▸ HB.out.size); have Ncb_b7 := ϕ (show ¬ cb = b7 from by have h1 := Hcb.out.lt; omega); have Nb7_cb := ϕ (fun e : b7 = cb => Ncb_b7.out e.symm); have Nb5_b7 := ϕ (show ¬ b5 = b7 from by have h1 := Hb5.out.lt; omega); have Nb7_b5 := ϕ (fun e : b7 = b5 => Nb5_b7.out e.symm); have Nb6_b7 := ϕ (show ¬ b6 = b7 from by have h1 := Hb6.out.lt; omega); have Nb7_b6 := ϕ (fun e : b7 = b6 => Nb6_b7.out e.symm); have Hcb := bl Hcb hbX; have Hb4 := bl Hb4 hbX; have Hb5 := bl Hb5 hbX; have Hb6 := bl Hb6 hbX; have Hb7 := ϕ (show Rg.Blk X6 b7 78 (u64s (els [Z0.x, Z0.y, Z0.z, Z0.t])) from hb7 ▸ hX); have HB := tm HB hbX; rw [hb7]; clear hb7 hX hbX; have tk4_2 := trivial))
 clear tk4_2
 go_upto_region 3 with (first
  | ((with_reducible refine qd_ ?_); refine Cv.qn_ rfl 22 _ rfl b4 0 rfl (Cv.bytesV l) _ (fun j v hv => by rw [Nat.zero_add]; exact Rg.Blk.cell (Hb4.out) j hv) underlying22 rfl (by rw [Cv.qa_, HL.out]; kernel_rfl) ?_)
  | (go_at_call 75; refine (Bits_any X6 l HL.out).mono ?_; rintro e Wb ⟨⟨g, hgw, rfl, hgb⟩, hb9⟩; have Nb7_g := ϕ (show ¬ b7 = g from by have h1 := Hb7.out.lt; omega); have Hcb := bl Hcb hb9; have Hb4 := bl Hb4 hb9; have Hb5 := bl Hb5 hb9; have Hb6 := bl Hb6 hb9; have Hb7 := bl Hb7 hb9; have Hg := ϕ hgb; have HB := tm HB hb9; clear hb9 hgb hgw))
 clear Hb4
 go_upto_region 4 with fail
 go_loopw [9] (fun i wr => ∃ k : Nat, k ≤ 256 ∧ i = .int .i64 (255 - (k : Int)) ∧ Rg.Blk wr cb 84 (u64s (els [cd, ct, c1, c2, c3, c4])) ∧ Rg.Blk wr b5 78 (u64s (els [P.x, P.y, P.z, P.t])) ∧ Rg.Blk wr b6 78 (u64s (els [zE, zE, zE, zE])) ∧ Rg.Blk wr b7 78 (u64s (els [(f k).x, (f k).y, (f k).z, (f k).t])) ∧ Rg.Blk wr g 4 (bools (bitsTo l 256)) ∧ Below w.heap.size w wr) (fun i _ => (intOf i + 1).toNat)
 case atStart => exact ⟨0, Nat.zero_le _, rfl, Hcb.out, Hb5.out, Hb6.out, (HF0.out ▸ Hb7.out), Hg.out, HB.out⟩
 case round =>
  obtain ⟨k, hk, rfl, hcb, hb5, hb6, hb7, hg, hb⟩ := hrel
  clear Hcb Hb5 Hb6 Hb7 Hg HB
  have Hcb := ϕ hcb
  have Hb5 := ϕ hb5
  have Hb6 := ϕ hb6
  have Hb7 := ϕ hb7
  have Hg := ϕ hg
  have HB := ϕ hb
  clear hcb hb5 hb6 hb7 hg hb
  by_cases hk5 : k < 256
  · have hd : decide ((0 : Int) ≤ 255 - (k : Int)) = true := by simp; omega
    have hd0 : (0 : Int) ≤ 255 - (k : Int) := by omega
    obtain ⟨m, hm⟩ : ∃ m, 255 - k = m := exr
    have hmi : (255 : Int) - (k : Int) = (m : Int) := by omega
    rw [hmi] at hd hd0 ⊢
    have hm256 : (m : Int) < 256 := by omega
    obtain ⟨D, hD1, hD2⟩ := HRO.out k hk5
    rw [hm] at hD2
    obtain ⟨Ra, hRa⟩ : ∃ R, f k = R := exr
    obtain ⟨Rc, hRc⟩ : ∃ R, f (k + 1) = R := exr
    rw [hRa] at Hb7 hD1
    rw [hRc] at hD2
    have CDD := ϕ hD1
    have HRC := ϕ hRc
    clear hD1 hRa hRc hm
    obtain ⟨bi, hbi⟩ : ∃ b, bitB l m = b := exr
    have cb7 := Hg.out.cell m (bools_get (bitsTo_get l (by omega : m < 256)))
    rw [hbi] at cb7 hD2
    have Hcb7 := ϕ (show m < 256 from by omega)
    cases bi with
    | true =>
     have hbx := hbi
     have hD3 := hD2.elim (fun h => h.2) (fun h => absurd h.1 (by decide))
     have CDP := ϕ hD3
     clear hD3 hD2 hbi
     clear cb7
     have tk107_0 := trivial
     go_upto_region 7 with (first
      | (clear tk107_0; (with_reducible refine qd_ ?_); refine Cv.qn_ rfl 78 _ rfl b7 0 rfl (u64s (els [Ra.x, Ra.y, Ra.z, Ra.t])) _ (els_at (Hb7.out) 0 0 [Ra.x, Ra.y, Ra.z, Ra.t] rfl rfl (by simp)) underlying78 rfl (by kernel_rfl) ?_; have tk107_1 := trivial)
      | (clear tk107_1; (with_reducible refine qd_ ?_); refine Cv.qn_ rfl 78 _ rfl b7 0 rfl (u64s (els [Ra.x, Ra.y, Ra.z, Ra.t])) _ (els_at (Hb7.out) 0 0 [Ra.x, Ra.y, Ra.z, Ra.t] rfl rfl (by simp)) underlying78 rfl (by kernel_rfl) ?_; have tk107_2 := trivial)
      | (clear tk107_2; go_at_call 76; refine (CDD.out cb wr (Hcb.out)).mono ?_; rintro e W108 ⟨rfl, hb9⟩; have Hcb := bl Hcb hb9; have Hb5 := bl Hb5 hb9; have Hb6 := bl Hb6 hb9; have Hb7 := bl Hb7 hb9; have Hg := ϕ (Hg.out.below hb9 Hg.out.lt); have HB := tm HB hb9; clear hb9; have tk107_3 := trivial)
      | (clear tk107_3; (with_reducible refine qd_ ?_); refine Cv.qu_ rfl 78 _ _ rfl b7 (u64s (els [D.x, D.y, D.z, D.t])) (u64s (els [Ra.x, Ra.y, Ra.z, Ra.t])) 78 rfl (by first | rfl | (rw [qi_])) Hb7.out (by kernel_rfl) (by first | rfl | kernel_rfl) (qp_ _) ?_; intro X109 hV hgV; have Hcb := ϕ (qb_ Hcb.out hgV Nb7_cb.out); have Hb5 := ϕ (qb_ Hb5.out hgV Nb7_b5.out); have Hb6 := ϕ (qb_ Hb6.out hgV Nb7_b6.out); have Hg := ϕ (qb_ Hg.out hgV Nb7_g.out); have Hb7 := ϕ hV; have HB := ϕ (HB.out.grown hgV HB.out.size (fun j e => by cases e; exact Gb7.out)); clear hV hgV; have tk107_4 := trivial))
     clear tk107_4
     have cb7 := Hg.out.cell m (bools_get (hbx ▸ bitsTo_get l Hcb7.out))
     go_upto_region 8 with fail
     clear cb7
     have tk110_0 := trivial
     go_upto_region 5 with (first
      | (clear tk110_0; (with_reducible refine qd_ ?_); refine Cv.qn_ rfl 78 _ rfl b7 0 rfl (u64s (els [D.x, D.y, D.z, D.t])) _ (els_at (Hb7.out) 0 0 [D.x, D.y, D.z, D.t] rfl rfl (by simp)) underlying78 rfl (by kernel_rfl) ?_; have tk110_1 := trivial)
      | (clear tk110_1; (with_reducible refine qd_ ?_); refine Cv.qn_ rfl 78 _ rfl b5 0 rfl (u64s (els [P.x, P.y, P.z, P.t])) _ (els_at (Hb5.out) 0 0 [P.x, P.y, P.z, P.t] rfl rfl (by simp)) underlying78 rfl (by kernel_rfl) ?_; have tk110_2 := trivial)
      | (clear tk110_2; go_at_call 76; refine (CDP.out cb X109 (Hcb.out)).mono ?_; rintro e W111 ⟨rfl, hb9⟩; have Hcb := bl Hcb hb9; have Hb5 := bl Hb5 hb9; have Hb6 := bl Hb6 hb9; have Hb7 := bl Hb7 hb9; have Hg := ϕ (Hg.out.below hb9 Hg.out.lt); have HB := tm HB hb9; clear hb9; have tk110_3 := trivial)
      | (clear tk110_3; (with_reducible refine qd_ ?_); refine Cv.qu_ rfl 78 _ _ rfl b7 (u64s (els [Rc.x, Rc.y, Rc.z, Rc.t])) (u64s (els [D.x, D.y, D.z, D.t])) 78 rfl (by first | rfl | (rw [qi_])) Hb7.out (by kernel_rfl) (by first | rfl | kernel_rfl) (qp_ _) ?_; intro X112 hV hgV; have Hcb := ϕ (qb_ Hcb.out hgV Nb7_cb.out); have Hb5 := ϕ (qb_ Hb5.out hgV Nb7_b5.out); have Hb6 := ϕ (qb_ Hb6.out hgV Nb7_b6.out); have Hg := ϕ (qb_ Hg.out hgV Nb7_g.out); have Hb7 := ϕ hV; have HB := ϕ (HB.out.grown hgV HB.out.size (fun j e => by cases e; exact Gb7.out)); clear hV hgV; have tk110_4 := trivial))
     clear tk110_4
     go_wp2_with fail
     go_roundw
     case rel =>
      have REL := ϕ (show ∃ k' : Nat, k' ≤ 256 ∧ Value.int .i64 ((m : Int) - 1) = .int .i64 (255 - (k' : Int)) ∧ Rg.Blk X112 cb 84 (u64s (els [cd, ct, c1, c2, c3, c4])) ∧ Rg.Blk X112 b5 78 (u64s (els [P.x, P.y, P.z, P.t])) ∧ Rg.Blk X112 b6 78 (u64s (els [zE, zE, zE, zE])) ∧ Rg.Blk X112 b7 78 (u64s (els [(f k').x, (f k').y, (f k').z, (f k').t])) ∧ Rg.Blk X112 g 4 (bools (bitsTo l 256)) ∧ Below w.heap.size w X112 from ⟨k + 1, hk5, congrArg _ (by omega), Hcb.out, Hb5.out, Hb6.out, (HRC.out ▸ Hb7.out), Hg.out, HB.out⟩)
      first
       | exact REL.out
       | ((repeat apply Exists.intro); refine ⟨?_, rfl⟩; exact REL.out)
     case measure => (first | (simp [intOf]; done) | (simp [intOf]; omega))
    | false =>
     have hbx := hbi
     have hD3 := hD2.elim (fun h => absurd h.1 (by decide)) (fun h => h.2)
     have HDE := ϕ hD3
     clear hD3 hD2 hbi
     clear cb7
     have tk207_0 := trivial
     go_upto_region 7 with (first
      | (clear tk207_0; (with_reducible refine qd_ ?_); refine Cv.qn_ rfl 78 _ rfl b7 0 rfl (u64s (els [Ra.x, Ra.y, Ra.z, Ra.t])) _ (els_at (Hb7.out) 0 0 [Ra.x, Ra.y, Ra.z, Ra.t] rfl rfl (by simp)) underlying78 rfl (by kernel_rfl) ?_; have tk207_1 := trivial)
      | (clear tk207_1; (with_reducible refine qd_ ?_); refine Cv.qn_ rfl 78 _ rfl b7 0 rfl (u64s (els [Ra.x, Ra.y, Ra.z, Ra.t])) _ (els_at (Hb7.out) 0 0 [Ra.x, Ra.y, Ra.z, Ra.t] rfl rfl (by simp)) underlying78 rfl (by kernel_rfl) ?_; have tk207_2 := trivial)
      | (clear tk207_2; go_at_call 76; refine (CDD.out cb wr (Hcb.out)).mono ?_; rintro e W208 ⟨rfl, hb9⟩; have Hcb := bl Hcb hb9; have Hb5 := bl Hb5 hb9; have Hb6 := bl Hb6 hb9; have Hb7 := bl Hb7 hb9; have Hg := ϕ (Hg.out.below hb9 Hg.out.lt); have HB := tm HB hb9; clear hb9; have tk207_3 := trivial)
      | (clear tk207_3; (with_reducible refine qd_ ?_); refine Cv.qu_ rfl 78 _ _ rfl b7 (u64s (els [D.x, D.y, D.z, D.t])) (u64s (els [Ra.x, Ra.y, Ra.z, Ra.t])) 78 rfl (by first | rfl | (rw [qi_])) Hb7.out (by kernel_rfl) (by first | rfl | kernel_rfl) (qp_ _) ?_; intro X209 hV hgV; have Hcb := ϕ (qb_ Hcb.out hgV Nb7_cb.out); have Hb5 := ϕ (qb_ Hb5.out hgV Nb7_b5.out); have Hb6 := ϕ (qb_ Hb6.out hgV Nb7_b6.out); have Hg := ϕ (qb_ Hg.out hgV Nb7_g.out); have Hb7 := ϕ hV; have HB := ϕ (HB.out.grown hgV HB.out.size (fun j e => by cases e; exact Gb7.out)); clear hV hgV; have tk207_4 := trivial))
     clear tk207_4
     have cb7 := Hg.out.cell m (bools_get (hbx ▸ bitsTo_get l Hcb7.out))
     go_wp2_with fail
     go_roundw
     case rel =>
      have REL := ϕ (show ∃ k' : Nat, k' ≤ 256 ∧ Value.int .i64 ((m : Int) - 1) = .int .i64 (255 - (k' : Int)) ∧ Rg.Blk X209 cb 84 (u64s (els [cd, ct, c1, c2, c3, c4])) ∧ Rg.Blk X209 b5 78 (u64s (els [P.x, P.y, P.z, P.t])) ∧ Rg.Blk X209 b6 78 (u64s (els [zE, zE, zE, zE])) ∧ Rg.Blk X209 b7 78 (u64s (els [(f k').x, (f k').y, (f k').z, (f k').t])) ∧ Rg.Blk X209 g 4 (bools (bitsTo l 256)) ∧ Below w.heap.size w X209 from ⟨k + 1, hk5, congrArg _ (by omega), Hcb.out, Hb5.out, Hb6.out, (HRC.out ▸ HDE.out ▸ Hb7.out), Hg.out, HB.out⟩)
      first
       | exact REL.out
       | ((repeat apply Exists.intro); refine ⟨?_, rfl⟩; exact REL.out)
     case measure => (first | (simp [intOf]; done) | (simp [intOf]; omega))
  · obtain rfl : k = 256 := by omega
    have hd : decide ((0 : Int) ≤ 255 - ((256 : Nat) : Int)) = false := by simp
    obtain ⟨Ra, hRa⟩ : ∃ R, f 256 = R := exr
    rw [hRa] at Hb7
    have HRA := ϕ hRa
    clear hRa
    have tk7_0 := trivial
    go_wp2_with (first
     | (clear tk7_0; (with_reducible refine qd_ ?_); refine Cv.qn_ rfl 78 _ rfl b7 0 rfl (u64s (els [Ra.x, Ra.y, Ra.z, Ra.t])) _ (els_at (Hb7.out) 0 0 [Ra.x, Ra.y, Ra.z, Ra.t] rfl rfl (by simp)) underlying78 rfl (by kernel_rfl) ?_; have tk7_1 := trivial)
     | (clear tk7_1; (with_reducible refine qd_ ?_); refine Cv.qu_ rfl 78 _ _ rfl b6 (u64s (els [Ra.x, Ra.y, Ra.z, Ra.t])) (u64s (els [zE, zE, zE, zE])) 78 rfl (by first | rfl | (rw [qi_])) Hb6.out (by kernel_rfl) (by first | rfl | kernel_rfl) (qp_ _) ?_; intro X8 hV hgV; have Hb6 := ϕ hV; have HB := ϕ (HB.out.grown hgV HB.out.size (fun j e => by cases e; exact Gb6.out)); clear hV hgV; have tk7_2 := trivial))
    clear tk7_2
    rw [HRA.out]
    refine bodyPost_ret (v := .agg (u64s (els [Ra.x, Ra.y, Ra.z, Ra.t])))
     (results_cell_row results34 _ _ b6 78 _ (0, 0) _ rfl Hb6.out underlying78 rfl (by kernel_rfl)) rfl ?_
    exact ⟨rfl, HB.out⟩
end Kx
end Go.Proofs.YtciibogkfbicfaaGreatDoor
