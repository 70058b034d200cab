/- Regions whose order is drawn, with a tail in one order (a store into a cell that the region loads): as RegionL, the class of worlds holds till the tail begins. -/
import Derived.Test.YtjfikbnfabdkoaaDoorRegionL
import Derived.StillTail
import Derived.Test.YtjfikbnfabdkoaaDoorOwn
set_option linter.unusedVariables false
set_option linter.unusedSimpArgs false
namespace Go.Proofs.YtjfikbnfabdkoaaDoor.RT
open Go.RowKit Go.Proofs.YtjfikbnfabdkoaaDoor.RL
section
variable {P : Program} {ops : Array Oper} {Q : Exit → Act → World → Prop} {md : Region.Mode} {S : World → Prop} {n g : Nat}
/-- whatever order is picked from here on, the head's operations first -/
def wpAnyT (P : Program) (md : Region.Mode) (ops : Array Oper) (Q : Exit → Act → World → Prop) (S : World → Prop) (n g : Nat) : Nat → Array Bool → Act → World → Prop
  | 0, listed, a, w => Region.seqB md ops g n listed = true ∧ wpAny P md ops Q g listed a w
  | fuel + 1, listed, a, w =>
    Region.ready md ops listed ≠ [] ∧
    ∀ i ∈ Region.ready md ops listed, i < n ∧ wpOp P ops Q i (fun a' w' => S w' ∧ ∀ w'', Lat w' w'' → S w'' → wpAnyT P md ops Q S n g fuel (listed.setIfInBounds i true) a' w'') a w
theorem wpAny_of_T : ∀ (fuel : Nat) (listed : Array Bool) (a : Act) (w : World), wpAnyT P md ops Q S n g fuel listed a w → wpAny P md ops Q (fuel + g) listed a w
  | 0, _, _, _, h => by rw [Nat.zero_add]; exact h.2
  | fuel + 1, listed, a, w, h => by
    rw [show fuel + 1 + g = (fuel + g) + 1 by omega]
    exact ⟨fun h0 => absurd h0 h.1, fun i hi => wpOp_mono (fun a' w' h' => wpAny_of_T fuel _ a' w' (h'.2 w' (Lat.refl w') h'.1)) (h.2 i hi).2⟩
structure Hd (md : Region.Mode) (ops : Array Oper) (n : Nat) (listed : Array Bool) : Prop where
  s : Region.sinkB md ops n = true
  c : Region.chainB md ops n = true
  lt0 : n < ops.size
  inv : HeadInv md ops n listed
theorem Hd.set {listed : Array Bool} (h : Hd md ops n listed) {i : Nat} (hi : i ∈ Region.ready md ops listed) (hin : i < n) : Hd md ops n (listed.setIfInBounds i true) := ⟨h.s, h.c, h.lt0, h.inv.set hi hin⟩
theorem Hd.lt {listed : Array Bool} (h : Hd md ops n listed) {i : Nat} (hin : i < n) (hun : listed.getD i true = false) {j : Nat} (hj : j ∈ Region.ready md ops listed) : j < n := by
  rcases Nat.lt_or_ge j n with h' | h'
  · exact h'
  · exact absurd hj (tail_waits h.s h.c h.lt0 h.inv _ i rfl hin hun j h')
theorem wpAnyT_first {i : Nat} {oi : Oper} {v : Value} (hi : ops[i]? = some oi) (hsel : ∀ (j : Nat) (o : Oper) cs b, ops[j]? = some o → o.op ≠ .select cs b)
    (hQ : ∀ c a w, Q (.panic c) (a.put oi.dst v) w → Q (.panic c) a w) (hin : i < n) :
    ∀ (fuel : Nat) (listed : Array Bool) (a : Act) (w : World), Hd md ops n listed →
      (∀ j oj, ops[j]? = some oj → j ≠ i → listed.getD j true = false → (∀ e ∈ oj.after, Region.binds md e = true → e.on ≠ i) → oi.apart ops oj = true) →
      i ∈ Region.ready md ops listed → Soft P ops S oi v a → S w →
      (∀ w', Lat w w' → S w' → wpAnyT P md ops Q S n g fuel (listed.setIfInBounds i true) (a.put oi.dst v) w') → wpAnyT P md ops Q S n g (fuel + 1) listed a w := by
  intro fuel
  induction fuel with
  | zero =>
    intro listed a w hd _ hr hy hS H
    have hun := (mem_ready.1 hr).1
    refine ⟨fun h => (by rw [h] at hr; cases hr), fun j hj => ⟨hd.lt hin hun hj, ?_⟩⟩
    by_cases hji : j = i
    · subst hji; exact hy.wpOp hi hS (fun w' hl hs => ⟨hs, fun w'' hl' hs' => H w'' (hl.trans hl') hs'⟩)
    · have h1 := seqB_ready (H w (Lat.refl w) hS).1 j (ready_mono hj hji)
      have h2 := hd.lt hin hun hj
      omega
  | succ fuel ih =>
    intro listed a w hd hfree hr hy hS H
    have hun := (mem_ready.1 hr).1
    refine ⟨fun h => (by rw [h] at hr; cases hr), fun j hj => ⟨hd.lt hin hun hj, ?_⟩⟩
    by_cases hji : j = i
    · subst hji; exact hy.wpOp hi hS (fun w' hl hs => ⟨hs, fun w'' hl' hs' => H w'' (hl.trans hl') hs'⟩)
    · have h1 := ((H w (Lat.refl w) hS).2 j (ready_mono hj hji)).2
      obtain ⟨hjun, oj, hoj, hall⟩ := mem_ready.1 hj
      have hnot : ∀ e ∈ oj.after, Region.binds md e = true → e.on ≠ i := fun e he hb heq => by
        have h1 := hall e he hb
        have h0 := (mem_ready.1 hr).1
        rw [heq] at h1
        rcases Nat.lt_or_ge i listed.size with h' | h'
        · simp [h'] at h0 h1; rw [h0] at h1; cases h1
        · simp [Array.getElem?_eq_none h'] at h1
      have h2 := wpOp_putSoft hoj (hfree j oj hoj hji hjun hnot) (fun cs b => hsel i oi cs b hi) (fun cs b => hsel j oj cs b hoj) hQ hy h1
      have hfree' : ∀ k ok, ops[k]? = some ok → k ≠ i → (listed.setIfInBounds j true).getD k true = false →
          (∀ e ∈ ok.after, Region.binds md e = true → e.on ≠ i) → oi.apart ops ok = true := fun k ok hk hki hun hno => by
        refine hfree k ok hk hki ?_ hno
        by_cases hjk : j = k
        · subst hjk; exact hjun
        · rw [getD_set_ne true hjk] at hun; exact hun
      refine wpOp_mono (fun a' w' h3 => ⟨h3.2.1, fun w'' hl hs => ih (listed.setIfInBounds j true) a' w'' (hd.set hj (hd.lt hin hun hj)) hfree' (ready_mono hr (Ne.symm hji)) h3.1 hs (fun w3 hl3 hs3 => ?_)⟩) h2
      rw [Array.setIfInBounds_comm _ _ hji]
      exact h3.2.2 w3 (hl.trans hl3) hs3
/-- the same in every later world of S -/
def H (P : Program) (md : Region.Mode) (ops : Array Oper) (Q : Exit → Act → World → Prop) (S : World → Prop) (n g : Nat) (w : World) (fuel : Nat) (listed : Array Bool) (a : Act) : Prop :=
  Hd md ops n listed → ∀ w', Lat w w' → S w' → wpAnyT P md ops Q S n g fuel listed a w'
theorem take {i : Nat} {oi : Oper} {v : Value} {fuel : Nat} {listed : Array Bool} {a : Act} {w : World} (hi : ops.toList[i]? = some oi)
    (hs : Region.noSelect ops = true) (hf : Region.free md ops listed i = true) (hr : (Region.ready md ops listed).contains i = true) (hin : i < n)
    (hQ : ∀ c a w, Q (.panic c) (a.put oi.dst v) w → Q (.panic c) a w) (hy : Soft P ops S oi v a)
    (h : H P md ops Q S n g w fuel (listed.setIfInBounds i true) (a.put oi.dst v)) : H P md ops Q S n g w (fuel + 1) listed a := fun hd w' hl hS =>
  wpAnyT_first (by simpa using hi) (Region.noSelect_spec hs) hQ hin fuel listed a w' hd (Region.free_spec (by simpa using hi) hf) (by simpa using hr) hy hS (fun w'' hl' hs' => h (hd.set (by simpa using hr) hin) w'' (hl.trans hl') hs')
theorem takeV {i : Nat} {oi : Oper} {v : Value} {fuel : Nat} {listed : Array Bool} {a : Act} {w : World} (hi : ops.toList[i]? = some oi)
    (hs : Region.noSelect ops = true) (hf : Region.free md ops listed i = true) (hr : (Region.ready md ops listed).contains i = true) (hin : i < n)
    (hQ : ∀ c a w, Q (.panic c) (a.put oi.dst v) w → Q (.panic c) a w) (hw : Region.wanted oi (yielded ops a.tmps) = true) (hv : ∀ w, S w → (execOp a.eval oi).run P w = .ok (.value v) w)
    (h : H P md ops Q S n g w fuel (listed.setIfInBounds i true) (a.put oi.dst v)) : H P md ops Q S n g w (fuel + 1) listed a :=
  take hi hs hf hr hin hQ (.inl ⟨hw, hv⟩) h
theorem takeU {i : Nat} {oi : Oper} {fuel : Nat} {listed : Array Bool} {a : Act} {w : World} (hi : ops.toList[i]? = some oi)
    (hs : Region.noSelect ops = true) (hf : Region.free md ops listed i = true) (hr : (Region.ready md ops listed).contains i = true) (hin : i < n)
    (hQ : ∀ c a w, Q (.panic c) (a.put oi.dst undef) w → Q (.panic c) a w) (hw : Region.wanted oi (yielded ops a.tmps) = false)
    (h : H P md ops Q S n g w fuel (listed.setIfInBounds i true) (a.put oi.dst undef)) : H P md ops Q S n g w (fuel + 1) listed a :=
  take hi hs hf hr hin hQ (.inr (.inr ⟨hw, rfl⟩)) h
theorem takeC {i : Nat} {oi : Oper} {v : Value} {fuel : Nat} {listed : Array Bool} {a : Act} {w : World} (f : FuncId) (args : Array Value) (hi : ops.toList[i]? = some oi)
    (hs : Region.noSelect ops = true) (hf : Region.free md ops listed i = true) (hr : (Region.ready md ops listed).contains i = true) (hin : i < n)
    (hQ : ∀ c a w, Q (.panic c) (a.put oi.dst v) w → Q (.panic c) a w) (hw : Region.wanted oi (yielded ops a.tmps) = true) (hv : ∀ w, S w → (execOp a.eval oi).run P w = .ok (.enter f args) w)
    (hc : ∀ w, S w → Calls P f args w fun e w' => e = .returned v ∧ Lat w w' ∧ S w')
    (h : H P md ops Q S n g w fuel (listed.setIfInBounds i true) (a.put oi.dst v)) : H P md ops Q S n g w (fuel + 1) listed a :=
  take hi hs hf hr hin hQ (.inr (.inl ⟨hw, f, args, fun w hS => ⟨hv w hS, hc w hS⟩⟩)) h
theorem stepK {i : Nat} {o : Oper} {fuel : Nat} {listed : Array Bool} {a : Act} {w : World} (ho : ops.toList[i]? = some o) (hr : Region.ready md ops listed = [i]) (hin : i < n) (hw : Region.wanted o (yielded ops a.tmps) = true)
    (h : ∀ w', Lat w w' → S w' → ∀ K : Act → World → Prop, Shut (∀ a' w'', S w'' → H P md ops Q S n g w'' fuel (listed.setIfInBounds i true) a' → K a' w'') → Oper.wp P o a w' K Q) : H P md ops Q S n g w (fuel + 1) listed a := by
  intro hd w' hl hS
  refine ⟨fun h0 => (by rw [h0] at hr; cases hr), fun j hj => ?_⟩
  rw [hr] at hj
  obtain rfl := List.mem_singleton.1 hj
  refine ⟨hin, wpOp_step (by simpa using ho) fun K hK => ?_⟩
  rw [if_pos hw]
  exact h w' hl hS K (fun a' w'' hs hh => hK a' w'' ⟨hs, fun w3 hl3 hs3 => hh (hd.set (by rw [hr]; exact List.mem_singleton.2 rfl) hin) w3 hl3 hs3⟩)
/-- the head is done: the tail in its order -/
theorem tail {l : List Oper} {listed : Array Bool} {a : Act} {w : World} (hB : Region.seqB md ops g n listed = true) (hl : ops.toList.drop n = l) (hg : l.length = g)
    (h : ∀ w', Lat w w' → S w' → wpList P ops Q l a w') : H P md ops Q S n g w 0 listed a := fun _ w' hl' hS => by
  subst hg
  exact ⟨hB, wpAny_of_seq l n listed a w' (fun j => by rw [← hl]; simp [List.getElem?_drop]) hB (h w' hl' hS)⟩
theorem start {id : Nat} {a : Act} {w : World} {l : List Oper} (S : World → Prop) (n g : Nat) (hm : P.follows .mixedOrders = true) (hn : n < l.length) (hg : n + g = l.length) (hs : Region.sinkB .any l.toArray n = true) (hc : Region.chainB .any l.toArray n = true) (hS : S w.drew)
    (h : H P .any l.toArray Q S n g w.drew n (Array.replicate l.toArray.size false) a) : (Code.region id l.toArray true).wp P Q a w := by
  refine wp_region_any hm ?_
  have inv0 : HeadInv .any l.toArray n (Array.replicate l.toArray.size false) :=
    ⟨by simp, fun j oj _ hl => (by rw [getD_replicate_false] at hl; cases hl), fun t _ ht => getD_in (by simpa using ht) (getD_replicate_false _ _)⟩
  have := wpAny_of_T _ _ _ _ (h ⟨hs, hc, by simpa using hn, inv0⟩ w.drew (Lat.refl _) hS)
  rw [hg] at this
  simpa using this
end
/-- append(v, y), as one operation -/
theorem app1_op {P : Program} {o : Oper} {a : Act} {w : World} {K : Act → World → Prop} {Q : Exit → Act → World → Prop} (s x : Operand) (t : TypeId)
    (ho : o.op = .call { callee := .builtin .append, args := #[s, x], argTypes := #[t, t] }) {E : TypeId} {z : Value} {by' : Nat} (ht : P.underlying t = some (.slice E))
    (hI : (P.info? E).map (fun i => (i.zero, i.size, i.bytes)) = some (some z, 1, by')) (hz : z.cells.size = 1) (hby : 0 < by')
    {B : Nat} {v : Value} {xs : List Value} (hO : Ow.Owns w B E v xs) (hs : a.eval s = v) {A : Option Addr} {m c : Nat} {ys : List Value} (hm : ys.length = m) (hx : a.eval x = .slice A m c) (hR : Ow.Rd w A ys) (h1 : ∀ u ∈ ys, u.oneCell' = true)
    (hb : (xs.length + m) * by' ≤ 140737488355328) (hB : B ≤ w.heap.size)
    (h : ∀ v' w', Ow.Owns w' B E v' (xs ++ ys) → w.grownBy w' v.ownBlock → (v'.ownBlock = v.ownBlock ∨ v'.ownBlock = some w.heap.size) → K (a.put o.dst v') w') : Oper.wp P o a w K Q := by
  obtain ⟨v', w', hr, h2, h3, h4⟩ := Ow.run_app (P := P) w t o.type ht hI hz hby hO hm hR h1 hb hB
  unfold Oper.wp execOp
  simp only [ho, resolve, invoke, builtin, Sem.run_bind, Sem.run_pure, Result.andThen_ok, List.map_toArray, List.map_cons, List.map_nil, hs, hx]
  rw [hr]
  exact h v' w' h2 h3 h4
/-- a whole row loaded -/
theorem run_row {P : Program} {o : Oper} {a : Act} {w : World} (ty : TypeId) (x : Operand) (ho : o.op = .load ty x) (g : Nat) (hx : a.eval x = .pointer (some ⟨g, 0, none⟩)) (t : TypeId) (cs : Array Value) (hB : Rg.Blk w g t cs) {d : TypeDesc}
    (hu : P.underlying ty = some d) (hd : (match d with | .struct _ | .array _ _ => true | _ => false) = true) (hi : (P.info? ty).map (·.size) = some cs.size) : (execOp a.eval o).run P w = .ok (.value (.agg cs)) w := by
  unfold execOp
  simp only [ho, hx, Instr.loadAt, Instr.sureAddr, Sem.run_bind, Sem.run_pure, Result.andThen_ok, run_loadVar_row w g t ty cs (0, 0) d hB hu hd hi]
end Go.Proofs.YtjfikbnfabdkoaaDoor.RT
