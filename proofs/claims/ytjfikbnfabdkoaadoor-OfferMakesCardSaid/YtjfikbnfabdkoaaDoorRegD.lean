/- Regions whose order is drawn, by what holds of each operation's value, whatever the order: operations that make memory beside one another, loads, quiet calls; a tail in one order. -/
import Derived.Test.YtjfikbnfabdkoaaDoorGenA
set_option linter.unusedVariables false
set_option linter.unusedSimpArgs false
namespace Go.Proofs.YtjfikbnfabdkoaaDoor.RD
open Go.RowKit Go.Proofs.YtjfikbnfabdkoaaDoor.RL
/-- outside of the slots ds the frame is as it was -/
structure Agree (ds : List Nat) (a0 a : Act) : Prop where
  size : a.tmps.size = a0.tmps.size
  same : ∀ t, t ∉ ds → a.tmps[t]? = a0.tmps[t]?
  defers : a.defers = a0.defers
theorem Agree.refl (ds : List Nat) (a : Act) : Agree ds a a := ⟨rfl, fun _ _ => rfl, rfl⟩
theorem Agree.put {ds : List Nat} {a0 a : Act} (h : Agree ds a0 a) {d : Nat} (hd : d ∈ ds) (v : Value) : Agree ds a0 (a.put (some d) v) :=
  ⟨by simpa [Act.put] using h.size, fun t ht => by
    have : d ≠ t := fun e => ht (e ▸ hd)
    simp only [Act.put]
    rw [Array.getElem?_setIfInBounds_ne this]
    exact h.same t ht, h.defers⟩
theorem Agree.eval {ds : List Nat} {a0 a : Act} (h : Agree ds a0 a) (t : Nat) (ht : ds.contains t = false) {v : Value} (hv : a0.eval (.tmp t) = v) : a.eval (.tmp t) = v := by
  rw [← hv]
  have : t ∉ ds := fun hm => by rw [List.contains_iff_mem.2 hm] at ht; cases ht
  simp only [Act.eval, Array.getD_eq_getD_getElem?]
  rw [h.same t this]
/-- the frame, written out -/
theorem Agree.form {ds : List Nat} {a0 a : Act} (h : Agree ds a0 a) : a = { tmps := ds.foldl (fun arr d => arr.setIfInBounds d (a.tmps.getD d undef)) a0.tmps, defers := a0.defers } := by
  have key : ∀ (l : List Nat) (arr : Array Value), arr.size = a.tmps.size → (∀ t, t ∉ l → a.tmps[t]? = arr[t]?) → l.foldl (fun arr d => arr.setIfInBounds d (a.tmps.getD d undef)) arr = a.tmps := by
    intro l
    induction l with
    | nil =>
      intro arr _ h2
      apply Array.ext_getElem?
      intro t
      exact (h2 t (by simp)).symm
    | cons d l ih =>
      intro arr h1 h2
      rw [List.foldl_cons]
      apply ih
      · rw [Array.size_setIfInBounds]; exact h1
      · intro t ht
        by_cases e : d = t
        · subst e
          rcases Nat.lt_or_ge d a.tmps.size with hlt | hge
          · rw [Array.getElem?_setIfInBounds_self_of_lt (by omega), Array.getElem?_eq_getElem hlt, Array.getD_eq_getD_getElem?, Array.getElem?_eq_getElem hlt]; rfl
          · rw [Array.getElem?_eq_none hge, Array.getElem?_eq_none (by rw [Array.size_setIfInBounds]; omega)]
        · rw [Array.getElem?_setIfInBounds_ne e]
          exact h2 t (by simp only [List.mem_cons, not_or]; exact ⟨fun h => e h.symm, ht⟩)
  obtain ⟨tm, df⟩ := a
  have h3 := h.defers
  simp only at h3
  subst h3
  rw [key ds a0.tmps h.size.symm (fun t ht => h.same t ht)]
section
variable {P : Program} {ops : Array Oper} {Q : Exit → Act → World → Prop} {S : World → Prop} {n g : Nat} {ds : List Nat} {φ : Nat → Value → World → Prop} {a0 : Act}
/-- what is known of an operation's value -/
def val (ds : List Nat) (a : Act) (i : Nat) : Value := a.tmps.getD (ds.getD i 0) undef
/-- operation i, carried out where what it waits for is known -/
def StepOk (P : Program) (ops : Array Oper) (Q : Exit → Act → World → Prop) (S : World → Prop) (ds : List Nat) (φ : Nat → Value → World → Prop) (a0 : Act) (i : Nat) : Prop :=
  ∀ o, ops[i]? = some o → ∀ a w, Agree ds a0 a → S w → (∀ j, (o.after.any fun e => Region.binds .any e && e.on == j) = true → φ j (val ds a j) w) →
    ∀ K : Act → World → Prop, Shut (∀ v w', Lat w w' → S w' → φ i v w' → K (a.put o.dst v) w') → Oper.wp P o a w K Q
theorem StepOk.mk {i : Nat} {o : Oper} (ho : ops.toList[i]? = some o)
    (h : ∀ a w, Agree ds a0 a → S w → (∀ j, (o.after.any fun e => Region.binds .any e && e.on == j) = true → φ j (val ds a j) w) →
      ∀ K : Act → World → Prop, Shut (∀ v w', Lat w w' → S w' → φ i v w' → K (a.put o.dst v) w') → Oper.wp P o a w K Q) : StepOk P ops Q S ds φ a0 i := fun o' ho' => by
  have : o = o' := Option.some.inj ((by simpa using ho : ops[i]? = some o).symm.trans ho')
  subst this
  exact h
structure Inv (ops : Array Oper) (S : World → Prop) (n : Nat) (ds : List Nat) (φ : Nat → Value → World → Prop) (a0 : Act) (listed : Array Bool) (a : Act) (w : World) : Prop where
  head : HeadInv .any ops n listed
  agree : Agree ds a0 a
  s : S w
  vals : ∀ i, i < n → listed.getD i false = true → φ i (val ds a i) w
def left (listed : Array Bool) (n : Nat) : Nat := (List.range n).countP fun i => !listed.getD i false
/-- each head operation writes its own slot, has no guard, and waits for earlier ones alone -/
def shapeB (ops : Array Oper) (n : Nat) (ds : List Nat) (sz : Nat) : Bool :=
  decide (n < ops.size) && decide (ds.length = n) && decide ds.Nodup && ds.all (fun d => decide (d < sz)) &&
  (List.range n).all (fun i => match ops[i]? with
    | some o => o.dst == some (ds.getD i 0) && o.guard == none && o.after.all (fun e => !Region.binds .any e || decide (e.on < i))
    | none => false)
theorem left_set {listed : Array Bool} {n i : Nat} (hi : i < n) (hs : i < listed.size) (hu : listed.getD i false = false) : left (listed.setIfInBounds i true) n + 1 = left listed n := by
  unfold left
  have : ∀ l : List Nat, l.Nodup → (i ∈ l → (l.countP fun j => !(listed.setIfInBounds i true).getD j false) + 1 = l.countP fun j => !listed.getD j false) ∧ (i ∉ l → (l.countP fun j => !(listed.setIfInBounds i true).getD j false) = l.countP fun j => !listed.getD j false) := by
    intro l
    induction l with
    | nil => intro _; exact ⟨fun h => by simp at h, fun _ => rfl⟩
    | cons x l ih =>
      intro hn
      rw [List.nodup_cons] at hn
      obtain ⟨h1, h2⟩ := ih hn.2
      constructor
      · intro hm
        rw [List.countP_cons, List.countP_cons]
        by_cases e : x = i
        · subst e
          rw [h2 hn.1]
          have : (listed.setIfInBounds x true).getD x false = true := by simp [hs]
          rw [this, hu]; simp
        · have hm' : i ∈ l := by simpa [Ne.symm e] using hm
          rw [← h1 hm']
          have : (listed.setIfInBounds i true).getD x false = listed.getD x false := by
            simp only [Array.getD_eq_getD_getElem?]; rw [Array.getElem?_setIfInBounds_ne (Ne.symm e)]
          rw [this]; omega
      · intro hm
        rw [List.countP_cons, List.countP_cons, h2 (fun h => hm (List.mem_cons_of_mem _ h))]
        have e : i ≠ x := fun e => hm (by rw [e]; exact List.mem_cons_self ..)
        have : (listed.setIfInBounds i true).getD x false = listed.getD x false := by
          simp only [Array.getD_eq_getD_getElem?]; rw [Array.getElem?_setIfInBounds_ne e]
        rw [this]
  exact (this (List.range n) List.nodup_range).1 (List.mem_range.2 hi)
theorem left_zero {listed : Array Bool} {n : Nat} (h : left listed n = 0) {i : Nat} (hi : i < n) : listed.getD i false = true := by
  unfold left at h
  rw [List.countP_eq_zero] at h
  have := h i (List.mem_range.2 hi)
  simpa using this
theorem shape_at {sz : Nat} (hB : shapeB ops n ds sz = true) {i : Nat} (hi : i < n) : ∃ o, ops[i]? = some o ∧ o.dst = some (ds.getD i 0) ∧ o.guard = none ∧ ∀ e ∈ o.after, Region.binds .any e = true → e.on < i := by
  unfold shapeB at hB
  simp only [Bool.and_eq_true] at hB
  have := List.all_eq_true.1 hB.2 i (List.mem_range.2 hi)
  cases ho : ops[i]? with
  | none => rw [ho] at this; cases this
  | some o =>
    rw [ho] at this
    simp only [Bool.and_eq_true, beq_iff_eq] at this
    refine ⟨o, rfl, this.1.1, this.1.2, fun e he hb => ?_⟩
    obtain ⟨k, hk, rfl⟩ := Array.mem_iff_getElem.1 he
    have h2 := Array.all_eq_true.1 this.2 k hk
    rw [hb] at h2
    simpa using h2
theorem dag (sz : Nat) (hB : shapeB ops n ds sz = true) (hsz : a0.tmps.size = sz) (hs : Region.sinkB .any ops n = true) (hc : Region.chainB .any ops n = true) (hg : n + g = ops.size)
    (hseq : Region.seqB .any ops g n (Array.replicate n true ++ Array.replicate g false) = true) {l : List Oper} (hl : ops.toList.drop n = l)
    (hφ : ∀ i v w w', φ i v w → Lat w w' → S w' → φ i v w') (hstep : ∀ i, i < n → StepOk P ops Q S ds φ a0 i)
    (hend : ∀ a w, Agree ds a0 a → S w → (∀ i, i < n → φ i (val ds a i) w) → wpList P ops Q l a w) :
    ∀ (c : Nat) (listed : Array Bool) (a : Act) (w : World), Inv ops S n ds φ a0 listed a w → left listed n = c → wpAny P .any ops Q (c + g) listed a w := by
  have hB' := hB
  unfold shapeB at hB'
  simp only [Bool.and_eq_true, decide_eq_true_eq] at hB'
  obtain ⟨⟨⟨⟨hn, hdl⟩, hnd⟩, hin⟩, _⟩ := hB'
  intro c
  induction c with
  | zero =>
    intro listed a w h hcnt
    have hall := fun i hi => left_zero hcnt (i := i) hi
    have hls : listed = Array.replicate n true ++ Array.replicate g false := by
      apply Array.ext_getElem?
      intro t
      have hsize := h.head.size
      rcases Nat.lt_or_ge t n with ht | ht
      · have h1 := hall t ht
        rw [Array.getElem?_append_left (by rw [Array.size_replicate]; exact ht)]
        have hts : t < listed.size := by omega
        rw [Array.getElem?_eq_getElem hts]
        simp only [Array.getD_eq_getD_getElem?, Array.getElem?_eq_getElem hts, Option.getD_some] at h1
        rw [h1]; simp [ht]
      · rw [Array.getElem?_append_right (by rw [Array.size_replicate]; exact ht)]
        rcases Nat.lt_or_ge t ops.size with ht2 | ht2
        · have h1 := h.head.tail t ht ht2
          have hts : t < listed.size := by omega
          rw [Array.getElem?_eq_getElem hts]
          simp only [Array.getD_eq_getD_getElem?, Array.getElem?_eq_getElem hts, Option.getD_some] at h1
          have hlt : t - (Array.replicate n true).size < g := by rw [Array.size_replicate]; omega
          rw [h1, Array.getElem?_replicate, if_pos hlt]
        · have hge : listed.size ≤ t := by rw [hsize]; exact ht2
          have hge2 : (Array.replicate g false).size ≤ t - (Array.replicate n true).size := by
            rw [Array.size_replicate, Array.size_replicate]
            have h3 : ops.size ≤ t := ht2
            omega
          rw [Array.getElem?_eq_none hge, Array.getElem?_eq_none hge2]
    have hlen : l.length = g := by rw [← hl]; simp; omega
    rw [Nat.zero_add, ← hlen]
    refine wpAny_of_seq l n listed a w (fun j => by rw [← hl]; simp [List.getElem?_drop]) ?_ (hend a w h.agree h.s (fun i hi => h.vals i hi (hall i hi)))
    rw [hlen, hls]; exact hseq
  | succ c ih =>
    intro listed a w h hcnt
    rw [show c + 1 + g = (c + g) + 1 by omega]
    -- some head operation is left
    have hex : ∃ i, i < n ∧ listed.getD i false = false ∧ ∀ j, j < i → listed.getD j false = true := by
      have h1 : ∃ i, i < n ∧ listed.getD i false = false := by
        have hpos : 0 < left listed n := by omega
        unfold left at hpos
        obtain ⟨i, hi, hp⟩ := List.countP_pos_iff.1 hpos
        exact ⟨i, List.mem_range.1 hi, by simpa using hp⟩
      obtain ⟨i0, hi0, hu0⟩ := h1
      have : ∀ m, m ≤ i0 → (∃ i, i < m ∧ i < n ∧ listed.getD i false = false ∧ ∀ j, j < i → listed.getD j false = true) ∨ ∀ j, j < m → listed.getD j false = true := by
        intro m
        induction m with
        | zero => intro _; exact .inr (fun j hj => absurd hj (by omega))
        | succ m ihm =>
          intro hm
          rcases ihm (by omega) with ⟨i, h1, h2, h3, h4⟩ | h1
          · exact .inl ⟨i, by omega, h2, h3, h4⟩
          · cases hv : listed.getD m false with
            | false => exact .inl ⟨m, by omega, by omega, hv, h1⟩
            | true => exact .inr (fun j hj => by
                by_cases e : j = m
                · subst e; exact hv
                · exact h1 j (by omega))
      rcases this i0 (Nat.le_refl _) with ⟨i, _, h2, h3, h4⟩ | h1
      · exact ⟨i, h2, h3, h4⟩
      · exact ⟨i0, hi0, hu0, h1⟩
    obtain ⟨i, hi, hu, hbefore⟩ := hex
    have hus : listed.getD i true = false := getD_in (by have := h.head.size; omega) hu
    obtain ⟨oi, hoi, _, _, hoa⟩ := shape_at hB hi
    have hir : i ∈ Region.ready .any ops listed := mem_ready.2 ⟨hus, oi, hoi, fun e he hb => hbefore e.on (hoa e he hb)⟩
    refine ⟨fun h0 => (by rw [h0] at hir; cases hir), fun j hj => ?_⟩
    have hjn : j < n := by
      rcases Nat.lt_or_ge j n with h' | h'
      · exact h'
      · exact absurd hj (tail_waits hs hc hn h.head _ i rfl hi hus j h')
    obtain ⟨hju, oj, hoj, hjd⟩ := mem_ready.1 hj
    obtain ⟨oj', hoj', hdst, hgd, _⟩ := shape_at hB hjn
    have : oj = oj' := Option.some.inj (hoj.symm.trans hoj')
    subst this
    refine wpOp_step hoj fun K hK => ?_
    have hw : Region.wanted oj (yielded ops a.tmps) = true := by unfold Region.wanted; rw [hgd]
    rw [if_pos hw]
    refine hstep j hjn oj hoj a w h.agree h.s (fun k hk => ?_) K (fun v w' hl' hs' hv => hK _ _ ?_)
    · obtain ⟨q, hq, hqe⟩ := Array.any_eq_true.1 hk
      simp only [Bool.and_eq_true, beq_iff_eq] at hqe
      have hlk := hjd oj.after[q] (Array.getElem_mem hq) hqe.1
      rw [hqe.2] at hlk
      have hkn : k < n := by
        rcases Nat.lt_or_ge k n with h' | h'
        · exact h'
        · rcases Nat.lt_or_ge k ops.size with h2 | h2
          · have := h.head.tail k h' h2
            have h3 := getD_both this
            rw [hlk] at h3; cases h3
          · have : listed.getD k false = false := by
              simp only [Array.getD_eq_getD_getElem?]
              rw [Array.getElem?_eq_none (by have := h.head.size; omega)]; rfl
            rw [hlk] at this; cases this
      exact h.vals k hkn hlk
    · refine ih _ _ _ ⟨h.head.set hj hjn, ?_, hs', fun k hk hlk => ?_⟩ ?_
      · rw [hdst]; exact h.agree.put (by rw [List.getD, List.getElem?_eq_getElem (by omega)]; exact List.getElem_mem _) v
      · by_cases e : j = k
        · subst e
          have hjlt : j < ds.length := by omega
          have : val ds (a.put oj.dst v) j = v := by
            unfold val
            rw [hdst]
            simp only [Act.put, Array.getD_eq_getD_getElem?]
            rw [Array.getElem?_setIfInBounds_self_of_lt]
            · rfl
            · rw [h.agree.size, hsz]
              have := List.all_eq_true.1 hin (ds.getD j 0) (by rw [List.getD, List.getElem?_eq_getElem hjlt]; exact List.getElem_mem _)
              simpa using this
          rw [this]; exact hv
        · have hlk' : listed.getD k false = true := by
            simp only [Array.getD_eq_getD_getElem?] at hlk ⊢
            rw [Array.getElem?_setIfInBounds_ne e] at hlk; exact hlk
          have : val ds (a.put oj.dst v) k = val ds a k := by
            unfold val
            rw [hdst]
            simp only [Act.put, Array.getD_eq_getD_getElem?]
            rw [Array.getElem?_setIfInBounds_ne]
            intro e2
            rw [List.getD, List.getD, List.getElem?_eq_getElem (by omega), List.getElem?_eq_getElem (by omega), Option.getD_some, Option.getD_some] at e2
            exact e ((List.nodup_iff_pairwise_ne.1 hnd |> fun _ => (List.getElem_inj hnd).1 e2))
          rw [this]
          exact hφ k _ w w' (h.vals k hk hlk') hl' hs'
      · have := left_set hjn (by have := h.head.size; omega) (getD_both hju)
        omega
theorem start {id : Nat} {w : World} {l t : List Oper} (S : World → Prop) (ds : List Nat) (φ : Nat → Value → World → Prop) (n g sz : Nat) (hm : P.follows .mixedOrders = true)
    (hB : shapeB l.toArray n ds sz = true) (hsz : a0.tmps.size = sz) (hs : Region.sinkB .any l.toArray n = true) (hc : Region.chainB .any l.toArray n = true) (hg : n + g = l.length)
    (hseq : Region.seqB .any l.toArray g n (Array.replicate n true ++ Array.replicate g false) = true) (ht : l.drop n = t) (hS : S w.drew)
    (hφ : ∀ i v w w', φ i v w → Lat w w' → S w' → φ i v w') (hstep : ∀ i, i < n → StepOk P l.toArray Q S ds φ a0 i)
    (hend : ∀ a w, Agree ds a0 a → S w → (∀ i, i < n → φ i (val ds a i) w) → wpList P l.toArray Q t a w) : (Code.region id l.toArray true).wp P Q a0 w := by
  refine wp_region_any hm ?_
  have inv0 : HeadInv .any l.toArray n (Array.replicate l.toArray.size false) :=
    ⟨by simp, fun j oj _ hl => (by rw [getD_replicate_false] at hl; cases hl), fun t _ ht => getD_in (by simpa using ht) (getD_replicate_false _ _)⟩
  have hcnt : left (Array.replicate l.toArray.size false) n = n := by
    unfold left
    have : ∀ i, (Array.replicate l.toArray.size false).getD i false = false := fun i => getD_replicate_false _ i
    rw [List.countP_eq_length.2 (fun i _ => by rw [this]; rfl), List.length_range]
  have := dag (Q := Q) sz hB hsz hs hc (by simpa using hg) hseq (by simpa using ht) hφ hstep hend n (Array.replicate l.toArray.size false) a0 w.drew ⟨inv0, Agree.refl _ _, hS, fun i _ h => by rw [getD_replicate_false] at h; cases h⟩ hcnt
  rw [hg] at this
  simpa using this
end
end Go.Proofs.YtjfikbnfabdkoaaDoor.RD
