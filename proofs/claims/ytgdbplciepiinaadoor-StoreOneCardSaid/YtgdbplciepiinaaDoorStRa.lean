/- The reference's Add and Revoke. -/
import Derived.Test.YtgdbplciepiinaaDoorStRn
import Derived.Test.YtgdbplciepiinaaDoorStDel
set_option linter.unusedVariables false
set_option linter.unusedSimpArgs false
namespace Go.Proofs.YtgdbplciepiinaaDoor.RT
open Go.RowKit Go.Proofs.YtgdbplciepiinaaDoor.RL
/-- two that may come up, whichever first, ahead of a tail -/
theorem step2 {P : Program} {ops : Array Oper} {Q : Exit → Act → World → Prop} {md : Region.Mode} {S : World → Prop} {n g : Nat} {i j : Nat} {oi oj : Oper} {fuel : Nat} {listed : Array Bool} {a : Act} {w : World} (hoi : ops.toList[i]? = some oi) (hoj : ops.toList[j]? = some oj) (hr : Region.ready md ops listed = [i, j]) (hin : i < n) (hjn : j < n) (hwi : Region.wanted oi (yielded ops a.tmps) = true) (hwj : Region.wanted oj (yielded ops a.tmps) = true)
    (hi : ∀ w', Lat w w' → S w' → ∀ K : Act → World → Prop, Shut (∀ a' w'', S w'' → H P md ops Q S n g w'' fuel (listed.setIfInBounds i true) a' → K a' w'') → Oper.wp P oi a w' K Q)
    (hj : ∀ w', Lat w w' → S w' → ∀ K : Act → World → Prop, Shut (∀ a' w'', S w'' → H P md ops Q S n g w'' fuel (listed.setIfInBounds j true) a' → K a' w'') → Oper.wp P oj a w' K Q) : H P md ops Q S n g w (fuel + 1) listed a := by
  intro hd w' hl hS
  refine ⟨fun h0 => (by rw [h0] at hr; cases hr), fun k hk => ?_⟩
  have hk0 := hk
  rw [hr] at hk
  rcases List.mem_cons.1 hk with rfl | hk
  · refine ⟨hin, wpOp_step (by simpa using hoi) fun K hK => ?_⟩
    rw [if_pos hwi]
    exact hi w' hl hS K (fun a' w'' hs hh => hK a' w'' ⟨hs, fun w3 hl3 hs3 => hh (hd.set hk0 hin) w3 hl3 hs3⟩)
  · obtain rfl := List.mem_singleton.1 hk
    refine ⟨hjn, wpOp_step (by simpa using hoj) fun K hK => ?_⟩
    rw [if_pos hwj]
    exact hj w' hl hS K (fun a' w'' hs hh => hK a' w'' ⟨hs, fun w3 hl3 hs3 => hh (hd.set hk0 hjn) w3 hl3 hs3⟩)
end Go.Proofs.YtgdbplciepiinaaDoor.RT
namespace Go.Proofs.YtgdbplciepiinaaDoor.St
open Go.RowKit Go.Proofs.YtgdbplciepiinaaDoor.Ow Go.Proofs.YtgdbplciepiinaaDoor.Cv
theorem fold_setO (o : Nat) : ∀ (l : List Value) (k : Nat) (arr : Array Value), o + k + l.length ≤ arr.size → ∀ j, ((l.zipIdx k).foldl (fun (cs : Array Value) (x : Value × Nat) => cs.setIfInBounds (o + x.2) x.1) arr)[j]? = if o + k ≤ j ∧ j < o + k + l.length then l[j - (o + k)]? else arr[j]?
  | [], k, arr, _, j => by
    rw [if_neg (fun e => by have := e.2; simp at this; omega)]; rfl
  | x :: l, k, arr, h, j => by
    rw [List.zipIdx_cons, List.foldl_cons, fold_setO o l (k + 1) _ (by rw [Array.size_setIfInBounds]; simp at h; omega) j]
    by_cases h1 : o + k = j
    · subst h1
      rw [if_neg (by omega), if_pos (by simp), Array.getElem?_setIfInBounds_self_of_lt (by simp at h; omega)]
      simp
    · rw [Array.getElem?_setIfInBounds_ne h1]
      by_cases h2 : o + (k + 1) ≤ j ∧ j < o + (k + 1) + l.length
      · rw [if_pos h2, if_pos (by simp; omega), show j - (o + k) = (j - (o + (k + 1))) + 1 by omega, List.getElem?_cons_succ]
      · rw [if_neg h2, if_neg (by simp; omega)]
set_option maxRecDepth 20000 in
theorem built_pair (t k : List UInt8) (hk : k.length = 32) : Tryd.prog.built 60 [(0, .string (strB t)), (1, .agg (bytesV k))] = some (pairV (t, k)) := by
  have e : Tryd.prog.built 60 [(0, .string (strB t)), (1, .agg (bytesV k))] = Instr.fill (#[(0, 1), (1, 32)][·]?) #[.string ⟨#[]⟩, .int .u8 0, .int .u8 0, .int .u8 0, .int .u8 0, .int .u8 0, .int .u8 0, .int .u8 0, .int .u8 0, .int .u8 0, .int .u8 0, .int .u8 0, .int .u8 0, .int .u8 0, .int .u8 0, .int .u8 0, .int .u8 0, .int .u8 0, .int .u8 0, .int .u8 0, .int .u8 0, .int .u8 0, .int .u8 0, .int .u8 0, .int .u8 0, .int .u8 0, .int .u8 0, .int .u8 0, .int .u8 0, .int .u8 0, .int .u8 0, .int .u8 0, .int .u8 0] [(0, .string (strB t)), (1, .agg (bytesV k))] := by kernel_rfl
  have hs : (bytesV k).size = 32 := by rw [bytesV_size, hk]
  have e2 : Instr.fill (#[(0, 1), (1, 32)][·]?) #[.string ⟨#[]⟩, .int .u8 0, .int .u8 0, .int .u8 0, .int .u8 0, .int .u8 0, .int .u8 0, .int .u8 0, .int .u8 0, .int .u8 0, .int .u8 0, .int .u8 0, .int .u8 0, .int .u8 0, .int .u8 0, .int .u8 0, .int .u8 0, .int .u8 0, .int .u8 0, .int .u8 0, .int .u8 0, .int .u8 0, .int .u8 0, .int .u8 0, .int .u8 0, .int .u8 0, .int .u8 0, .int .u8 0, .int .u8 0, .int .u8 0, .int .u8 0, .int .u8 0, .int .u8 0] [(0, .string (strB t)), (1, .agg (bytesV k))] = Instr.fill (#[(0, 1), (1, 32)][·]?) ((#[.string ⟨#[]⟩, .int .u8 0, .int .u8 0, .int .u8 0, .int .u8 0, .int .u8 0, .int .u8 0, .int .u8 0, .int .u8 0, .int .u8 0, .int .u8 0, .int .u8 0, .int .u8 0, .int .u8 0, .int .u8 0, .int .u8 0, .int .u8 0, .int .u8 0, .int .u8 0, .int .u8 0, .int .u8 0, .int .u8 0, .int .u8 0, .int .u8 0, .int .u8 0, .int .u8 0, .int .u8 0, .int .u8 0, .int .u8 0, .int .u8 0, .int .u8 0, .int .u8 0, .int .u8 0] : Array Value).setIfInBounds 0 (.string (strB t))) [(1, .agg (bytesV k))] := rfl
  rw [e, e2]
  unfold Instr.fill
  show (if (bytesV k).size ≠ 32 || 1 + (bytesV k).size > 33 then none else _) = _
  rw [hs, if_neg (by decide)]
  show some ((bytesV k).zipIdx.foldl (fun (cs : Array Value) (x : Value × Nat) => cs.setIfInBounds (1 + x.2) x.1) ((#[.string ⟨#[]⟩, .int .u8 0, .int .u8 0, .int .u8 0, .int .u8 0, .int .u8 0, .int .u8 0, .int .u8 0, .int .u8 0, .int .u8 0, .int .u8 0, .int .u8 0, .int .u8 0, .int .u8 0, .int .u8 0, .int .u8 0, .int .u8 0, .int .u8 0, .int .u8 0, .int .u8 0, .int .u8 0, .int .u8 0, .int .u8 0, .int .u8 0, .int .u8 0, .int .u8 0, .int .u8 0, .int .u8 0, .int .u8 0, .int .u8 0, .int .u8 0, .int .u8 0, .int .u8 0] : Array Value).setIfInBounds 0 (.string (strB t)))) = _
  refine congrArg some ?_
  obtain ⟨zz, hz, hz1, hz2⟩ : ∃ zz : Array Value, zz = (#[.string ⟨#[]⟩, .int .u8 0, .int .u8 0, .int .u8 0, .int .u8 0, .int .u8 0, .int .u8 0, .int .u8 0, .int .u8 0, .int .u8 0, .int .u8 0, .int .u8 0, .int .u8 0, .int .u8 0, .int .u8 0, .int .u8 0, .int .u8 0, .int .u8 0, .int .u8 0, .int .u8 0, .int .u8 0, .int .u8 0, .int .u8 0, .int .u8 0, .int .u8 0, .int .u8 0, .int .u8 0, .int .u8 0, .int .u8 0, .int .u8 0, .int .u8 0, .int .u8 0, .int .u8 0] : Array Value).setIfInBounds 0 (.string (strB t)) ∧ zz.size = 33 ∧ zz[0]? = some (.string (strB t)) := ⟨_, rfl, by rw [Array.size_setIfInBounds]; rfl, rfl⟩
  rw [← hz]
  clear hz
  rw [← Array.foldl_toList, Array.toList_zipIdx]
  apply Array.ext_getElem?
  intro j
  have hl : (bytesV k).toList.length = 32 := by rw [Array.length_toList, hs]
  rw [fold_setO 1 (bytesV k).toList 0 _ (by rw [hl, hz1]; decide) j, hl]
  unfold pairV pairC
  have hrhs : (Value.string (strB (t, k).1) :: bv (t, k).2).toArray[j]? = (Value.string (strB t) :: bv k)[j]? := by rw [List.getElem?_toArray]
  rw [hrhs]
  have hb : (bytesV k).toList = bv k := by unfold bytesV bv; rfl
  match j with
  | 0 => rw [if_neg (by omega), hz2]; rfl
  | j + 1 =>
    rw [List.getElem?_cons_succ, hb]
    by_cases hj : j < 32
    · rw [if_pos (by omega), show j + 1 - (1 + 0) = j by omega]
    · rw [if_neg (by omega), Array.getElem?_eq_none (by omega), List.getElem?_eq_none (by rw [bv_length, hk]; omega)]
theorem own_slice {w : World} {B n sz : Nat} {E : TypeId} {v : Value} {xs : List Value} (h : w.ownsRow B E sz v n xs) : ∃ A c, v = .slice A n c := by
  rcases h.2 with ⟨hv, hn⟩ | ⟨g, cap, cur, hv, _⟩
  · exact ⟨none, 0, by rw [hv, hn]⟩
  · exact ⟨_, _, hv⟩
/-- the reference's store after Add -/
def addL (T K : Nat) (L : List Pr) (t k : List UInt8) : List Pr := if addC T K L t k = 0 then L ++ [(t, k)] else L
theorem own_rd {w : World} {B n sz : Nat} {E : TypeId} {v : Value} {xs : List Value} (h : w.ownsRow B E sz v n xs) (hn : xs ≠ []) : ∃ g c, v = .slice (some ⟨g, 0, none⟩) n c ∧ B ≤ g ∧ g < w.heap.size ∧ Rd w (some ⟨g, 0, none⟩) xs := by
  rcases h.2 with ⟨hv, hz⟩ | ⟨g, cap, cur, hv, hB, hg, _⟩
  · have := h.1
    rw [hz, Nat.zero_mul] at this
    exact absurd (List.eq_nil_of_length_eq_zero this) hn
  · refine ⟨g, cap, hv, hB, (Array.getElem?_eq_some_iff.1 hg).1, fun j x hj => ⟨g, 0, rfl, (Array.getElem?_eq_some_iff.1 hg).1, ?_⟩⟩
    have := World.ownsRow.cells h (g := g) (by rw [hv]; rfl) j x hj
    have hadd : (⟨g, 0, none⟩ : Addr).add j = ⟨g, j, none⟩ := by unfold Addr.add; split <;> simp_all
    rw [hadd] at this
    rw [Nat.zero_add]; exact this
theorem store_slice {P : Program} {ops : Array Oper} {rest : List Oper} {o : Oper} {a : Act} {w : World} {Q : Exit → Act → World → Prop} (hgd : o.guard = none) (ty : TypeId) (x y : Operand) (ho : o.op = .store ty x y)
    {b j T : Nat} {cs : Array Value} {old : Value} {A : Option Addr} {n c : Nat} {e : TypeId} (hx : a.eval x = .pointer (some ⟨b, j, none⟩)) (hy : a.eval y = .slice A n c) (hu : P.underlying ty = some (.slice e)) (hi : (P.info? ty).map (·.size) = some 1) (hR : Rg.Blk w b T cs) (hj : cs[j]? = some old)
    (h : ∀ w', Rg.Blk w' b T (cs.setIfInBounds j (.slice A n c)) → w.grownBy w' (some b) → wpList P ops Q rest (a.put o.dst undef) w') : wpList P ops Q (o :: rest) a w :=
  wpList_plain hgd fun _ hK => by
    have hx' := hx
    have hy' := hy
    have hc := hR.cell j hj
    have hf := hR.frozen j
    simp [go_sem] at hx' hy'
    unfold Oper.wp execOp
    cases hq : P.info? ty with
    | none => simp [hq] at hi
    | some i =>
    have hs : i.size = 1 := by simpa [hq] using hi
    simp [ho, hx', hy', go_sem, hc, hf, hu, sizeOf, typeInfo, hq, hs]
    have hB : Rg.Blk (w.setCell ⟨b, j, none⟩ (.slice A n c)) b T (cs.setIfInBounds j (.slice A n c)) := by
      have h2 := hR
      unfold Rg.Blk at *
      rw [heap_setCell_same w b j _ _ _ h2]
    have := hK _ _ (h _ hB (Cl.grown_setCell w b j _))
    simpa [go_sem] using this
theorem run_build_op {P : Program} {o : Oper} {a : Act} {w : World} (t : TypeId) (parts : Array (Nat × Operand)) (ho : o.op = .build t parts) (vals : Array (Nat × Value)) (hv : (parts.map fun (x : Nat × Operand) => (x.1, a.eval x.2)) = vals) (cells : Array Value) (h : P.built t vals.toList = some cells) : (execOp a.eval o).run P w = .ok (.value (.agg cells)) w := by
  have hr := run_build w t vals cells h
  rw [← hv] at hr
  unfold execOp
  simp only [ho, Sem.run_bind, Sem.run_map, Sem.run_pure]
  simp [hr]
theorem HRkept {w w' : World} {g : Nat} {r : Option Nat} {xs : List Value} (h : Rd w (some ⟨g, 0, none⟩) xs) (hg : w.grownBy w' r) (hne : some g ≠ r) : Rd w' (some ⟨g, 0, none⟩) xs := fun j x hx => by
  obtain ⟨b, o, e, h1, h2⟩ := h j x hx
  injection e with e
  injection e with e1 e2
  subst e1 e2
  refine ⟨g, 0, rfl, Nat.lt_of_lt_of_le h1 hg.size, ?_⟩
  have := hg.block g h1 (fun e => hne e)
  unfold World.cell? at h2 ⊢
  simp only [this]
  exact h2
theorem blk_keptR {w w' : World} {b g T : Nat} {cs : Array Value} (h : Rg.Blk w b T cs) (hg : w.grownBy w' (some g)) (hn : b ≠ g) : Rg.Blk w' b T cs := by
  unfold Rg.Blk at *
  rw [hg.block b (Array.getElem?_eq_some_iff.1 h).1 (fun e => hn (Option.some.inj e))]
  exact h
theorem app_none {P : Program} {o : Oper} {a : Act} {w : World} {Kc : Act → World → Prop} {Q : Exit → Act → World → Prop} (s x : Operand) (t : TypeId)
    (ho : o.op = .call { callee := .builtin .append, args := #[s, x], argTypes := #[t, t] }) {E : TypeId} {z : Value} {sz by' : Nat} (ht : P.underlying t = some (.slice E)) (hI : (P.info? E).map (fun i => (i.zero, i.size, i.bytes)) = some (some z, sz, by'))
    {B n : Nat} {v : Value} {xs : List Value} (hO : w.ownsRow B E sz v n xs) (hs : a.eval s = v) {c : Nat} (hx : a.eval x = .slice none 0 c) (h : Kc (a.put o.dst v) w) : Oper.wp P o a w Kc Q := by
  obtain ⟨i, hi, _⟩ := info_parts hI
  have hrun : (Builtin.append_ #[t, t] o.type #[v, .slice none 0 c]).run P w = .ok v w := by
    rcases hO.2 with ⟨rfl, h0⟩ | ⟨g, cap, cur, rfl, _, _, hc, _⟩
    · simp [Builtin.append_, run_underlying ht, sizeOf, typeInfo, hi, Builtin.lenOf, Builtin.firstCells]
    · simp [Builtin.append_, run_underlying ht, sizeOf, typeInfo, hi, Builtin.lenOf, Builtin.firstCells, hc, storeCells]
  unfold Oper.wp execOp
  simp only [ho, resolve, invoke, builtin, Sem.run_bind, Sem.run_pure, Result.andThen_ok, List.map_toArray, List.map_cons, List.map_nil, hs, hx, hrun]
  exact h
theorem app_pairs {o : Oper} {a : Act} {w : World} {Kc : Act → World → Prop} {Q : Exit → Act → World → Prop} (s x : Operand)
    (ho : o.op = .call { callee := .builtin .append, args := #[s, x], argTypes := #[28, 28] }) {B : Nat} {v : Value} (hO : w.ownsRow B 60 33 v 0 []) (hs : a.eval s = v) {A : Option Addr} {n c : Nat} {L : List Pr} (hP : PS w (.slice A n c) L) (hn : L.length = n) (hx : a.eval x = .slice A n c) (hb : n ≤ 1000000) (hB : B ≤ w.heap.size)
    (h : ∀ v' w', w'.ownsRow B 60 33 v' n (pcells L) → w.grownBy w' v.ownBlock → Kc (a.put o.dst v') w') : Oper.wp Tryd.prog o a w Kc Q := by
  obtain ⟨A', c', e, hc, hm, hR, hl⟩ := hP
  injection e with e1 e2 e3
  subst e1 e3
  cases A with
  | some ad =>
    refine appN_op s x 28 ho Tryd.underlying28 infoP rfl (by decide) (by decide) hO hs hx (by rw [pcells_length L hl, hn]) hR (pcells_oneCell L) (by omega) hB fun v' w' h1 h2 => h v' w' ?_ h2
    rw [Nat.zero_add, List.nil_append] at h1
    exact h1
  | none =>
    have hL : L = [] := by
      cases L with
      | nil => rfl
      | cons y l =>
        have hp : 0 < (pcells (y :: l)).length := by rw [pcells_length _ hl]; simp
        obtain ⟨b, o, e, _⟩ := hR 0 _ (List.getElem?_eq_getElem hp)
        cases e
    subst hL
    have hn0 : n = 0 := by rw [← hn]; rfl
    subst hn0
    refine app_none s x 28 ho Tryd.underlying28 infoP hO hs hx ?_
    rw [pcells_nil] at h
    exact h v w hO (World.grownBy.refl w _)
set_option maxRecDepth 20000 in
set_option maxHeartbeats 8000000 in
theorem RAdd_name (w : World) (T M : Nat) (v : Value) (L : List Pr) (h : PS w v L) (hz : L.length ≤ 100000) (t : List UInt8) (ht : t.length ≤ 1000) (k : List UInt8) (hk : k.length = 32) (hv : validB t = false) :
    Calls Tryd.prog 17 #[.agg #[.int .i64 (T : Int), .int .i64 (M : Int), v], .string (strB t), .agg (bytesV k)] w fun e w' => ∃ v', e = .returned (.tuple #[.agg #[.int .i64 (T : Int), .int .i64 (M : Int), v'], .int .i64 17]) ∧ PS w' v' L ∧ Below w.heap.size w w' := by
  have HVA := Lib.hid (show ∀ W : World, Calls Tryd.prog 9 #[.string (strB t)] W fun e w' => e = .returned (.bool false) ∧ W = w' from fun W => by have := RefValid_any W (strB t) (by show t.toArray.size ≤ _; rw [List.size_toArray]; omega); rw [show validB (strB t).data.toList = false from hv] at this; exact this)
  have HPS := Lib.hid h
  obtain ⟨A, c, rfl, hc, hm, hR, hl⟩ := h
  have HVK := Lib.hid (show (bytesV k).size = 32 by rw [bytesV_size, hk])
  have HK := Lib.hid hk
  generalize hn : L.length = n at *
  have HN := Lib.hid hn
  clear hv ht hR hl hk hn hc hm
  go_enter Tryd.func17, Tryd.ntmps17
  go_upto_region 1 with (first
    | (refine Rg.box_fresh rfl 34 _ rfl (bytesV k) rfl ?_; intro Y hY hbY hnY; have HY := Lib.hid hY; have HBY := Lib.hid hbY; clear hY hbY hnY)
    | (refine Rg.box_fresh rfl 30 _ rfl #[.int .i64 (T : Int), .int .i64 (M : Int), .slice A n c] rfl ?_; intro X hX hbX hnX; have HX := Lib.hid hX; have HBX := Lib.hid hbX; clear hX hbX hnX))
  refine wp_name3 (fun Z hZ => ?_)
  have HBB := Lib.hid (HBX.out.trans (HBY.out.mono HBX.out.size))
  have HXZ := Lib.hid (show Rg.Blk Z w.heap.size 30 #[.int .i64 (T : Int), .int .i64 (M : Int), .slice A n c] by rw [hZ]; exact (HX.out.below HBY.out HX.out.lt).alloc _)
  have HYZ := Lib.hid (show Rg.Blk Z X.heap.size 34 (bytesV k) by rw [hZ]; exact HY.out.alloc _)
  have H6Z := Lib.hid (show Rg.Blk Z Y.heap.size 30 #[.int .i64 0, .int .i64 0, .slice none 0 0] by rw [hZ]; exact Rg.Blk.new _ _ _)
  have HBZ := Lib.hid (show Below w.heap.size w Z by rw [hZ]; exact HBB.out.alloc HBB.out.size _)
  have HWY := Lib.hid (show w.heap.size < Y.heap.size ∧ X.heap.size < Y.heap.size ∧ w.heap.size < X.heap.size from ⟨Nat.lt_of_lt_of_le HX.out.lt HBY.out.size, HY.out.lt, HX.out.lt⟩)
  clear hZ
  generalize hb6 : Y.heap.size = b6 at *
  have HW6 := Lib.hid (show w.heap.size ≤ b6 from by have := HWY.out; omega)
  go_upto_region 2 with (go_at_call 9; refine (HVA.out _).mono ?_; rintro e w1 ⟨rfl, rfl⟩; skip)
  go_wp2_with (first
    | (refine Cv.load_cells rfl 30 _ rfl w.heap.size 0 rfl #[.int .i64 (T : Int), .int .i64 (M : Int), .slice A n c] _ (fun j v hv => by rw [Nat.zero_add]; exact HXZ.out.cell j hv) Tryd.underlying30 rfl (by kernel_rfl) ?_; skip)
    | (refine Cv.store_blk rfl 30 _ _ rfl b6 #[.int .i64 (T : Int), .int .i64 (M : Int), .slice A n c] #[.int .i64 0, .int .i64 0, .slice none 0 0] 30 rfl rfl H6Z.out (by kernel_rfl) rfl (by simp [Value.oneCell']) ?_; intro V hV hgV; have HV := Lib.hid hV; have HGV := Lib.hid hgV; clear hV hgV))
  have HBV := Lib.hid (HBZ.out.grown HGV.out HBZ.out.size (fun j hj => by cases hj; exact HW6.out))
  have p0 := HV.out.cell 0 (v := .int .i64 (T : Int)) rfl
  have p1 := HV.out.cell 1 (v := .int .i64 (M : Int)) rfl
  have p2 := HV.out.cell 2 (v := .slice A n c) rfl
  have hz6 := HV.out.lt
  refine bodyPost_ret (v := .tuple #[.agg #[.int .i64 (T : Int), .int .i64 (M : Int), .slice A n c], .int .i64 17]) (by simp [results, Tryd.results17, go_sem, p0, p1, p2, hz6]) rfl ?_
  exact ⟨_, rfl, HPS.out.below HBV.out, HBV.out⟩
set_option maxRecDepth 20000 in
set_option maxHeartbeats 8000000 in
theorem RAdd_have (w : World) (T M : Nat) (v : Value) (L : List Pr) (h : PS w v L) (hz : L.length ≤ 100000) (t : List UInt8) (ht : t.length ≤ 1000) (k : List UInt8) (hk : k.length = 32) (hv : validB t = true) (t0 : List UInt8) (hw : whoOf L k = some t0) (ht0 : t0 ≠ []) :
    Calls Tryd.prog 17 #[.agg #[.int .i64 (T : Int), .int .i64 (M : Int), v], .string (strB t), .agg (bytesV k)] w fun e w' => ∃ v', e = .returned (.tuple #[.agg #[.int .i64 (T : Int), .int .i64 (M : Int), v'], .int .i64 9]) ∧ PS w' v' L ∧ Below w.heap.size w w' := by
  have HVA := Lib.hid (show ∀ W : World, Calls Tryd.prog 9 #[.string (strB t)] W fun e w' => e = .returned (.bool true) ∧ W = w' from fun W => by have := RefValid_any W (strB t) (by show t.toArray.size ≤ _; rw [List.size_toArray]; omega); rw [show validB (strB t).data.toList = true from hv] at this; exact this)
  have HLK := Lib.hid (show ∀ W : World, Below w.heap.size w W → Calls Tryd.prog 12 #[.agg #[.int .i64 (T : Int), .int .i64 (M : Int), v], .agg (bytesV k)] W fun e w' => e = .returned (.string (strB t0)) ∧ Below W.heap.size W w' from fun W hW => by have := RLookup_any W T M v L (h.below hW) (by omega) k hk; rw [hw] at this; exact this)
  have HPS := Lib.hid h
  obtain ⟨A, c, rfl, hc, hm, hR, hl⟩ := h
  have HVK := Lib.hid (show (bytesV k).size = 32 by rw [bytesV_size, hk])
  have HK := Lib.hid hk
  generalize hn : L.length = n at *
  have HN := Lib.hid hn
  have hne : ((strB t0).toList == []) = false := by rw [strB_toList, beq_eq_false_iff_ne]; exact ht0
  clear hv ht hR hl hk hn hc hm hw ht0
  go_enter Tryd.func17, Tryd.ntmps17
  go_upto_region 1 with (first
    | (refine Rg.box_fresh rfl 34 _ rfl (bytesV k) rfl ?_; intro Y hY hbY hnY; have HY := Lib.hid hY; have HBY := Lib.hid hbY; clear hY hbY hnY)
    | (refine Rg.box_fresh rfl 30 _ rfl #[.int .i64 (T : Int), .int .i64 (M : Int), .slice A n c] rfl ?_; intro X hX hbX hnX; have HX := Lib.hid hX; have HBX := Lib.hid hbX; clear hX hbX hnX))
  refine wp_name3 (fun Z hZ => ?_)
  have HBB := Lib.hid (HBX.out.trans (HBY.out.mono HBX.out.size))
  have HXZ := Lib.hid (show Rg.Blk Z w.heap.size 30 #[.int .i64 (T : Int), .int .i64 (M : Int), .slice A n c] by rw [hZ]; exact (HX.out.below HBY.out HX.out.lt).alloc _)
  have HYZ := Lib.hid (show Rg.Blk Z X.heap.size 34 (bytesV k) by rw [hZ]; exact HY.out.alloc _)
  have H6Z := Lib.hid (show Rg.Blk Z Y.heap.size 30 #[.int .i64 0, .int .i64 0, .slice none 0 0] by rw [hZ]; exact Rg.Blk.new _ _ _)
  have HBZ := Lib.hid (show Below w.heap.size w Z by rw [hZ]; exact HBB.out.alloc HBB.out.size _)
  have HWY := Lib.hid (show w.heap.size < Y.heap.size ∧ X.heap.size < Y.heap.size ∧ w.heap.size < X.heap.size from ⟨Nat.lt_of_lt_of_le HX.out.lt HBY.out.size, HY.out.lt, HX.out.lt⟩)
  clear hZ
  generalize hb6 : Y.heap.size = b6 at *
  have HW6 := Lib.hid (show w.heap.size ≤ b6 from by have := HWY.out; omega)
  go_upto_region 3 with (go_at_call 9; refine (HVA.out _).mono ?_; rintro e w1 ⟨rfl, rfl⟩; skip)
  go_upto_region 4 with (first
    | (refine Cv.load_cells rfl 30 _ rfl w.heap.size 0 rfl #[.int .i64 (T : Int), .int .i64 (M : Int), .slice A n c] _ (fun j v hv => by rw [Nat.zero_add]; exact HXZ.out.cell j hv) Tryd.underlying30 rfl (by kernel_rfl) ?_; skip)
    | (refine Cv.load_cells rfl 34 _ rfl X.heap.size 0 rfl (bytesV k) _ (Bytes.of_blk HYZ.out).cells Tryd.underlying34 rfl (by rw [HVK.out]; kernel_rfl) ?_; skip)
    | (go_at_call 12; refine (HLK.out _ HBZ.out).mono ?_; rintro e W1 ⟨rfl, hb1⟩; skip; have HB1 := Lib.hid (HBZ.out.trans (hb1.mono HBZ.out.size)); have HX1 := Lib.hid (HXZ.out.below hb1 HXZ.out.lt); have HY1 := Lib.hid (HYZ.out.below hb1 HYZ.out.lt); have H61 := Lib.hid (H6Z.out.below hb1 H6Z.out.lt); clear hb1))
  clear hne
  go_wp2_with (first
    | (refine Cv.load_cells rfl 30 _ rfl w.heap.size 0 rfl #[.int .i64 (T : Int), .int .i64 (M : Int), .slice A n c] _ (fun j v hv => by rw [Nat.zero_add]; exact HX1.out.cell j hv) Tryd.underlying30 rfl (by kernel_rfl) ?_; skip)
    | (refine Cv.store_blk rfl 30 _ _ rfl b6 #[.int .i64 (T : Int), .int .i64 (M : Int), .slice A n c] #[.int .i64 0, .int .i64 0, .slice none 0 0] 30 rfl rfl H61.out (by kernel_rfl) rfl (by simp [Value.oneCell']) ?_; intro V hV hgV; have HV := Lib.hid hV; have HGV := Lib.hid hgV; clear hV hgV))
  have HBV := Lib.hid (HB1.out.grown HGV.out HB1.out.size (fun j hj => by cases hj; exact HW6.out))
  have p0 := HV.out.cell 0 (v := .int .i64 (T : Int)) rfl
  have p1 := HV.out.cell 1 (v := .int .i64 (M : Int)) rfl
  have p2 := HV.out.cell 2 (v := .slice A n c) rfl
  have hz6 := HV.out.lt
  refine bodyPost_ret (v := .tuple #[.agg #[.int .i64 (T : Int), .int .i64 (M : Int), .slice A n c], .int .i64 9]) (by simp [results, Tryd.results17, go_sem, p0, p1, p2, hz6]) rfl ?_
  exact ⟨_, rfl, HPS.out.below HBV.out, HBV.out⟩
set_option maxRecDepth 20000 in
set_option maxHeartbeats 8000000 in
theorem RAdd_full (w : World) (T M : Nat) (v : Value) (L : List Pr) (h : PS w v L) (hz : L.length ≤ 100000) (t : List UInt8) (ht : t.length ≤ 1000) (k : List UInt8) (hk : k.length = 32) (hv : validB t = true) (hw : whoOf L k = none) (hb : keysOf L t = []) (hT : T ≤ (tens L).length) :
    Calls Tryd.prog 17 #[.agg #[.int .i64 (T : Int), .int .i64 (M : Int), v], .string (strB t), .agg (bytesV k)] w fun e w' => ∃ v', e = .returned (.tuple #[.agg #[.int .i64 (T : Int), .int .i64 (M : Int), v'], .int .i64 7]) ∧ PS w' v' L ∧ Below w.heap.size w w' := by
  have HVA := Lib.hid (show ∀ W : World, Calls Tryd.prog 9 #[.string (strB t)] W fun e w' => e = .returned (.bool true) ∧ W = w' from fun W => by have := RefValid_any W (strB t) (by show t.toArray.size ≤ _; rw [List.size_toArray]; omega); rw [show validB (strB t).data.toList = true from hv] at this; exact this)
  have HLK := Lib.hid (show ∀ W : World, Below w.heap.size w W → Calls Tryd.prog 12 #[.agg #[.int .i64 (T : Int), .int .i64 (M : Int), v], .agg (bytesV k)] W fun e w' => e = .returned (.string ⟨#[]⟩) ∧ Below W.heap.size W w' from fun W hW => by have := RLookup_any W T M v L (h.below hW) (by omega) k hk; rw [hw] at this; exact this)
  have HOF := Lib.hid (fun (W : World) (hW : Below w.heap.size w W) => ROf_any W T M v L (h.below hW) (by omega) t)
  have HNM := Lib.hid (show ∀ W : World, Below w.heap.size w W → Calls Tryd.prog 29 #[.agg #[.int .i64 (T : Int), .int .i64 (M : Int), v]] W fun e w' => ∃ A' c', e = .returned (.slice A' (tens L).length c') ∧ Below W.heap.size W w' from fun W hW => (RNames_any W T M v L (h.below hW) (by omega)).mono fun e w' ⟨v', h1, h2, h3⟩ => by
    obtain ⟨A', c', h4⟩ := own_slice h2
    rw [List.length_map, namesL_length] at h4
    exact ⟨A', c', by rw [h1, h4], h3⟩)
  have HPS := Lib.hid h
  obtain ⟨A, c, rfl, hc, hm, hR, hl⟩ := h
  have HVK := Lib.hid (show (bytesV k).size = 32 by rw [bytesV_size, hk])
  have HK := Lib.hid hk
  generalize hn : L.length = n at *
  have HN := Lib.hid hn
  have hemp : ((⟨#[]⟩ : ByteArray).toList == []) = true := by rw [ByteArray.toList_eq]; rfl
  have HKO := Lib.hid (show (keysOf L t).length = 0 by rw [hb]; rfl)
  have HT := Lib.hid hT
  clear hv ht hR hl hk hn hc hm hw hb hT
  generalize hnn : (keysOf L t).length = nn at *
  obtain rfl : nn = 0 := HKO.out
  generalize hqq : (tens L).length = q at *
  go_enter Tryd.func17, Tryd.ntmps17
  go_upto_region 1 with (first
    | (refine Rg.box_fresh rfl 34 _ rfl (bytesV k) rfl ?_; intro Y hY hbY hnY; have HY := Lib.hid hY; have HBY := Lib.hid hbY; clear hY hbY hnY)
    | (refine Rg.box_fresh rfl 30 _ rfl #[.int .i64 (T : Int), .int .i64 (M : Int), .slice A n c] rfl ?_; intro X hX hbX hnX; have HX := Lib.hid hX; have HBX := Lib.hid hbX; clear hX hbX hnX))
  refine wp_name3 (fun Z hZ => ?_)
  have HBB := Lib.hid (HBX.out.trans (HBY.out.mono HBX.out.size))
  have HXZ := Lib.hid (show Rg.Blk Z w.heap.size 30 #[.int .i64 (T : Int), .int .i64 (M : Int), .slice A n c] by rw [hZ]; exact (HX.out.below HBY.out HX.out.lt).alloc _)
  have HYZ := Lib.hid (show Rg.Blk Z X.heap.size 34 (bytesV k) by rw [hZ]; exact HY.out.alloc _)
  have H6Z := Lib.hid (show Rg.Blk Z Y.heap.size 30 #[.int .i64 0, .int .i64 0, .slice none 0 0] by rw [hZ]; exact Rg.Blk.new _ _ _)
  have HBZ := Lib.hid (show Below w.heap.size w Z by rw [hZ]; exact HBB.out.alloc HBB.out.size _)
  have HWY := Lib.hid (show w.heap.size < Y.heap.size ∧ X.heap.size < Y.heap.size ∧ w.heap.size < X.heap.size from ⟨Nat.lt_of_lt_of_le HX.out.lt HBY.out.size, HY.out.lt, HX.out.lt⟩)
  clear hZ
  generalize hb6 : Y.heap.size = b6 at *
  have HW6 := Lib.hid (show w.heap.size ≤ b6 from by have := HWY.out; omega)
  go_upto_region 3 with (go_at_call 9; refine (HVA.out _).mono ?_; rintro e w1 ⟨rfl, rfl⟩; skip)
  go_upto_region 5 with (first
    | (refine Cv.load_cells rfl 30 _ rfl w.heap.size 0 rfl #[.int .i64 (T : Int), .int .i64 (M : Int), .slice A n c] _ (fun j v hv => by rw [Nat.zero_add]; exact HXZ.out.cell j hv) Tryd.underlying30 rfl (by kernel_rfl) ?_; skip)
    | (refine Cv.load_cells rfl 34 _ rfl X.heap.size 0 rfl (bytesV k) _ (Bytes.of_blk HYZ.out).cells Tryd.underlying34 rfl (by rw [HVK.out]; kernel_rfl) ?_; skip)
    | (go_at_call 12; refine (HLK.out _ HBZ.out).mono ?_; rintro e W1 ⟨rfl, hb1⟩; skip; have HB1 := Lib.hid (HBZ.out.trans (hb1.mono HBZ.out.size)); have HX1 := Lib.hid (HXZ.out.below hb1 HXZ.out.lt); have HY1 := Lib.hid (HYZ.out.below hb1 HYZ.out.lt); have H61 := Lib.hid (H6Z.out.below hb1 H6Z.out.lt); clear hb1))
  go_upto_region 6 with (first
    | (refine Cv.load_cells rfl 30 _ rfl w.heap.size 0 rfl #[.int .i64 (T : Int), .int .i64 (M : Int), .slice A n c] _ (fun j v hv => by rw [Nat.zero_add]; exact HX1.out.cell j hv) Tryd.underlying30 rfl (by kernel_rfl) ?_; skip)
    | (go_at_call 28; refine (HOF.out _ HB1.out).mono ?_; rintro e W2 ⟨v2, rfl, ho2, hb2⟩; obtain ⟨A2, c2, rfl⟩ := own_slice ho2; skip; have HB2 := Lib.hid (HB1.out.trans (hb2.mono HB1.out.size)); have HX2 := Lib.hid (HX1.out.below hb2 HX1.out.lt); have HY2 := Lib.hid (HY1.out.below hb2 HY1.out.lt); have H62 := Lib.hid (H61.out.below hb2 H61.out.lt); clear hb2 ho2))
  clear hemp
  refine RL.start (RL.Aft W2) (by kernel_rfl) (RL.Aft.drew (RL.Aft.refl W2)) ?_
  refine' RL.takeV (i := 0) (v := _) rfl (by kernel_rfl) (by kernel_rfl) (by kernel_rfl) (fun _ _ _ h => h) (by rfl) ?hk1 ?_
  case hk1 => (intro W hSW; go_simp; try with_reducible rfl)
  (try simp only [Act.put, List.setIfInBounds_toArray, List.set_cons_zero, List.set_cons_succ])
  refine' RL.takeV (i := 1) (v := _) rfl (by kernel_rfl) (by kernel_rfl) (by kernel_rfl) (fun _ _ _ h => h) (by rfl) ?hk2 ?_
  case hk2 => (intro W hSW; go_simp; try with_reducible rfl)
  (try simp only [Act.put, List.setIfInBounds_toArray, List.set_cons_zero, List.set_cons_succ])
  refine' RL.takeV (i := 2) (v := _) rfl (by kernel_rfl) (by kernel_rfl) (by kernel_rfl) (fun _ _ _ h => h) (by rfl) ?hk3 ?_
  case hk3 => (intro W hSW; go_simp; try with_reducible rfl)
  (try simp only [Act.put, List.setIfInBounds_toArray, List.set_cons_zero, List.set_cons_succ])
  refine RL.takeV (i := 3) (v := .agg #[.int .i64 (T : Int), .int .i64 (M : Int), .slice A n c]) rfl (by kernel_rfl) (by kernel_rfl) (by kernel_rfl) (fun _ _ _ h => h) (by rfl) (fun W hSW => RT.run_row 30 _ rfl _ rfl _ _ (HX2.out.below hSW HX2.out.lt) Tryd.underlying30 rfl (by kernel_rfl)) ?_
  (try simp only [Act.put, List.setIfInBounds_toArray, List.set_cons_zero, List.set_cons_succ])
  refine' RL.takeV (i := 6) (v := _) rfl (by kernel_rfl) (by kernel_rfl) (by kernel_rfl) (fun _ _ _ h => h) (by rfl) ?hk4 ?_
  case hk4 => (intro W hSW; go_simp; try with_reducible rfl)
  (try simp only [Act.put, List.setIfInBounds_toArray, List.set_cons_zero, List.set_cons_succ])
  refine' RL.takeV (i := 7) (v := _) rfl (by kernel_rfl) (by kernel_rfl) (by kernel_rfl) (fun _ _ _ h => h) (by rfl) ?hk5 ?_
  case hk5 => (intro W hSW; have c0 := (HX2.out.below hSW HX2.out.lt).cell 0 (v := .int .i64 (T : Int)) rfl; go_simp; try with_reducible rfl)
  (try simp only [Act.put, List.setIfInBounds_toArray, List.set_cons_zero, List.set_cons_succ])
  refine RL.stepK (i := 4) rfl (by kernel_rfl) (by rfl) (fun wa hlwa hswa K hK => ?_)
  have hc := HNM.out wa (HB2.out.trans (Below.mono hswa HB2.out.size))
  go_simp
  refine hc.mono ?_
  rintro e wb ⟨A3, c3, rfl, hb3⟩
  refine hK.out _ _ (RL.Aft.lat hswa hb3) ?_
  clear hK hc
  (try simp only [Act.put, List.setIfInBounds_toArray, List.set_cons_zero, List.set_cons_succ])
  refine' RL.takeV (i := 5) (v := _) rfl (by kernel_rfl) (by kernel_rfl) (by kernel_rfl) (fun _ _ _ h => h) (by rfl) ?hk6 ?_
  case hk6 => (intro W hSW; go_simp; try with_reducible rfl)
  (try simp only [Act.put, List.setIfInBounds_toArray, List.set_cons_zero, List.set_cons_succ])
  have hge : decide ((T : Int) ≤ (q : Int)) = true := by rw [decide_eq_true_iff]; have := HT.out; omega
  have hge2 : decide (T ≤ q) = true := by rw [decide_eq_true_iff]; exact HT.out
  refine' RL.takeV (i := 8) (v := _) rfl (by kernel_rfl) (by kernel_rfl) (by kernel_rfl) (fun _ _ _ h => h) (by rfl) ?hk7 ?_
  case hk7 => (intro W hSW; go_simp; try with_reducible rfl)
  (try simp only [Act.put, List.setIfInBounds_toArray, List.set_cons_zero, List.set_cons_succ])
  refine' RL.takeV (i := 9) (v := _) rfl (by kernel_rfl) (by kernel_rfl) (by kernel_rfl) (fun _ _ _ h => h) (by rfl) ?hk8 ?_
  case hk8 => (intro W hSW; go_simp; try with_reducible rfl)
  (try simp only [Act.put, List.setIfInBounds_toArray, List.set_cons_zero, List.set_cons_succ])
  refine RL.done (by kernel_rfl) (fun W3 hlW3 hsW3 => ?_)
  have HS3 := Lib.hid (show Below W2.heap.size W2 W3 from hsW3)
  have HB3 := Lib.hid (HB2.out.trans (HS3.out.mono HB2.out.size))
  have HX3 := Lib.hid (HX2.out.below HS3.out HX2.out.lt)
  have HY3 := Lib.hid (HY2.out.below HS3.out HY2.out.lt)
  have H63 := Lib.hid (H62.out.below HS3.out H62.out.lt)
  clear hlW3 hsW3 hge hge2
  go_wp2_with (first
    | (refine Cv.load_cells rfl 30 _ rfl w.heap.size 0 rfl #[.int .i64 (T : Int), .int .i64 (M : Int), .slice A n c] _ (fun j v hv => by rw [Nat.zero_add]; exact HX3.out.cell j hv) Tryd.underlying30 rfl (by kernel_rfl) ?_; skip)
    | (refine Cv.store_blk rfl 30 _ _ rfl b6 #[.int .i64 (T : Int), .int .i64 (M : Int), .slice A n c] #[.int .i64 0, .int .i64 0, .slice none 0 0] 30 rfl rfl H63.out (by kernel_rfl) rfl (by simp [Value.oneCell']) ?_; intro V hV hgV; have HV := Lib.hid hV; have HGV := Lib.hid hgV; clear hV hgV))
  have HBV := Lib.hid (HB3.out.grown HGV.out HB3.out.size (fun j hj => by cases hj; exact HW6.out))
  have p0 := HV.out.cell 0 (v := .int .i64 (T : Int)) rfl
  have p1 := HV.out.cell 1 (v := .int .i64 (M : Int)) rfl
  have p2 := HV.out.cell 2 (v := .slice A n c) rfl
  have hz6 := HV.out.lt
  refine bodyPost_ret (v := .tuple #[.agg #[.int .i64 (T : Int), .int .i64 (M : Int), .slice A n c], .int .i64 7]) (by simp [results, Tryd.results17, go_sem, p0, p1, p2, hz6]) rfl ?_
  exact ⟨_, rfl, HPS.out.below HBV.out, HBV.out⟩
set_option maxRecDepth 20000 in
set_option maxHeartbeats 8000000 in
theorem RAdd_quota_t (w : World) (T M : Nat) (v : Value) (L : List Pr) (h : PS w v L) (hz : L.length ≤ 100000) (t : List UInt8) (ht : t.length ≤ 1000) (k : List UInt8) (hk : k.length = 32) (hv : validB t = true) (hw : whoOf L k = none) (hb : keysOf L t ≠ []) (hK : M ≤ (keysOf L t).length) :
    Calls Tryd.prog 17 #[.agg #[.int .i64 (T : Int), .int .i64 (M : Int), v], .string (strB t), .agg (bytesV k)] w fun e w' => ∃ v', e = .returned (.tuple #[.agg #[.int .i64 (T : Int), .int .i64 (M : Int), v'], .int .i64 16]) ∧ PS w' v' L ∧ Below w.heap.size w w' := by
  have HVA := Lib.hid (show ∀ W : World, Calls Tryd.prog 9 #[.string (strB t)] W fun e w' => e = .returned (.bool true) ∧ W = w' from fun W => by have := RefValid_any W (strB t) (by show t.toArray.size ≤ _; rw [List.size_toArray]; omega); rw [show validB (strB t).data.toList = true from hv] at this; exact this)
  have HLK := Lib.hid (show ∀ W : World, Below w.heap.size w W → Calls Tryd.prog 12 #[.agg #[.int .i64 (T : Int), .int .i64 (M : Int), v], .agg (bytesV k)] W fun e w' => e = .returned (.string ⟨#[]⟩) ∧ Below W.heap.size W w' from fun W hW => by have := RLookup_any W T M v L (h.below hW) (by omega) k hk; rw [hw] at this; exact this)
  have HOF := Lib.hid (fun (W : World) (hW : Below w.heap.size w W) => ROf_any W T M v L (h.below hW) (by omega) t)
  have HPS := Lib.hid h
  obtain ⟨A, c, rfl, hc, hm, hR, hl⟩ := h
  have HVK := Lib.hid (show (bytesV k).size = 32 by rw [bytesV_size, hk])
  have HK := Lib.hid hk
  generalize hn : L.length = n at *
  have HN := Lib.hid hn
  have hemp : ((⟨#[]⟩ : ByteArray).toList == []) = true := by rw [ByteArray.toList_eq]; rfl
  have HKO := Lib.hid (show (keysOf L t).length ≠ 0 from fun e => hb (List.eq_nil_of_length_eq_zero e))
  have HQ := Lib.hid hK
  clear hv ht hR hl hk hn hc hm hw hb hK
  generalize hnn : (keysOf L t).length = nn at *
  have hn0 : ¬ nn = 0 := HKO.out
  go_enter Tryd.func17, Tryd.ntmps17
  go_upto_region 1 with (first
    | (refine Rg.box_fresh rfl 34 _ rfl (bytesV k) rfl ?_; intro Y hY hbY hnY; have HY := Lib.hid hY; have HBY := Lib.hid hbY; clear hY hbY hnY)
    | (refine Rg.box_fresh rfl 30 _ rfl #[.int .i64 (T : Int), .int .i64 (M : Int), .slice A n c] rfl ?_; intro X hX hbX hnX; have HX := Lib.hid hX; have HBX := Lib.hid hbX; clear hX hbX hnX))
  refine wp_name3 (fun Z hZ => ?_)
  have HBB := Lib.hid (HBX.out.trans (HBY.out.mono HBX.out.size))
  have HXZ := Lib.hid (show Rg.Blk Z w.heap.size 30 #[.int .i64 (T : Int), .int .i64 (M : Int), .slice A n c] by rw [hZ]; exact (HX.out.below HBY.out HX.out.lt).alloc _)
  have HYZ := Lib.hid (show Rg.Blk Z X.heap.size 34 (bytesV k) by rw [hZ]; exact HY.out.alloc _)
  have H6Z := Lib.hid (show Rg.Blk Z Y.heap.size 30 #[.int .i64 0, .int .i64 0, .slice none 0 0] by rw [hZ]; exact Rg.Blk.new _ _ _)
  have HBZ := Lib.hid (show Below w.heap.size w Z by rw [hZ]; exact HBB.out.alloc HBB.out.size _)
  have HWY := Lib.hid (show w.heap.size < Y.heap.size ∧ X.heap.size < Y.heap.size ∧ w.heap.size < X.heap.size from ⟨Nat.lt_of_lt_of_le HX.out.lt HBY.out.size, HY.out.lt, HX.out.lt⟩)
  clear hZ
  generalize hb6 : Y.heap.size = b6 at *
  have HW6 := Lib.hid (show w.heap.size ≤ b6 from by have := HWY.out; omega)
  go_upto_region 3 with (go_at_call 9; refine (HVA.out _).mono ?_; rintro e w1 ⟨rfl, rfl⟩; skip)
  go_upto_region 5 with (first
    | (refine Cv.load_cells rfl 30 _ rfl w.heap.size 0 rfl #[.int .i64 (T : Int), .int .i64 (M : Int), .slice A n c] _ (fun j v hv => by rw [Nat.zero_add]; exact HXZ.out.cell j hv) Tryd.underlying30 rfl (by kernel_rfl) ?_; skip)
    | (refine Cv.load_cells rfl 34 _ rfl X.heap.size 0 rfl (bytesV k) _ (Bytes.of_blk HYZ.out).cells Tryd.underlying34 rfl (by rw [HVK.out]; kernel_rfl) ?_; skip)
    | (go_at_call 12; refine (HLK.out _ HBZ.out).mono ?_; rintro e W1 ⟨rfl, hb1⟩; skip; have HB1 := Lib.hid (HBZ.out.trans (hb1.mono HBZ.out.size)); have HX1 := Lib.hid (HXZ.out.below hb1 HXZ.out.lt); have HY1 := Lib.hid (HYZ.out.below hb1 HYZ.out.lt); have H61 := Lib.hid (H6Z.out.below hb1 H6Z.out.lt); clear hb1))
  go_upto_region 6 with (first
    | (refine Cv.load_cells rfl 30 _ rfl w.heap.size 0 rfl #[.int .i64 (T : Int), .int .i64 (M : Int), .slice A n c] _ (fun j v hv => by rw [Nat.zero_add]; exact HX1.out.cell j hv) Tryd.underlying30 rfl (by kernel_rfl) ?_; skip)
    | (go_at_call 28; refine (HOF.out _ HB1.out).mono ?_; rintro e W2 ⟨v2, rfl, ho2, hb2⟩; obtain ⟨A2, c2, rfl⟩ := own_slice ho2; skip; have HB2 := Lib.hid (HB1.out.trans (hb2.mono HB1.out.size)); have HX2 := Lib.hid (HX1.out.below hb2 HX1.out.lt); have HY2 := Lib.hid (HY1.out.below hb2 HY1.out.lt); have H62 := Lib.hid (H61.out.below hb2 H61.out.lt); clear hb2 ho2))
  clear hemp
  go_quiet (fail)
  go_upto_region 8 with fail
  refine wp_name3 (fun W3 hW3 => ?_)
  have HS3 := Lib.hid (show Below W2.heap.size W2 W3 by rw [hW3]; first | exact Below.refl _ _ | exact bdN (Below.refl _ _) _)
  have HB3 := Lib.hid (HB2.out.trans (HS3.out.mono HB2.out.size))
  have HX3 := Lib.hid (HX2.out.below HS3.out HX2.out.lt)
  have HY3 := Lib.hid (HY2.out.below HS3.out HY2.out.lt)
  have H63 := Lib.hid (H62.out.below HS3.out H62.out.lt)
  clear hW3
  have c1 := HX3.out.cell 1 (v := .int .i64 (M : Int)) rfl
  have hd1 : decide ((M : Int) ≤ (nn : Int)) = true := by rw [decide_eq_true_iff]; have := HQ.out; omega
  have hd2 : decide (M ≤ nn) = true := by rw [decide_eq_true_iff]; have := HQ.out; omega
  go_wp2_with (first
    | (refine Cv.load_cells rfl 30 _ rfl w.heap.size 0 rfl #[.int .i64 (T : Int), .int .i64 (M : Int), .slice A n c] _ (fun j v hv => by rw [Nat.zero_add]; exact HX3.out.cell j hv) Tryd.underlying30 rfl (by kernel_rfl) ?_; skip)
    | (refine Cv.store_blk rfl 30 _ _ rfl b6 #[.int .i64 (T : Int), .int .i64 (M : Int), .slice A n c] #[.int .i64 0, .int .i64 0, .slice none 0 0] 30 rfl rfl H63.out (by kernel_rfl) rfl (by simp [Value.oneCell']) ?_; intro V hV hgV; have HV := Lib.hid hV; have HGV := Lib.hid hgV; clear hV hgV))
  have HBV := Lib.hid (HB3.out.grown HGV.out HB3.out.size (fun j hj => by cases hj; exact HW6.out))
  have p0 := HV.out.cell 0 (v := .int .i64 (T : Int)) rfl
  have p1 := HV.out.cell 1 (v := .int .i64 (M : Int)) rfl
  have p2 := HV.out.cell 2 (v := .slice A n c) rfl
  have hz6 := HV.out.lt
  refine bodyPost_ret (v := .tuple #[.agg #[.int .i64 (T : Int), .int .i64 (M : Int), .slice A n c], .int .i64 16]) (by simp [results, Tryd.results17, go_sem, p0, p1, p2, hz6]) rfl ?_
  exact ⟨_, rfl, HPS.out.below HBV.out, HBV.out⟩
set_option maxRecDepth 20000 in
set_option maxHeartbeats 8000000 in
theorem RAdd_quota_f (w : World) (T M : Nat) (v : Value) (L : List Pr) (h : PS w v L) (hz : L.length ≤ 100000) (t : List UInt8) (ht : t.length ≤ 1000) (k : List UInt8) (hk : k.length = 32) (hv : validB t = true) (hw : whoOf L k = none) (hb : keysOf L t = []) (hT : (tens L).length < T) (hK : M ≤ (keysOf L t).length) :
    Calls Tryd.prog 17 #[.agg #[.int .i64 (T : Int), .int .i64 (M : Int), v], .string (strB t), .agg (bytesV k)] w fun e w' => ∃ v', e = .returned (.tuple #[.agg #[.int .i64 (T : Int), .int .i64 (M : Int), v'], .int .i64 16]) ∧ PS w' v' L ∧ Below w.heap.size w w' := by
  have HVA := Lib.hid (show ∀ W : World, Calls Tryd.prog 9 #[.string (strB t)] W fun e w' => e = .returned (.bool true) ∧ W = w' from fun W => by have := RefValid_any W (strB t) (by show t.toArray.size ≤ _; rw [List.size_toArray]; omega); rw [show validB (strB t).data.toList = true from hv] at this; exact this)
  have HLK := Lib.hid (show ∀ W : World, Below w.heap.size w W → Calls Tryd.prog 12 #[.agg #[.int .i64 (T : Int), .int .i64 (M : Int), v], .agg (bytesV k)] W fun e w' => e = .returned (.string ⟨#[]⟩) ∧ Below W.heap.size W w' from fun W hW => by have := RLookup_any W T M v L (h.below hW) (by omega) k hk; rw [hw] at this; exact this)
  have HOF := Lib.hid (fun (W : World) (hW : Below w.heap.size w W) => ROf_any W T M v L (h.below hW) (by omega) t)
  have HNM := Lib.hid (show ∀ W : World, Below w.heap.size w W → Calls Tryd.prog 29 #[.agg #[.int .i64 (T : Int), .int .i64 (M : Int), v]] W fun e w' => ∃ A' c', e = .returned (.slice A' (tens L).length c') ∧ Below W.heap.size W w' from fun W hW => (RNames_any W T M v L (h.below hW) (by omega)).mono fun e w' ⟨v', h1, h2, h3⟩ => by
    obtain ⟨A', c', h4⟩ := own_slice h2
    rw [List.length_map, namesL_length] at h4
    exact ⟨A', c', by rw [h1, h4], h3⟩)
  have HPS := Lib.hid h
  obtain ⟨A, c, rfl, hc, hm, hR, hl⟩ := h
  have HVK := Lib.hid (show (bytesV k).size = 32 by rw [bytesV_size, hk])
  have HK := Lib.hid hk
  generalize hn : L.length = n at *
  have HN := Lib.hid hn
  have hemp : ((⟨#[]⟩ : ByteArray).toList == []) = true := by rw [ByteArray.toList_eq]; rfl
  have HKO := Lib.hid (show (keysOf L t).length = 0 by rw [hb]; rfl)
  have HT := Lib.hid hT
  have HQ := Lib.hid hK
  clear hv ht hR hl hk hn hc hm hw hb hT hK
  generalize hnn : (keysOf L t).length = nn at *
  obtain rfl : nn = 0 := HKO.out
  generalize hqq : (tens L).length = q at *
  go_enter Tryd.func17, Tryd.ntmps17
  go_upto_region 1 with (first
    | (refine Rg.box_fresh rfl 34 _ rfl (bytesV k) rfl ?_; intro Y hY hbY hnY; have HY := Lib.hid hY; have HBY := Lib.hid hbY; clear hY hbY hnY)
    | (refine Rg.box_fresh rfl 30 _ rfl #[.int .i64 (T : Int), .int .i64 (M : Int), .slice A n c] rfl ?_; intro X hX hbX hnX; have HX := Lib.hid hX; have HBX := Lib.hid hbX; clear hX hbX hnX))
  refine wp_name3 (fun Z hZ => ?_)
  have HBB := Lib.hid (HBX.out.trans (HBY.out.mono HBX.out.size))
  have HXZ := Lib.hid (show Rg.Blk Z w.heap.size 30 #[.int .i64 (T : Int), .int .i64 (M : Int), .slice A n c] by rw [hZ]; exact (HX.out.below HBY.out HX.out.lt).alloc _)
  have HYZ := Lib.hid (show Rg.Blk Z X.heap.size 34 (bytesV k) by rw [hZ]; exact HY.out.alloc _)
  have H6Z := Lib.hid (show Rg.Blk Z Y.heap.size 30 #[.int .i64 0, .int .i64 0, .slice none 0 0] by rw [hZ]; exact Rg.Blk.new _ _ _)
  have HBZ := Lib.hid (show Below w.heap.size w Z by rw [hZ]; exact HBB.out.alloc HBB.out.size _)
  have HWY := Lib.hid (show w.heap.size < Y.heap.size ∧ X.heap.size < Y.heap.size ∧ w.heap.size < X.heap.size from ⟨Nat.lt_of_lt_of_le HX.out.lt HBY.out.size, HY.out.lt, HX.out.lt⟩)
  clear hZ
  generalize hb6 : Y.heap.size = b6 at *
  have HW6 := Lib.hid (show w.heap.size ≤ b6 from by have := HWY.out; omega)
  go_upto_region 3 with (go_at_call 9; refine (HVA.out _).mono ?_; rintro e w1 ⟨rfl, rfl⟩; skip)
  go_upto_region 5 with (first
    | (refine Cv.load_cells rfl 30 _ rfl w.heap.size 0 rfl #[.int .i64 (T : Int), .int .i64 (M : Int), .slice A n c] _ (fun j v hv => by rw [Nat.zero_add]; exact HXZ.out.cell j hv) Tryd.underlying30 rfl (by kernel_rfl) ?_; skip)
    | (refine Cv.load_cells rfl 34 _ rfl X.heap.size 0 rfl (bytesV k) _ (Bytes.of_blk HYZ.out).cells Tryd.underlying34 rfl (by rw [HVK.out]; kernel_rfl) ?_; skip)
    | (go_at_call 12; refine (HLK.out _ HBZ.out).mono ?_; rintro e W1 ⟨rfl, hb1⟩; skip; have HB1 := Lib.hid (HBZ.out.trans (hb1.mono HBZ.out.size)); have HX1 := Lib.hid (HXZ.out.below hb1 HXZ.out.lt); have HY1 := Lib.hid (HYZ.out.below hb1 HYZ.out.lt); have H61 := Lib.hid (H6Z.out.below hb1 H6Z.out.lt); clear hb1))
  go_upto_region 6 with (first
    | (refine Cv.load_cells rfl 30 _ rfl w.heap.size 0 rfl #[.int .i64 (T : Int), .int .i64 (M : Int), .slice A n c] _ (fun j v hv => by rw [Nat.zero_add]; exact HX1.out.cell j hv) Tryd.underlying30 rfl (by kernel_rfl) ?_; skip)
    | (go_at_call 28; refine (HOF.out _ HB1.out).mono ?_; rintro e W2 ⟨v2, rfl, ho2, hb2⟩; obtain ⟨A2, c2, rfl⟩ := own_slice ho2; skip; have HB2 := Lib.hid (HB1.out.trans (hb2.mono HB1.out.size)); have HX2 := Lib.hid (HX1.out.below hb2 HX1.out.lt); have HY2 := Lib.hid (HY1.out.below hb2 HY1.out.lt); have H62 := Lib.hid (H61.out.below hb2 H61.out.lt); clear hb2 ho2))
  clear hemp
  refine RL.start (RL.Aft W2) (by kernel_rfl) (RL.Aft.drew (RL.Aft.refl W2)) ?_
  refine' RL.takeV (i := 0) (v := _) rfl (by kernel_rfl) (by kernel_rfl) (by kernel_rfl) (fun _ _ _ h => h) (by rfl) ?hk9 ?_
  case hk9 => (intro W hSW; go_simp; try with_reducible rfl)
  (try simp only [Act.put, List.setIfInBounds_toArray, List.set_cons_zero, List.set_cons_succ])
  refine' RL.takeV (i := 1) (v := _) rfl (by kernel_rfl) (by kernel_rfl) (by kernel_rfl) (fun _ _ _ h => h) (by rfl) ?hk10 ?_
  case hk10 => (intro W hSW; go_simp; try with_reducible rfl)
  (try simp only [Act.put, List.setIfInBounds_toArray, List.set_cons_zero, List.set_cons_succ])
  refine' RL.takeV (i := 2) (v := _) rfl (by kernel_rfl) (by kernel_rfl) (by kernel_rfl) (fun _ _ _ h => h) (by rfl) ?hk11 ?_
  case hk11 => (intro W hSW; go_simp; try with_reducible rfl)
  (try simp only [Act.put, List.setIfInBounds_toArray, List.set_cons_zero, List.set_cons_succ])
  refine RL.takeV (i := 3) (v := .agg #[.int .i64 (T : Int), .int .i64 (M : Int), .slice A n c]) rfl (by kernel_rfl) (by kernel_rfl) (by kernel_rfl) (fun _ _ _ h => h) (by rfl) (fun W hSW => RT.run_row 30 _ rfl _ rfl _ _ (HX2.out.below hSW HX2.out.lt) Tryd.underlying30 rfl (by kernel_rfl)) ?_
  (try simp only [Act.put, List.setIfInBounds_toArray, List.set_cons_zero, List.set_cons_succ])
  refine' RL.takeV (i := 6) (v := _) rfl (by kernel_rfl) (by kernel_rfl) (by kernel_rfl) (fun _ _ _ h => h) (by rfl) ?hk12 ?_
  case hk12 => (intro W hSW; go_simp; try with_reducible rfl)
  (try simp only [Act.put, List.setIfInBounds_toArray, List.set_cons_zero, List.set_cons_succ])
  refine' RL.takeV (i := 7) (v := _) rfl (by kernel_rfl) (by kernel_rfl) (by kernel_rfl) (fun _ _ _ h => h) (by rfl) ?hk13 ?_
  case hk13 => (intro W hSW; have c0 := (HX2.out.below hSW HX2.out.lt).cell 0 (v := .int .i64 (T : Int)) rfl; go_simp; try with_reducible rfl)
  (try simp only [Act.put, List.setIfInBounds_toArray, List.set_cons_zero, List.set_cons_succ])
  refine RL.stepK (i := 4) rfl (by kernel_rfl) (by rfl) (fun wa hlwa hswa K hK => ?_)
  have hc := HNM.out wa (HB2.out.trans (Below.mono hswa HB2.out.size))
  go_simp
  refine hc.mono ?_
  rintro e wb ⟨A3, c3, rfl, hb3⟩
  refine hK.out _ _ (RL.Aft.lat hswa hb3) ?_
  clear hK hc
  (try simp only [Act.put, List.setIfInBounds_toArray, List.set_cons_zero, List.set_cons_succ])
  refine' RL.takeV (i := 5) (v := _) rfl (by kernel_rfl) (by kernel_rfl) (by kernel_rfl) (fun _ _ _ h => h) (by rfl) ?hk14 ?_
  case hk14 => (intro W hSW; go_simp; try with_reducible rfl)
  (try simp only [Act.put, List.setIfInBounds_toArray, List.set_cons_zero, List.set_cons_succ])
  have hge : decide ((T : Int) ≤ (q : Int)) = false := by rw [decide_eq_false_iff_not]; have := HT.out; omega
  have hge2 : decide (T ≤ q) = false := by rw [decide_eq_false_iff_not]; have := HT.out; omega
  refine' RL.takeV (i := 8) (v := _) rfl (by kernel_rfl) (by kernel_rfl) (by kernel_rfl) (fun _ _ _ h => h) (by rfl) ?hk15 ?_
  case hk15 => (intro W hSW; go_simp; try with_reducible rfl)
  (try simp only [Act.put, List.setIfInBounds_toArray, List.set_cons_zero, List.set_cons_succ])
  refine' RL.takeV (i := 9) (v := _) rfl (by kernel_rfl) (by kernel_rfl) (by kernel_rfl) (fun _ _ _ h => h) (by rfl) ?hk16 ?_
  case hk16 => (intro W hSW; go_simp; try with_reducible rfl)
  (try simp only [Act.put, List.setIfInBounds_toArray, List.set_cons_zero, List.set_cons_succ])
  refine RL.done (by kernel_rfl) (fun W3 hlW3 hsW3 => ?_)
  have HS3 := Lib.hid (show Below W2.heap.size W2 W3 from hsW3)
  have HB3 := Lib.hid (HB2.out.trans (HS3.out.mono HB2.out.size))
  have HX3 := Lib.hid (HX2.out.below HS3.out HX2.out.lt)
  have HY3 := Lib.hid (HY2.out.below HS3.out HY2.out.lt)
  have H63 := Lib.hid (H62.out.below HS3.out H62.out.lt)
  clear hlW3 hsW3 hge hge2
  have c1 := HX3.out.cell 1 (v := .int .i64 (M : Int)) rfl
  have hd1 : decide ((M : Int) ≤ (0 : Int)) = true := by rw [decide_eq_true_iff]; have := HQ.out; omega
  have hd2 : decide (M ≤ 0) = true := by rw [decide_eq_true_iff]; have := HQ.out; omega
  have hM0 : M = 0 := by have := HQ.out; omega
  go_wp2_with (first
    | (refine Cv.load_cells rfl 30 _ rfl w.heap.size 0 rfl #[.int .i64 (T : Int), .int .i64 (M : Int), .slice A n c] _ (fun j v hv => by rw [Nat.zero_add]; exact HX3.out.cell j hv) Tryd.underlying30 rfl (by kernel_rfl) ?_; skip)
    | (refine Cv.store_blk rfl 30 _ _ rfl b6 #[.int .i64 (T : Int), .int .i64 (M : Int), .slice A n c] #[.int .i64 0, .int .i64 0, .slice none 0 0] 30 rfl rfl H63.out (by kernel_rfl) rfl (by simp [Value.oneCell']) ?_; intro V hV hgV; have HV := Lib.hid hV; have HGV := Lib.hid hgV; clear hV hgV))
  have HBV := Lib.hid (HB3.out.grown HGV.out HB3.out.size (fun j hj => by cases hj; exact HW6.out))
  have p0 := HV.out.cell 0 (v := .int .i64 (T : Int)) rfl
  have p1 := HV.out.cell 1 (v := .int .i64 (M : Int)) rfl
  have p2 := HV.out.cell 2 (v := .slice A n c) rfl
  have hz6 := HV.out.lt
  refine bodyPost_ret (v := .tuple #[.agg #[.int .i64 (T : Int), .int .i64 (M : Int), .slice A n c], .int .i64 16]) (by simp [results, Tryd.results17, go_sem, p0, p1, p2, hz6]) rfl ?_
  exact ⟨_, rfl, HPS.out.below HBV.out, HBV.out⟩
set_option maxRecDepth 20000 in
set_option maxHeartbeats 8000000 in
theorem RAdd_ok_t (w : World) (T M : Nat) (v : Value) (L : List Pr) (h : PS w v L) (hz : L.length ≤ 100000) (t : List UInt8) (ht : t.length ≤ 1000) (k : List UInt8) (hk : k.length = 32) (hv : validB t = true) (hw : whoOf L k = none) (hb : keysOf L t ≠ []) (hK : (keysOf L t).length < M) :
    Calls Tryd.prog 17 #[.agg #[.int .i64 (T : Int), .int .i64 (M : Int), v], .string (strB t), .agg (bytesV k)] w fun e w' => ∃ v', e = .returned (.tuple #[.agg #[.int .i64 (T : Int), .int .i64 (M : Int), v'], .int .i64 0]) ∧ PS w' v' (L ++ [(t, k)]) ∧ Below w.heap.size w w' := by
  have HVA := Lib.hid (show ∀ W : World, Calls Tryd.prog 9 #[.string (strB t)] W fun e w' => e = .returned (.bool true) ∧ W = w' from fun W => by have := RefValid_any W (strB t) (by show t.toArray.size ≤ _; rw [List.size_toArray]; omega); rw [show validB (strB t).data.toList = true from hv] at this; exact this)
  have HLK := Lib.hid (show ∀ W : World, Below w.heap.size w W → Calls Tryd.prog 12 #[.agg #[.int .i64 (T : Int), .int .i64 (M : Int), v], .agg (bytesV k)] W fun e w' => e = .returned (.string ⟨#[]⟩) ∧ Below W.heap.size W w' from fun W hW => by have := RLookup_any W T M v L (h.below hW) (by omega) k hk; rw [hw] at this; exact this)
  have HOF := Lib.hid (fun (W : World) (hW : Below w.heap.size w W) => ROf_any W T M v L (h.below hW) (by omega) t)
  have HFL := Lib.hid (show (∀ x ∈ L, x.2.length = 32) ∧ (∀ x ∈ L ++ [(t, k)], x.2.length = 32) from by
    obtain ⟨_, _, _, _, _, _, h5⟩ := id h
    exact ⟨h5, fun x hx => by rcases List.mem_append.1 hx with h6 | h6; exact h5 x h6; rw [List.mem_singleton.1 h6]; exact hk⟩)
  have HPS := Lib.hid h
  obtain ⟨A, c, rfl, hc, hm, hR, hl⟩ := h
  have HVK := Lib.hid (show (bytesV k).size = 32 by rw [bytesV_size, hk])
  have HK := Lib.hid hk
  generalize hn : L.length = n at *
  have HN := Lib.hid hn
  have hemp : ((⟨#[]⟩ : ByteArray).toList == []) = true := by rw [ByteArray.toList_eq]; rfl
  have HKO := Lib.hid (show (keysOf L t).length ≠ 0 from fun e => hb (List.eq_nil_of_length_eq_zero e))
  have HQ := Lib.hid hK
  clear hv ht hR hl hk hn hc hm hw hb hK
  generalize hnn : (keysOf L t).length = nn at *
  have hn0 : ¬ nn = 0 := HKO.out
  go_enter Tryd.func17, Tryd.ntmps17
  go_upto_region 1 with (first
    | (refine Rg.box_fresh rfl 34 _ rfl (bytesV k) rfl ?_; intro Y hY hbY hnY; have HY := Lib.hid hY; have HBY := Lib.hid hbY; clear hY hbY hnY)
    | (refine Rg.box_fresh rfl 30 _ rfl #[.int .i64 (T : Int), .int .i64 (M : Int), .slice A n c] rfl ?_; intro X hX hbX hnX; have HX := Lib.hid hX; have HBX := Lib.hid hbX; clear hX hbX hnX))
  refine wp_name3 (fun Z hZ => ?_)
  have HBB := Lib.hid (HBX.out.trans (HBY.out.mono HBX.out.size))
  have HXZ := Lib.hid (show Rg.Blk Z w.heap.size 30 #[.int .i64 (T : Int), .int .i64 (M : Int), .slice A n c] by rw [hZ]; exact (HX.out.below HBY.out HX.out.lt).alloc _)
  have HYZ := Lib.hid (show Rg.Blk Z X.heap.size 34 (bytesV k) by rw [hZ]; exact HY.out.alloc _)
  have H6Z := Lib.hid (show Rg.Blk Z Y.heap.size 30 #[.int .i64 0, .int .i64 0, .slice none 0 0] by rw [hZ]; exact Rg.Blk.new _ _ _)
  have HBZ := Lib.hid (show Below w.heap.size w Z by rw [hZ]; exact HBB.out.alloc HBB.out.size _)
  have HWY := Lib.hid (show w.heap.size < Y.heap.size ∧ X.heap.size < Y.heap.size ∧ w.heap.size < X.heap.size from ⟨Nat.lt_of_lt_of_le HX.out.lt HBY.out.size, HY.out.lt, HX.out.lt⟩)
  clear hZ
  generalize hb6 : Y.heap.size = b6 at *
  have HW6 := Lib.hid (show w.heap.size ≤ b6 from by have := HWY.out; omega)
  go_upto_region 3 with (go_at_call 9; refine (HVA.out _).mono ?_; rintro e w1 ⟨rfl, rfl⟩; skip)
  go_upto_region 5 with (first
    | (refine Cv.load_cells rfl 30 _ rfl w.heap.size 0 rfl #[.int .i64 (T : Int), .int .i64 (M : Int), .slice A n c] _ (fun j v hv => by rw [Nat.zero_add]; exact HXZ.out.cell j hv) Tryd.underlying30 rfl (by kernel_rfl) ?_; skip)
    | (refine Cv.load_cells rfl 34 _ rfl X.heap.size 0 rfl (bytesV k) _ (Bytes.of_blk HYZ.out).cells Tryd.underlying34 rfl (by rw [HVK.out]; kernel_rfl) ?_; skip)
    | (go_at_call 12; refine (HLK.out _ HBZ.out).mono ?_; rintro e W1 ⟨rfl, hb1⟩; skip; have HB1 := Lib.hid (HBZ.out.trans (hb1.mono HBZ.out.size)); have HX1 := Lib.hid (HXZ.out.below hb1 HXZ.out.lt); have HY1 := Lib.hid (HYZ.out.below hb1 HYZ.out.lt); have H61 := Lib.hid (H6Z.out.below hb1 H6Z.out.lt); clear hb1))
  go_upto_region 6 with (first
    | (refine Cv.load_cells rfl 30 _ rfl w.heap.size 0 rfl #[.int .i64 (T : Int), .int .i64 (M : Int), .slice A n c] _ (fun j v hv => by rw [Nat.zero_add]; exact HX1.out.cell j hv) Tryd.underlying30 rfl (by kernel_rfl) ?_; skip)
    | (go_at_call 28; refine (HOF.out _ HB1.out).mono ?_; rintro e W2 ⟨v2, rfl, ho2, hb2⟩; obtain ⟨A2, c2, rfl⟩ := own_slice ho2; skip; have HB2 := Lib.hid (HB1.out.trans (hb2.mono HB1.out.size)); have HX2 := Lib.hid (HX1.out.below hb2 HX1.out.lt); have HY2 := Lib.hid (HY1.out.below hb2 HY1.out.lt); have H62 := Lib.hid (H61.out.below hb2 H61.out.lt); clear hb2 ho2))
  clear hemp
  go_quiet (fail)
  go_upto_region 8 with fail
  refine wp_name3 (fun W3 hW3 => ?_)
  have HS3 := Lib.hid (show Below W2.heap.size W2 W3 by rw [hW3]; first | exact Below.refl _ _ | exact bdN (Below.refl _ _) _)
  have HB3 := Lib.hid (HB2.out.trans (HS3.out.mono HB2.out.size))
  have HX3 := Lib.hid (HX2.out.below HS3.out HX2.out.lt)
  have HY3 := Lib.hid (HY2.out.below HS3.out HY2.out.lt)
  have H63 := Lib.hid (H62.out.below HS3.out H62.out.lt)
  clear hW3
  have c1 := HX3.out.cell 1 (v := .int .i64 (M : Int)) rfl
  have hd1 : decide ((M : Int) ≤ (nn : Int)) = false := by rw [decide_eq_false_iff_not]; have := HQ.out; omega
  have hd2 : decide (M ≤ nn) = false := by rw [decide_eq_false_iff_not]; have := HQ.out; omega
  go_upto_region 10 with fail
  clear hd1 hd2 c1
  refine RT.start (RL.Aft W3) 10 1 (by kernel_rfl) (by decide) rfl (by kernel_rfl) (by kernel_rfl) (RL.Aft.drew (RL.Aft.refl W3)) ?_
  refine' RT.takeV (i := 1) (v := _) rfl (by kernel_rfl) (by kernel_rfl) (by kernel_rfl) (by decide) (fun _ _ _ h => h) (by rfl) ?hk17 ?_
  case hk17 => (intro W hSW; go_simp; try with_reducible rfl)
  (try simp only [Act.put, List.setIfInBounds_toArray, List.set_cons_zero, List.set_cons_succ])
  refine' RT.takeV (i := 2) (v := _) rfl (by kernel_rfl) (by kernel_rfl) (by kernel_rfl) (by decide) (fun _ _ _ h => h) (by rfl) ?hk18 ?_
  case hk18 => (intro W hSW; have c2 := (HX3.out.below hSW HX3.out.lt).cell 2 (v := .slice A n c) rfl; go_simp; try with_reducible rfl)
  (try simp only [Act.put, List.setIfInBounds_toArray, List.set_cons_zero, List.set_cons_succ])
  refine' RT.takeV (i := 4) (v := _) rfl (by kernel_rfl) (by kernel_rfl) (by kernel_rfl) (by decide) (fun _ _ _ h => h) (by rfl) ?hk19 ?_
  case hk19 => (intro W hSW; go_simp; try with_reducible rfl)
  (try simp only [Act.put, List.setIfInBounds_toArray, List.set_cons_zero, List.set_cons_succ])
  refine RT.takeV (i := 5) (v := .agg (bytesV k)) rfl (by kernel_rfl) (by kernel_rfl) (by kernel_rfl) (by decide) (fun _ _ _ h => h) (by rfl) (fun W hSW => RT.run_row 34 _ rfl _ rfl _ _ (HY3.out.below hSW HY3.out.lt) Tryd.underlying34 rfl (by rw [HVK.out]; kernel_rfl)) ?_
  (try simp only [Act.put, List.setIfInBounds_toArray, List.set_cons_zero, List.set_cons_succ])
  have hbuilt := built_pair t k HK.out
  refine RT.takeV (i := 6) (v := .agg (pairV (t, k))) rfl (by kernel_rfl) (by kernel_rfl) (by kernel_rfl) (by decide) (fun _ _ _ h => h) (by rfl) (fun W hSW => run_build_op 60 _ rfl #[(0, .string (strB t)), (1, .agg (bytesV k))] (by go_simp) (pairV (t, k)) hbuilt) ?_
  (try simp only [Act.put, List.setIfInBounds_toArray, List.set_cons_zero, List.set_cons_succ])
  clear hbuilt
  have hpv := pairV_size (p := (t, k)) HK.out
  have HPV := Lib.hid hpv
  have hfold0 := fold_cells (pairV (t, k)) #[.string ⟨#[]⟩, .int .u8 0, .int .u8 0, .int .u8 0, .int .u8 0, .int .u8 0, .int .u8 0, .int .u8 0, .int .u8 0, .int .u8 0, .int .u8 0, .int .u8 0, .int .u8 0, .int .u8 0, .int .u8 0, .int .u8 0, .int .u8 0, .int .u8 0, .int .u8 0, .int .u8 0, .int .u8 0, .int .u8 0, .int .u8 0, .int .u8 0, .int .u8 0, .int .u8 0, .int .u8 0, .int .u8 0, .int .u8 0, .int .u8 0, .int .u8 0, .int .u8 0, .int .u8 0] (by rw [hpv]; rfl) 33 hpv.symm
  have HFO := Lib.hid hfold0
  clear hpv hfold0
  refine RT.step2 (i := 0) (j := 7) rfl rfl (by kernel_rfl) (by decide) (by decide) (by rfl) (by rfl) (fun wa hlwa hswa K hK => ?_) (fun wa hlwa hswa K hK => ?_)
  · go_simp
    have HOa := Lib.hid (show (wa.alloc (.cells #[] 60)).ownsRow W3.heap.size 60 33 (.slice (some ⟨wa.heap.size, 0, none⟩) 0 0) 0 [] from World.ownsRow_lit (base := W3.heap.size) (e := 60) (size := 33) wa #[] 0 (Below.size hswa) (Nat.zero_le _) (by simp))
    refine hK.out _ _ (RL.Aft.alloc hswa _) ?_
    clear hK
    (try simp only [Act.put, List.setIfInBounds_toArray, List.set_cons_zero, List.set_cons_succ])
    refine RT.step2 (i := 3) (j := 7) rfl rfl (by kernel_rfl) (by decide) (by decide) (by rfl) (by rfl) (fun wb hlwb hswb K hK => ?_) (fun wb hlwb hswb K hK => ?_)
    · have HOb := Lib.hid (ownsBelow HOa.out hlwb)
      have hBwb := Below.size hswb
      have hPS := (HPS.out.below (HB3.out.trans (Below.mono hswb HB3.out.size)))
      refine app_pairs _ _ rfl HOb.out rfl hPS HN.out rfl (by have := hz; omega) (by have := Below.size hswb; exact this) ?_
      intro v3 w3 hv3 hbl3
      have HVb := Lib.hid hv3
      have hAf : RL.Aft W3 w3 := Below.grown hswb hbl3 (Below.size hswb) (fun j hj => (World.ownsRow.lt HOb.out j hj).1)
      refine hK.out _ _ hAf ?_
      clear hK hPS hv3 hAf
      (try simp only [Act.put, List.setIfInBounds_toArray, List.set_cons_zero, List.set_cons_succ])
      refine RT.stepK (i := 7) rfl (by kernel_rfl) (by decide) (by rfl) (fun wc hlwc hswc K hK => ?_)
      have HVc := Lib.hid (ownsBelow HVb.out hlwc)
      have hpv := HPV.out
      have hfold := HFO.out
      go_simp
      clear hpv hfold
      have HRc := Lib.hid (show Rd (wc.alloc (.cells (pairV (t, k)) 60)) (some ⟨wc.heap.size, 0, none⟩) (pairC (t, k)) from fun j x hx => ⟨wc.heap.size, 0, rfl, by simp, by rw [Nat.zero_add]; exact (Rg.Blk.new wc (pairV (t, k)) 60).cell j (by rw [← pairV_toList] at hx; simpa using hx)⟩)
      refine hK.out _ _ (RL.Aft.alloc hswc _) ?_
      clear hK
      (try simp only [Act.put, List.setIfInBounds_toArray, List.set_cons_zero, List.set_cons_succ])
      have HVe := Lib.hid (World.ownsRow.alloc HVc.out (.cells (pairV (t, k)) 60))
      refine RT.stepK (i := 8) rfl (by kernel_rfl) (by decide) (by rfl) (fun wy hlwy hswy K hK => ?_)
      have HOy := Lib.hid (ownsBelow HVe.out hlwy)
      have HRy := Lib.hid (HRc.out.below hlwy)
      refine appN_op _ _ 28 rfl Tryd.underlying28 infoP rfl (by decide) (by decide) HOy.out rfl rfl (show (pairC (t, k)).length = 1 * 33 from pairC_length _ HK.out) HRy.out (fun u hu => pcells_oneCell [(t, k)] u (by rw [pcells_one]; exact hu)) (by have := hz; omega) (Below.size hswy) ?_
      intro v8 w8 hv8 hg8
      have HV8 := Lib.hid hv8
      refine hK.out _ _ (show RL.Aft W3 w8 from Below.grown hswy hg8 (Below.size hswy) (fun j hj => (World.ownsRow.lt HOy.out j hj).1)) ?_
      clear hK hv8 hg8
      (try simp only [Act.put, List.setIfInBounds_toArray, List.set_cons_zero, List.set_cons_succ])
      refine' RT.takeV (i := 9) (v := _) rfl (by kernel_rfl) (by kernel_rfl) (by kernel_rfl) (by decide) (fun _ _ _ h => h) (by rfl) ?hk20 ?_
      case hk20 => (intro W hSW; go_simp; try with_reducible rfl)
      (try simp only [Act.put, List.setIfInBounds_toArray, List.set_cons_zero, List.set_cons_succ])
      refine RT.tail (by kernel_rfl) rfl rfl ?_
      intro wd hlwd hswd
      obtain ⟨g8, c8, rfl, hB8, hl8, hR8⟩ := own_rd HV8.out (fun e => by have := (List.append_eq_nil_iff.1 e).2; unfold pairC at this; cases this)
      clear hR8
      have HB8 := Lib.hid hB8
      have HV8d := Lib.hid (ownsBelow HV8.out hlwd)
      have HXd := Lib.hid (HX3.out.below hswd HX3.out.lt)
      have H6d := Lib.hid (H63.out.below hswd H63.out.lt)
      have HBd := Lib.hid (HB3.out.trans (Below.mono hswd HB3.out.size))
      have hx0 := HXd.out
      clear hlwd hswd
      refine store_slice rfl 28 _ _ rfl (b := w.heap.size) (j := 2) rfl rfl Tryd.underlying28 (by kernel_rfl) HXd.out rfl ?_
      intro U hU hgU
      have HU := Lib.hid (show Rg.Blk U w.heap.size 30 #[.int .i64 (T : Int), .int .i64 (M : Int), .slice (some ⟨g8, 0, none⟩) (n + 1) c8] from hU)
      have HGU := Lib.hid hgU
      have HBU := Lib.hid (HBd.out.grown HGU.out HBd.out.size (fun j hj => by cases hj; exact Nat.le_refl _))
      have H6U := Lib.hid (blk_keptR H6d.out HGU.out (by have := HWY.out; omega))
      have HVU := Lib.hid (World.ownsRow.kept HV8d.out HGU.out (.inr (fun e => by have e := Option.some.inj e; have h1 := HX3.out.lt; have h2 := HB8.out; simp at e; omega)))
      clear hU hgU hx0 hB8 hl8
      go_wp2_with (first
        | (refine Cv.load_cells rfl 30 _ rfl w.heap.size 0 rfl #[.int .i64 (T : Int), .int .i64 (M : Int), .slice (some ⟨g8, 0, none⟩) (n + 1) c8] _ (fun j v hv => by rw [Nat.zero_add]; exact HU.out.cell j hv) Tryd.underlying30 rfl (by kernel_rfl) ?_; skip)
        | (refine Cv.store_blk rfl 30 _ _ rfl b6 #[.int .i64 (T : Int), .int .i64 (M : Int), .slice (some ⟨g8, 0, none⟩) (n + 1) c8] #[.int .i64 0, .int .i64 0, .slice none 0 0] 30 rfl rfl H6U.out (by kernel_rfl) rfl (by simp [Value.oneCell']) ?_; intro V hV hgV; have HV := Lib.hid hV; have HGV := Lib.hid hgV; clear hV hgV))
      have HBV := Lib.hid (HBU.out.grown HGV.out HBU.out.size (fun j hj => by cases hj; exact HW6.out))
      have p0 := HV.out.cell 0 (v := .int .i64 (T : Int)) rfl
      have p1 := HV.out.cell 1 (v := .int .i64 (M : Int)) rfl
      have p2 := HV.out.cell 2 (v := .slice (some ⟨g8, 0, none⟩) (n + 1) c8) rfl
      have hz6 := HV.out.lt
      refine bodyPost_ret (v := .tuple #[.agg #[.int .i64 (T : Int), .int .i64 (M : Int), .slice (some ⟨g8, 0, none⟩) (n + 1) c8], .int .i64 0]) (by simp [results, Tryd.results17, go_sem, p0, p1, p2, hz6]) rfl ?_
      exact ⟨_, rfl, PS.own (n := n + 1) (by rw [pcells_append, pcells_one]; exact World.ownsRow.kept HVU.out HGV.out (.inr (fun e => by have e := Option.some.inj e; have h1 := H63.out.lt; have h2 := HB8.out; simp at e; omega))) (by rw [List.length_append, HN.out]; rfl) HFL.out.2, HBV.out⟩
    · have HOb := Lib.hid (ownsBelow HOa.out hlwb)
      have hpv := HPV.out
      have hfold := HFO.out
      go_simp
      clear hpv hfold
      have HRb := Lib.hid (show Rd (wb.alloc (.cells (pairV (t, k)) 60)) (some ⟨wb.heap.size, 0, none⟩) (pairC (t, k)) from fun j x hx => ⟨wb.heap.size, 0, rfl, by simp, by rw [Nat.zero_add]; exact (Rg.Blk.new wb (pairV (t, k)) 60).cell j (by rw [← pairV_toList] at hx; simpa using hx)⟩)
      refine hK.out _ _ (RL.Aft.alloc hswb _) ?_
      clear hK
      (try simp only [Act.put, List.setIfInBounds_toArray, List.set_cons_zero, List.set_cons_succ])
      have HOb2 := Lib.hid (World.ownsRow.alloc HOb.out (.cells (pairV (t, k)) 60))
      refine RT.stepK (i := 3) rfl (by kernel_rfl) (by decide) (by rfl) (fun wc hlwc hswc K hK => ?_)
      have HOc := Lib.hid (ownsBelow HOb2.out hlwc)
      have HRc := Lib.hid (HRb.out.below hlwc)
      have HNE := Lib.hid (show wb.heap.size ≠ wa.heap.size from by have := Below.size hlwb; simp at this; omega)
      have hBwc := Below.size hswc
      have hPS := (HPS.out.below (HB3.out.trans (Below.mono hswc HB3.out.size)))
      refine app_pairs _ _ rfl HOc.out rfl hPS HN.out rfl (by have := hz; omega) (by have := Below.size hswc; exact this) ?_
      intro v3 w3 hv3 hbl3
      have HVc := Lib.hid hv3
      have hAf : RL.Aft W3 w3 := Below.grown hswc hbl3 (Below.size hswc) (fun j hj => (World.ownsRow.lt HOc.out j hj).1)
      refine hK.out _ _ hAf ?_
      clear hK hPS hv3 hAf
      (try simp only [Act.put, List.setIfInBounds_toArray, List.set_cons_zero, List.set_cons_succ])
      have HRe := Lib.hid (HRkept HRc.out hbl3 (fun e => HNE.out (Option.some.inj e)))
      refine RT.stepK (i := 8) rfl (by kernel_rfl) (by decide) (by rfl) (fun wy hlwy hswy K hK => ?_)
      have HOy := Lib.hid (ownsBelow HVc.out hlwy)
      have HRy := Lib.hid (HRe.out.below hlwy)
      refine appN_op _ _ 28 rfl Tryd.underlying28 infoP rfl (by decide) (by decide) HOy.out rfl rfl (show (pairC (t, k)).length = 1 * 33 from pairC_length _ HK.out) HRy.out (fun u hu => pcells_oneCell [(t, k)] u (by rw [pcells_one]; exact hu)) (by have := hz; omega) (Below.size hswy) ?_
      intro v8 w8 hv8 hg8
      have HV8 := Lib.hid hv8
      refine hK.out _ _ (show RL.Aft W3 w8 from Below.grown hswy hg8 (Below.size hswy) (fun j hj => (World.ownsRow.lt HOy.out j hj).1)) ?_
      clear hK hv8 hg8
      (try simp only [Act.put, List.setIfInBounds_toArray, List.set_cons_zero, List.set_cons_succ])
      refine' RT.takeV (i := 9) (v := _) rfl (by kernel_rfl) (by kernel_rfl) (by kernel_rfl) (by decide) (fun _ _ _ h => h) (by rfl) ?hk21 ?_
      case hk21 => (intro W hSW; go_simp; try with_reducible rfl)
      (try simp only [Act.put, List.setIfInBounds_toArray, List.set_cons_zero, List.set_cons_succ])
      refine RT.tail (by kernel_rfl) rfl rfl ?_
      intro wd hlwd hswd
      obtain ⟨g8, c8, rfl, hB8, hl8, hR8⟩ := own_rd HV8.out (fun e => by have := (List.append_eq_nil_iff.1 e).2; unfold pairC at this; cases this)
      clear hR8
      have HB8 := Lib.hid hB8
      have HV8d := Lib.hid (ownsBelow HV8.out hlwd)
      have HXd := Lib.hid (HX3.out.below hswd HX3.out.lt)
      have H6d := Lib.hid (H63.out.below hswd H63.out.lt)
      have HBd := Lib.hid (HB3.out.trans (Below.mono hswd HB3.out.size))
      have hx0 := HXd.out
      clear hlwd hswd
      refine store_slice rfl 28 _ _ rfl (b := w.heap.size) (j := 2) rfl rfl Tryd.underlying28 (by kernel_rfl) HXd.out rfl ?_
      intro U hU hgU
      have HU := Lib.hid (show Rg.Blk U w.heap.size 30 #[.int .i64 (T : Int), .int .i64 (M : Int), .slice (some ⟨g8, 0, none⟩) (n + 1) c8] from hU)
      have HGU := Lib.hid hgU
      have HBU := Lib.hid (HBd.out.grown HGU.out HBd.out.size (fun j hj => by cases hj; exact Nat.le_refl _))
      have H6U := Lib.hid (blk_keptR H6d.out HGU.out (by have := HWY.out; omega))
      have HVU := Lib.hid (World.ownsRow.kept HV8d.out HGU.out (.inr (fun e => by have e := Option.some.inj e; have h1 := HX3.out.lt; have h2 := HB8.out; simp at e; omega)))
      clear hU hgU hx0 hB8 hl8
      go_wp2_with (first
        | (refine Cv.load_cells rfl 30 _ rfl w.heap.size 0 rfl #[.int .i64 (T : Int), .int .i64 (M : Int), .slice (some ⟨g8, 0, none⟩) (n + 1) c8] _ (fun j v hv => by rw [Nat.zero_add]; exact HU.out.cell j hv) Tryd.underlying30 rfl (by kernel_rfl) ?_; skip)
        | (refine Cv.store_blk rfl 30 _ _ rfl b6 #[.int .i64 (T : Int), .int .i64 (M : Int), .slice (some ⟨g8, 0, none⟩) (n + 1) c8] #[.int .i64 0, .int .i64 0, .slice none 0 0] 30 rfl rfl H6U.out (by kernel_rfl) rfl (by simp [Value.oneCell']) ?_; intro V hV hgV; have HV := Lib.hid hV; have HGV := Lib.hid hgV; clear hV hgV))
      have HBV := Lib.hid (HBU.out.grown HGV.out HBU.out.size (fun j hj => by cases hj; exact HW6.out))
      have p0 := HV.out.cell 0 (v := .int .i64 (T : Int)) rfl
      have p1 := HV.out.cell 1 (v := .int .i64 (M : Int)) rfl
      have p2 := HV.out.cell 2 (v := .slice (some ⟨g8, 0, none⟩) (n + 1) c8) rfl
      have hz6 := HV.out.lt
      refine bodyPost_ret (v := .tuple #[.agg #[.int .i64 (T : Int), .int .i64 (M : Int), .slice (some ⟨g8, 0, none⟩) (n + 1) c8], .int .i64 0]) (by simp [results, Tryd.results17, go_sem, p0, p1, p2, hz6]) rfl ?_
      exact ⟨_, rfl, PS.own (n := n + 1) (by rw [pcells_append, pcells_one]; exact World.ownsRow.kept HVU.out HGV.out (.inr (fun e => by have e := Option.some.inj e; have h1 := H63.out.lt; have h2 := HB8.out; simp at e; omega))) (by rw [List.length_append, HN.out]; rfl) HFL.out.2, HBV.out⟩
  · have hpv := HPV.out
    have hfold := HFO.out
    go_simp
    clear hpv hfold
    have HRa := Lib.hid (show Rd (wa.alloc (.cells (pairV (t, k)) 60)) (some ⟨wa.heap.size, 0, none⟩) (pairC (t, k)) from fun j x hx => ⟨wa.heap.size, 0, rfl, by simp, by rw [Nat.zero_add]; exact (Rg.Blk.new wa (pairV (t, k)) 60).cell j (by rw [← pairV_toList] at hx; simpa using hx)⟩)
    refine hK.out _ _ (RL.Aft.alloc hswa _) ?_
    clear hK
    (try simp only [Act.put, List.setIfInBounds_toArray, List.set_cons_zero, List.set_cons_succ])
    refine RT.stepK (i := 0) rfl (by kernel_rfl) (by decide) (by rfl) (fun wb hlwb hswb K hK => ?_)
    have HRb := Lib.hid (HRa.out.below hlwb)
    go_simp
    have HOb := Lib.hid (show (wb.alloc (.cells #[] 60)).ownsRow W3.heap.size 60 33 (.slice (some ⟨wb.heap.size, 0, none⟩) 0 0) 0 [] from World.ownsRow_lit (base := W3.heap.size) (e := 60) (size := 33) wb #[] 0 (Below.size hswb) (Nat.zero_le _) (by simp))
    refine hK.out _ _ (RL.Aft.alloc hswb _) ?_
    clear hK
    (try simp only [Act.put, List.setIfInBounds_toArray, List.set_cons_zero, List.set_cons_succ])
    have HRb2 := Lib.hid (HRb.out.below ((Below.refl _ _).alloc (Nat.le_refl _) (.cells #[] 60)))
    have HNE := Lib.hid (show wa.heap.size ≠ wb.heap.size from by have := Below.size hlwb; simp at this; omega)
    refine RT.stepK (i := 3) rfl (by kernel_rfl) (by decide) (by rfl) (fun wc hlwc hswc K hK => ?_)
    have HOc := Lib.hid (ownsBelow HOb.out hlwc)
    have HRc := Lib.hid (HRb2.out.below hlwc)
    have hBwc := Below.size hswc
    have hPS := (HPS.out.below (HB3.out.trans (Below.mono hswc HB3.out.size)))
    refine app_pairs _ _ rfl HOc.out rfl hPS HN.out rfl (by have := hz; omega) (by have := Below.size hswc; exact this) ?_
    intro v3 w3 hv3 hbl3
    have HVc := Lib.hid hv3
    have hAf : RL.Aft W3 w3 := Below.grown hswc hbl3 (Below.size hswc) (fun j hj => (World.ownsRow.lt HOc.out j hj).1)
    refine hK.out _ _ hAf ?_
    clear hK hPS hv3 hAf
    (try simp only [Act.put, List.setIfInBounds_toArray, List.set_cons_zero, List.set_cons_succ])
    have HRe := Lib.hid (HRkept HRc.out hbl3 (fun e => HNE.out (Option.some.inj e)))
    refine RT.stepK (i := 8) rfl (by kernel_rfl) (by decide) (by rfl) (fun wy hlwy hswy K hK => ?_)
    have HOy := Lib.hid (ownsBelow HVc.out hlwy)
    have HRy := Lib.hid (HRe.out.below hlwy)
    refine appN_op _ _ 28 rfl Tryd.underlying28 infoP rfl (by decide) (by decide) HOy.out rfl rfl (show (pairC (t, k)).length = 1 * 33 from pairC_length _ HK.out) HRy.out (fun u hu => pcells_oneCell [(t, k)] u (by rw [pcells_one]; exact hu)) (by have := hz; omega) (Below.size hswy) ?_
    intro v8 w8 hv8 hg8
    have HV8 := Lib.hid hv8
    refine hK.out _ _ (show RL.Aft W3 w8 from Below.grown hswy hg8 (Below.size hswy) (fun j hj => (World.ownsRow.lt HOy.out j hj).1)) ?_
    clear hK hv8 hg8
    (try simp only [Act.put, List.setIfInBounds_toArray, List.set_cons_zero, List.set_cons_succ])
    refine' RT.takeV (i := 9) (v := _) rfl (by kernel_rfl) (by kernel_rfl) (by kernel_rfl) (by decide) (fun _ _ _ h => h) (by rfl) ?hk22 ?_
    case hk22 => (intro W hSW; go_simp; try with_reducible rfl)
    (try simp only [Act.put, List.setIfInBounds_toArray, List.set_cons_zero, List.set_cons_succ])
    refine RT.tail (by kernel_rfl) rfl rfl ?_
    intro wd hlwd hswd
    obtain ⟨g8, c8, rfl, hB8, hl8, hR8⟩ := own_rd HV8.out (fun e => by have := (List.append_eq_nil_iff.1 e).2; unfold pairC at this; cases this)
    clear hR8
    have HB8 := Lib.hid hB8
    have HV8d := Lib.hid (ownsBelow HV8.out hlwd)
    have HXd := Lib.hid (HX3.out.below hswd HX3.out.lt)
    have H6d := Lib.hid (H63.out.below hswd H63.out.lt)
    have HBd := Lib.hid (HB3.out.trans (Below.mono hswd HB3.out.size))
    have hx0 := HXd.out
    clear hlwd hswd
    refine store_slice rfl 28 _ _ rfl (b := w.heap.size) (j := 2) rfl rfl Tryd.underlying28 (by kernel_rfl) HXd.out rfl ?_
    intro U hU hgU
    have HU := Lib.hid (show Rg.Blk U w.heap.size 30 #[.int .i64 (T : Int), .int .i64 (M : Int), .slice (some ⟨g8, 0, none⟩) (n + 1) c8] from hU)
    have HGU := Lib.hid hgU
    have HBU := Lib.hid (HBd.out.grown HGU.out HBd.out.size (fun j hj => by cases hj; exact Nat.le_refl _))
    have H6U := Lib.hid (blk_keptR H6d.out HGU.out (by have := HWY.out; omega))
    have HVU := Lib.hid (World.ownsRow.kept HV8d.out HGU.out (.inr (fun e => by have e := Option.some.inj e; have h1 := HX3.out.lt; have h2 := HB8.out; simp at e; omega)))
    clear hU hgU hx0 hB8 hl8
    go_wp2_with (first
      | (refine Cv.load_cells rfl 30 _ rfl w.heap.size 0 rfl #[.int .i64 (T : Int), .int .i64 (M : Int), .slice (some ⟨g8, 0, none⟩) (n + 1) c8] _ (fun j v hv => by rw [Nat.zero_add]; exact HU.out.cell j hv) Tryd.underlying30 rfl (by kernel_rfl) ?_; skip)
      | (refine Cv.store_blk rfl 30 _ _ rfl b6 #[.int .i64 (T : Int), .int .i64 (M : Int), .slice (some ⟨g8, 0, none⟩) (n + 1) c8] #[.int .i64 0, .int .i64 0, .slice none 0 0] 30 rfl rfl H6U.out (by kernel_rfl) rfl (by simp [Value.oneCell']) ?_; intro V hV hgV; have HV := Lib.hid hV; have HGV := Lib.hid hgV; clear hV hgV))
    have HBV := Lib.hid (HBU.out.grown HGV.out HBU.out.size (fun j hj => by cases hj; exact HW6.out))
    have p0 := HV.out.cell 0 (v := .int .i64 (T : Int)) rfl
    have p1 := HV.out.cell 1 (v := .int .i64 (M : Int)) rfl
    have p2 := HV.out.cell 2 (v := .slice (some ⟨g8, 0, none⟩) (n + 1) c8) rfl
    have hz6 := HV.out.lt
    refine bodyPost_ret (v := .tuple #[.agg #[.int .i64 (T : Int), .int .i64 (M : Int), .slice (some ⟨g8, 0, none⟩) (n + 1) c8], .int .i64 0]) (by simp [results, Tryd.results17, go_sem, p0, p1, p2, hz6]) rfl ?_
    exact ⟨_, rfl, PS.own (n := n + 1) (by rw [pcells_append, pcells_one]; exact World.ownsRow.kept HVU.out HGV.out (.inr (fun e => by have e := Option.some.inj e; have h1 := H63.out.lt; have h2 := HB8.out; simp at e; omega))) (by rw [List.length_append, HN.out]; rfl) HFL.out.2, HBV.out⟩
set_option maxRecDepth 20000 in
set_option maxHeartbeats 8000000 in
theorem RAdd_ok_f (w : World) (T M : Nat) (v : Value) (L : List Pr) (h : PS w v L) (hz : L.length ≤ 100000) (t : List UInt8) (ht : t.length ≤ 1000) (k : List UInt8) (hk : k.length = 32) (hv : validB t = true) (hw : whoOf L k = none) (hb : keysOf L t = []) (hT : (tens L).length < T) (hK : (keysOf L t).length < M) :
    Calls Tryd.prog 17 #[.agg #[.int .i64 (T : Int), .int .i64 (M : Int), v], .string (strB t), .agg (bytesV k)] w fun e w' => ∃ v', e = .returned (.tuple #[.agg #[.int .i64 (T : Int), .int .i64 (M : Int), v'], .int .i64 0]) ∧ PS w' v' (L ++ [(t, k)]) ∧ Below w.heap.size w w' := by
  have HVA := Lib.hid (show ∀ W : World, Calls Tryd.prog 9 #[.string (strB t)] W fun e w' => e = .returned (.bool true) ∧ W = w' from fun W => by have := RefValid_any W (strB t) (by show t.toArray.size ≤ _; rw [List.size_toArray]; omega); rw [show validB (strB t).data.toList = true from hv] at this; exact this)
  have HLK := Lib.hid (show ∀ W : World, Below w.heap.size w W → Calls Tryd.prog 12 #[.agg #[.int .i64 (T : Int), .int .i64 (M : Int), v], .agg (bytesV k)] W fun e w' => e = .returned (.string ⟨#[]⟩) ∧ Below W.heap.size W w' from fun W hW => by have := RLookup_any W T M v L (h.below hW) (by omega) k hk; rw [hw] at this; exact this)
  have HOF := Lib.hid (fun (W : World) (hW : Below w.heap.size w W) => ROf_any W T M v L (h.below hW) (by omega) t)
  have HNM := Lib.hid (show ∀ W : World, Below w.heap.size w W → Calls Tryd.prog 29 #[.agg #[.int .i64 (T : Int), .int .i64 (M : Int), v]] W fun e w' => ∃ A' c', e = .returned (.slice A' (tens L).length c') ∧ Below W.heap.size W w' from fun W hW => (RNames_any W T M v L (h.below hW) (by omega)).mono fun e w' ⟨v', h1, h2, h3⟩ => by
    obtain ⟨A', c', h4⟩ := own_slice h2
    rw [List.length_map, namesL_length] at h4
    exact ⟨A', c', by rw [h1, h4], h3⟩)
  have HFL := Lib.hid (show (∀ x ∈ L, x.2.length = 32) ∧ (∀ x ∈ L ++ [(t, k)], x.2.length = 32) from by
    obtain ⟨_, _, _, _, _, _, h5⟩ := id h
    exact ⟨h5, fun x hx => by rcases List.mem_append.1 hx with h6 | h6; exact h5 x h6; rw [List.mem_singleton.1 h6]; exact hk⟩)
  have HPS := Lib.hid h
  obtain ⟨A, c, rfl, hc, hm, hR, hl⟩ := h
  have HVK := Lib.hid (show (bytesV k).size = 32 by rw [bytesV_size, hk])
  have HK := Lib.hid hk
  generalize hn : L.length = n at *
  have HN := Lib.hid hn
  have hemp : ((⟨#[]⟩ : ByteArray).toList == []) = true := by rw [ByteArray.toList_eq]; rfl
  have HKO := Lib.hid (show (keysOf L t).length = 0 by rw [hb]; rfl)
  have HT := Lib.hid hT
  have HQ := Lib.hid hK
  clear hv ht hR hl hk hn hc hm hw hb hT hK
  generalize hnn : (keysOf L t).length = nn at *
  obtain rfl : nn = 0 := HKO.out
  generalize hqq : (tens L).length = q at *
  go_enter Tryd.func17, Tryd.ntmps17
  go_upto_region 1 with (first
    | (refine Rg.box_fresh rfl 34 _ rfl (bytesV k) rfl ?_; intro Y hY hbY hnY; have HY := Lib.hid hY; have HBY := Lib.hid hbY; clear hY hbY hnY)
    | (refine Rg.box_fresh rfl 30 _ rfl #[.int .i64 (T : Int), .int .i64 (M : Int), .slice A n c] rfl ?_; intro X hX hbX hnX; have HX := Lib.hid hX; have HBX := Lib.hid hbX; clear hX hbX hnX))
  refine wp_name3 (fun Z hZ => ?_)
  have HBB := Lib.hid (HBX.out.trans (HBY.out.mono HBX.out.size))
  have HXZ := Lib.hid (show Rg.Blk Z w.heap.size 30 #[.int .i64 (T : Int), .int .i64 (M : Int), .slice A n c] by rw [hZ]; exact (HX.out.below HBY.out HX.out.lt).alloc _)
  have HYZ := Lib.hid (show Rg.Blk Z X.heap.size 34 (bytesV k) by rw [hZ]; exact HY.out.alloc _)
  have H6Z := Lib.hid (show Rg.Blk Z Y.heap.size 30 #[.int .i64 0, .int .i64 0, .slice none 0 0] by rw [hZ]; exact Rg.Blk.new _ _ _)
  have HBZ := Lib.hid (show Below w.heap.size w Z by rw [hZ]; exact HBB.out.alloc HBB.out.size _)
  have HWY := Lib.hid (show w.heap.size < Y.heap.size ∧ X.heap.size < Y.heap.size ∧ w.heap.size < X.heap.size from ⟨Nat.lt_of_lt_of_le HX.out.lt HBY.out.size, HY.out.lt, HX.out.lt⟩)
  clear hZ
  generalize hb6 : Y.heap.size = b6 at *
  have HW6 := Lib.hid (show w.heap.size ≤ b6 from by have := HWY.out; omega)
  go_upto_region 3 with (go_at_call 9; refine (HVA.out _).mono ?_; rintro e w1 ⟨rfl, rfl⟩; skip)
  go_upto_region 5 with (first
    | (refine Cv.load_cells rfl 30 _ rfl w.heap.size 0 rfl #[.int .i64 (T : Int), .int .i64 (M : Int), .slice A n c] _ (fun j v hv => by rw [Nat.zero_add]; exact HXZ.out.cell j hv) Tryd.underlying30 rfl (by kernel_rfl) ?_; skip)
    | (refine Cv.load_cells rfl 34 _ rfl X.heap.size 0 rfl (bytesV k) _ (Bytes.of_blk HYZ.out).cells Tryd.underlying34 rfl (by rw [HVK.out]; kernel_rfl) ?_; skip)
    | (go_at_call 12; refine (HLK.out _ HBZ.out).mono ?_; rintro e W1 ⟨rfl, hb1⟩; skip; have HB1 := Lib.hid (HBZ.out.trans (hb1.mono HBZ.out.size)); have HX1 := Lib.hid (HXZ.out.below hb1 HXZ.out.lt); have HY1 := Lib.hid (HYZ.out.below hb1 HYZ.out.lt); have H61 := Lib.hid (H6Z.out.below hb1 H6Z.out.lt); clear hb1))
  go_upto_region 6 with (first
    | (refine Cv.load_cells rfl 30 _ rfl w.heap.size 0 rfl #[.int .i64 (T : Int), .int .i64 (M : Int), .slice A n c] _ (fun j v hv => by rw [Nat.zero_add]; exact HX1.out.cell j hv) Tryd.underlying30 rfl (by kernel_rfl) ?_; skip)
    | (go_at_call 28; refine (HOF.out _ HB1.out).mono ?_; rintro e W2 ⟨v2, rfl, ho2, hb2⟩; obtain ⟨A2, c2, rfl⟩ := own_slice ho2; skip; have HB2 := Lib.hid (HB1.out.trans (hb2.mono HB1.out.size)); have HX2 := Lib.hid (HX1.out.below hb2 HX1.out.lt); have HY2 := Lib.hid (HY1.out.below hb2 HY1.out.lt); have H62 := Lib.hid (H61.out.below hb2 H61.out.lt); clear hb2 ho2))
  clear hemp
  refine RL.start (RL.Aft W2) (by kernel_rfl) (RL.Aft.drew (RL.Aft.refl W2)) ?_
  refine' RL.takeV (i := 0) (v := _) rfl (by kernel_rfl) (by kernel_rfl) (by kernel_rfl) (fun _ _ _ h => h) (by rfl) ?hk23 ?_
  case hk23 => (intro W hSW; go_simp; try with_reducible rfl)
  (try simp only [Act.put, List.setIfInBounds_toArray, List.set_cons_zero, List.set_cons_succ])
  refine' RL.takeV (i := 1) (v := _) rfl (by kernel_rfl) (by kernel_rfl) (by kernel_rfl) (fun _ _ _ h => h) (by rfl) ?hk24 ?_
  case hk24 => (intro W hSW; go_simp; try with_reducible rfl)
  (try simp only [Act.put, List.setIfInBounds_toArray, List.set_cons_zero, List.set_cons_succ])
  refine' RL.takeV (i := 2) (v := _) rfl (by kernel_rfl) (by kernel_rfl) (by kernel_rfl) (fun _ _ _ h => h) (by rfl) ?hk25 ?_
  case hk25 => (intro W hSW; go_simp; try with_reducible rfl)
  (try simp only [Act.put, List.setIfInBounds_toArray, List.set_cons_zero, List.set_cons_succ])
  refine RL.takeV (i := 3) (v := .agg #[.int .i64 (T : Int), .int .i64 (M : Int), .slice A n c]) rfl (by kernel_rfl) (by kernel_rfl) (by kernel_rfl) (fun _ _ _ h => h) (by rfl) (fun W hSW => RT.run_row 30 _ rfl _ rfl _ _ (HX2.out.below hSW HX2.out.lt) Tryd.underlying30 rfl (by kernel_rfl)) ?_
  (try simp only [Act.put, List.setIfInBounds_toArray, List.set_cons_zero, List.set_cons_succ])
  refine' RL.takeV (i := 6) (v := _) rfl (by kernel_rfl) (by kernel_rfl) (by kernel_rfl) (fun _ _ _ h => h) (by rfl) ?hk26 ?_
  case hk26 => (intro W hSW; go_simp; try with_reducible rfl)
  (try simp only [Act.put, List.setIfInBounds_toArray, List.set_cons_zero, List.set_cons_succ])
  refine' RL.takeV (i := 7) (v := _) rfl (by kernel_rfl) (by kernel_rfl) (by kernel_rfl) (fun _ _ _ h => h) (by rfl) ?hk27 ?_
  case hk27 => (intro W hSW; have c0 := (HX2.out.below hSW HX2.out.lt).cell 0 (v := .int .i64 (T : Int)) rfl; go_simp; try with_reducible rfl)
  (try simp only [Act.put, List.setIfInBounds_toArray, List.set_cons_zero, List.set_cons_succ])
  refine RL.stepK (i := 4) rfl (by kernel_rfl) (by rfl) (fun wa hlwa hswa K hK => ?_)
  have hc := HNM.out wa (HB2.out.trans (Below.mono hswa HB2.out.size))
  go_simp
  refine hc.mono ?_
  rintro e wb ⟨A3, c3, rfl, hb3⟩
  refine hK.out _ _ (RL.Aft.lat hswa hb3) ?_
  clear hK hc
  (try simp only [Act.put, List.setIfInBounds_toArray, List.set_cons_zero, List.set_cons_succ])
  refine' RL.takeV (i := 5) (v := _) rfl (by kernel_rfl) (by kernel_rfl) (by kernel_rfl) (fun _ _ _ h => h) (by rfl) ?hk28 ?_
  case hk28 => (intro W hSW; go_simp; try with_reducible rfl)
  (try simp only [Act.put, List.setIfInBounds_toArray, List.set_cons_zero, List.set_cons_succ])
  have hge : decide ((T : Int) ≤ (q : Int)) = false := by rw [decide_eq_false_iff_not]; have := HT.out; omega
  have hge2 : decide (T ≤ q) = false := by rw [decide_eq_false_iff_not]; have := HT.out; omega
  refine' RL.takeV (i := 8) (v := _) rfl (by kernel_rfl) (by kernel_rfl) (by kernel_rfl) (fun _ _ _ h => h) (by rfl) ?hk29 ?_
  case hk29 => (intro W hSW; go_simp; try with_reducible rfl)
  (try simp only [Act.put, List.setIfInBounds_toArray, List.set_cons_zero, List.set_cons_succ])
  refine' RL.takeV (i := 9) (v := _) rfl (by kernel_rfl) (by kernel_rfl) (by kernel_rfl) (fun _ _ _ h => h) (by rfl) ?hk30 ?_
  case hk30 => (intro W hSW; go_simp; try with_reducible rfl)
  (try simp only [Act.put, List.setIfInBounds_toArray, List.set_cons_zero, List.set_cons_succ])
  refine RL.done (by kernel_rfl) (fun W3 hlW3 hsW3 => ?_)
  have HS3 := Lib.hid (show Below W2.heap.size W2 W3 from hsW3)
  have HB3 := Lib.hid (HB2.out.trans (HS3.out.mono HB2.out.size))
  have HX3 := Lib.hid (HX2.out.below HS3.out HX2.out.lt)
  have HY3 := Lib.hid (HY2.out.below HS3.out HY2.out.lt)
  have H63 := Lib.hid (H62.out.below HS3.out H62.out.lt)
  clear hlW3 hsW3 hge hge2
  have c1 := HX3.out.cell 1 (v := .int .i64 (M : Int)) rfl
  have hd1 : decide ((M : Int) ≤ (0 : Int)) = false := by rw [decide_eq_false_iff_not]; have := HQ.out; omega
  have hd2 : decide (M ≤ 0) = false := by rw [decide_eq_false_iff_not]; have := HQ.out; omega
  have hM0 : ¬ M = 0 := by have := HQ.out; omega
  go_upto_region 10 with fail
  clear hd1 hd2 c1
  refine RT.start (RL.Aft W3) 10 1 (by kernel_rfl) (by decide) rfl (by kernel_rfl) (by kernel_rfl) (RL.Aft.drew (RL.Aft.refl W3)) ?_
  refine' RT.takeV (i := 1) (v := _) rfl (by kernel_rfl) (by kernel_rfl) (by kernel_rfl) (by decide) (fun _ _ _ h => h) (by rfl) ?hk31 ?_
  case hk31 => (intro W hSW; go_simp; try with_reducible rfl)
  (try simp only [Act.put, List.setIfInBounds_toArray, List.set_cons_zero, List.set_cons_succ])
  refine' RT.takeV (i := 2) (v := _) rfl (by kernel_rfl) (by kernel_rfl) (by kernel_rfl) (by decide) (fun _ _ _ h => h) (by rfl) ?hk32 ?_
  case hk32 => (intro W hSW; have c2 := (HX3.out.below hSW HX3.out.lt).cell 2 (v := .slice A n c) rfl; go_simp; try with_reducible rfl)
  (try simp only [Act.put, List.setIfInBounds_toArray, List.set_cons_zero, List.set_cons_succ])
  refine' RT.takeV (i := 4) (v := _) rfl (by kernel_rfl) (by kernel_rfl) (by kernel_rfl) (by decide) (fun _ _ _ h => h) (by rfl) ?hk33 ?_
  case hk33 => (intro W hSW; go_simp; try with_reducible rfl)
  (try simp only [Act.put, List.setIfInBounds_toArray, List.set_cons_zero, List.set_cons_succ])
  refine RT.takeV (i := 5) (v := .agg (bytesV k)) rfl (by kernel_rfl) (by kernel_rfl) (by kernel_rfl) (by decide) (fun _ _ _ h => h) (by rfl) (fun W hSW => RT.run_row 34 _ rfl _ rfl _ _ (HY3.out.below hSW HY3.out.lt) Tryd.underlying34 rfl (by rw [HVK.out]; kernel_rfl)) ?_
  (try simp only [Act.put, List.setIfInBounds_toArray, List.set_cons_zero, List.set_cons_succ])
  have hbuilt := built_pair t k HK.out
  refine RT.takeV (i := 6) (v := .agg (pairV (t, k))) rfl (by kernel_rfl) (by kernel_rfl) (by kernel_rfl) (by decide) (fun _ _ _ h => h) (by rfl) (fun W hSW => run_build_op 60 _ rfl #[(0, .string (strB t)), (1, .agg (bytesV k))] (by go_simp) (pairV (t, k)) hbuilt) ?_
  (try simp only [Act.put, List.setIfInBounds_toArray, List.set_cons_zero, List.set_cons_succ])
  clear hbuilt
  have hpv := pairV_size (p := (t, k)) HK.out
  have HPV := Lib.hid hpv
  have hfold0 := fold_cells (pairV (t, k)) #[.string ⟨#[]⟩, .int .u8 0, .int .u8 0, .int .u8 0, .int .u8 0, .int .u8 0, .int .u8 0, .int .u8 0, .int .u8 0, .int .u8 0, .int .u8 0, .int .u8 0, .int .u8 0, .int .u8 0, .int .u8 0, .int .u8 0, .int .u8 0, .int .u8 0, .int .u8 0, .int .u8 0, .int .u8 0, .int .u8 0, .int .u8 0, .int .u8 0, .int .u8 0, .int .u8 0, .int .u8 0, .int .u8 0, .int .u8 0, .int .u8 0, .int .u8 0, .int .u8 0, .int .u8 0] (by rw [hpv]; rfl) 33 hpv.symm
  have HFO := Lib.hid hfold0
  clear hpv hfold0
  refine RT.step2 (i := 0) (j := 7) rfl rfl (by kernel_rfl) (by decide) (by decide) (by rfl) (by rfl) (fun wa hlwa hswa K hK => ?_) (fun wa hlwa hswa K hK => ?_)
  · go_simp
    have HOa := Lib.hid (show (wa.alloc (.cells #[] 60)).ownsRow W3.heap.size 60 33 (.slice (some ⟨wa.heap.size, 0, none⟩) 0 0) 0 [] from World.ownsRow_lit (base := W3.heap.size) (e := 60) (size := 33) wa #[] 0 (Below.size hswa) (Nat.zero_le _) (by simp))
    refine hK.out _ _ (RL.Aft.alloc hswa _) ?_
    clear hK
    (try simp only [Act.put, List.setIfInBounds_toArray, List.set_cons_zero, List.set_cons_succ])
    refine RT.step2 (i := 3) (j := 7) rfl rfl (by kernel_rfl) (by decide) (by decide) (by rfl) (by rfl) (fun wb hlwb hswb K hK => ?_) (fun wb hlwb hswb K hK => ?_)
    · have HOb := Lib.hid (ownsBelow HOa.out hlwb)
      have hBwb := Below.size hswb
      have hPS := (HPS.out.below (HB3.out.trans (Below.mono hswb HB3.out.size)))
      refine app_pairs _ _ rfl HOb.out rfl hPS HN.out rfl (by have := hz; omega) (by have := Below.size hswb; exact this) ?_
      intro v3 w3 hv3 hbl3
      have HVb := Lib.hid hv3
      have hAf : RL.Aft W3 w3 := Below.grown hswb hbl3 (Below.size hswb) (fun j hj => (World.ownsRow.lt HOb.out j hj).1)
      refine hK.out _ _ hAf ?_
      clear hK hPS hv3 hAf
      (try simp only [Act.put, List.setIfInBounds_toArray, List.set_cons_zero, List.set_cons_succ])
      refine RT.stepK (i := 7) rfl (by kernel_rfl) (by decide) (by rfl) (fun wc hlwc hswc K hK => ?_)
      have HVc := Lib.hid (ownsBelow HVb.out hlwc)
      have hpv := HPV.out
      have hfold := HFO.out
      go_simp
      clear hpv hfold
      have HRc := Lib.hid (show Rd (wc.alloc (.cells (pairV (t, k)) 60)) (some ⟨wc.heap.size, 0, none⟩) (pairC (t, k)) from fun j x hx => ⟨wc.heap.size, 0, rfl, by simp, by rw [Nat.zero_add]; exact (Rg.Blk.new wc (pairV (t, k)) 60).cell j (by rw [← pairV_toList] at hx; simpa using hx)⟩)
      refine hK.out _ _ (RL.Aft.alloc hswc _) ?_
      clear hK
      (try simp only [Act.put, List.setIfInBounds_toArray, List.set_cons_zero, List.set_cons_succ])
      have HVe := Lib.hid (World.ownsRow.alloc HVc.out (.cells (pairV (t, k)) 60))
      refine RT.stepK (i := 8) rfl (by kernel_rfl) (by decide) (by rfl) (fun wy hlwy hswy K hK => ?_)
      have HOy := Lib.hid (ownsBelow HVe.out hlwy)
      have HRy := Lib.hid (HRc.out.below hlwy)
      refine appN_op _ _ 28 rfl Tryd.underlying28 infoP rfl (by decide) (by decide) HOy.out rfl rfl (show (pairC (t, k)).length = 1 * 33 from pairC_length _ HK.out) HRy.out (fun u hu => pcells_oneCell [(t, k)] u (by rw [pcells_one]; exact hu)) (by have := hz; omega) (Below.size hswy) ?_
      intro v8 w8 hv8 hg8
      have HV8 := Lib.hid hv8
      refine hK.out _ _ (show RL.Aft W3 w8 from Below.grown hswy hg8 (Below.size hswy) (fun j hj => (World.ownsRow.lt HOy.out j hj).1)) ?_
      clear hK hv8 hg8
      (try simp only [Act.put, List.setIfInBounds_toArray, List.set_cons_zero, List.set_cons_succ])
      refine' RT.takeV (i := 9) (v := _) rfl (by kernel_rfl) (by kernel_rfl) (by kernel_rfl) (by decide) (fun _ _ _ h => h) (by rfl) ?hk34 ?_
      case hk34 => (intro W hSW; go_simp; try with_reducible rfl)
      (try simp only [Act.put, List.setIfInBounds_toArray, List.set_cons_zero, List.set_cons_succ])
      refine RT.tail (by kernel_rfl) rfl rfl ?_
      intro wd hlwd hswd
      obtain ⟨g8, c8, rfl, hB8, hl8, hR8⟩ := own_rd HV8.out (fun e => by have := (List.append_eq_nil_iff.1 e).2; unfold pairC at this; cases this)
      clear hR8
      have HB8 := Lib.hid hB8
      have HV8d := Lib.hid (ownsBelow HV8.out hlwd)
      have HXd := Lib.hid (HX3.out.below hswd HX3.out.lt)
      have H6d := Lib.hid (H63.out.below hswd H63.out.lt)
      have HBd := Lib.hid (HB3.out.trans (Below.mono hswd HB3.out.size))
      have hx0 := HXd.out
      clear hlwd hswd
      refine store_slice rfl 28 _ _ rfl (b := w.heap.size) (j := 2) rfl rfl Tryd.underlying28 (by kernel_rfl) HXd.out rfl ?_
      intro U hU hgU
      have HU := Lib.hid (show Rg.Blk U w.heap.size 30 #[.int .i64 (T : Int), .int .i64 (M : Int), .slice (some ⟨g8, 0, none⟩) (n + 1) c8] from hU)
      have HGU := Lib.hid hgU
      have HBU := Lib.hid (HBd.out.grown HGU.out HBd.out.size (fun j hj => by cases hj; exact Nat.le_refl _))
      have H6U := Lib.hid (blk_keptR H6d.out HGU.out (by have := HWY.out; omega))
      have HVU := Lib.hid (World.ownsRow.kept HV8d.out HGU.out (.inr (fun e => by have e := Option.some.inj e; have h1 := HX3.out.lt; have h2 := HB8.out; simp at e; omega)))
      clear hU hgU hx0 hB8 hl8
      go_wp2_with (first
        | (refine Cv.load_cells rfl 30 _ rfl w.heap.size 0 rfl #[.int .i64 (T : Int), .int .i64 (M : Int), .slice (some ⟨g8, 0, none⟩) (n + 1) c8] _ (fun j v hv => by rw [Nat.zero_add]; exact HU.out.cell j hv) Tryd.underlying30 rfl (by kernel_rfl) ?_; skip)
        | (refine Cv.store_blk rfl 30 _ _ rfl b6 #[.int .i64 (T : Int), .int .i64 (M : Int), .slice (some ⟨g8, 0, none⟩) (n + 1) c8] #[.int .i64 0, .int .i64 0, .slice none 0 0] 30 rfl rfl H6U.out (by kernel_rfl) rfl (by simp [Value.oneCell']) ?_; intro V hV hgV; have HV := Lib.hid hV; have HGV := Lib.hid hgV; clear hV hgV))
      have HBV := Lib.hid (HBU.out.grown HGV.out HBU.out.size (fun j hj => by cases hj; exact HW6.out))
      have p0 := HV.out.cell 0 (v := .int .i64 (T : Int)) rfl
      have p1 := HV.out.cell 1 (v := .int .i64 (M : Int)) rfl
      have p2 := HV.out.cell 2 (v := .slice (some ⟨g8, 0, none⟩) (n + 1) c8) rfl
      have hz6 := HV.out.lt
      refine bodyPost_ret (v := .tuple #[.agg #[.int .i64 (T : Int), .int .i64 (M : Int), .slice (some ⟨g8, 0, none⟩) (n + 1) c8], .int .i64 0]) (by simp [results, Tryd.results17, go_sem, p0, p1, p2, hz6]) rfl ?_
      exact ⟨_, rfl, PS.own (n := n + 1) (by rw [pcells_append, pcells_one]; exact World.ownsRow.kept HVU.out HGV.out (.inr (fun e => by have e := Option.some.inj e; have h1 := H63.out.lt; have h2 := HB8.out; simp at e; omega))) (by rw [List.length_append, HN.out]; rfl) HFL.out.2, HBV.out⟩
    · have HOb := Lib.hid (ownsBelow HOa.out hlwb)
      have hpv := HPV.out
      have hfold := HFO.out
      go_simp
      clear hpv hfold
      have HRb := Lib.hid (show Rd (wb.alloc (.cells (pairV (t, k)) 60)) (some ⟨wb.heap.size, 0, none⟩) (pairC (t, k)) from fun j x hx => ⟨wb.heap.size, 0, rfl, by simp, by rw [Nat.zero_add]; exact (Rg.Blk.new wb (pairV (t, k)) 60).cell j (by rw [← pairV_toList] at hx; simpa using hx)⟩)
      refine hK.out _ _ (RL.Aft.alloc hswb _) ?_
      clear hK
      (try simp only [Act.put, List.setIfInBounds_toArray, List.set_cons_zero, List.set_cons_succ])
      have HOb2 := Lib.hid (World.ownsRow.alloc HOb.out (.cells (pairV (t, k)) 60))
      refine RT.stepK (i := 3) rfl (by kernel_rfl) (by decide) (by rfl) (fun wc hlwc hswc K hK => ?_)
      have HOc := Lib.hid (ownsBelow HOb2.out hlwc)
      have HRc := Lib.hid (HRb.out.below hlwc)
      have HNE := Lib.hid (show wb.heap.size ≠ wa.heap.size from by have := Below.size hlwb; simp at this; omega)
      have hBwc := Below.size hswc
      have hPS := (HPS.out.below (HB3.out.trans (Below.mono hswc HB3.out.size)))
      refine app_pairs _ _ rfl HOc.out rfl hPS HN.out rfl (by have := hz; omega) (by have := Below.size hswc; exact this) ?_
      intro v3 w3 hv3 hbl3
      have HVc := Lib.hid hv3
      have hAf : RL.Aft W3 w3 := Below.grown hswc hbl3 (Below.size hswc) (fun j hj => (World.ownsRow.lt HOc.out j hj).1)
      refine hK.out _ _ hAf ?_
      clear hK hPS hv3 hAf
      (try simp only [Act.put, List.setIfInBounds_toArray, List.set_cons_zero, List.set_cons_succ])
      have HRe := Lib.hid (HRkept HRc.out hbl3 (fun e => HNE.out (Option.some.inj e)))
      refine RT.stepK (i := 8) rfl (by kernel_rfl) (by decide) (by rfl) (fun wy hlwy hswy K hK => ?_)
      have HOy := Lib.hid (ownsBelow HVc.out hlwy)
      have HRy := Lib.hid (HRe.out.below hlwy)
      refine appN_op _ _ 28 rfl Tryd.underlying28 infoP rfl (by decide) (by decide) HOy.out rfl rfl (show (pairC (t, k)).length = 1 * 33 from pairC_length _ HK.out) HRy.out (fun u hu => pcells_oneCell [(t, k)] u (by rw [pcells_one]; exact hu)) (by have := hz; omega) (Below.size hswy) ?_
      intro v8 w8 hv8 hg8
      have HV8 := Lib.hid hv8
      refine hK.out _ _ (show RL.Aft W3 w8 from Below.grown hswy hg8 (Below.size hswy) (fun j hj => (World.ownsRow.lt HOy.out j hj).1)) ?_
      clear hK hv8 hg8
      (try simp only [Act.put, List.setIfInBounds_toArray, List.set_cons_zero, List.set_cons_succ])
      refine' RT.takeV (i := 9) (v := _) rfl (by kernel_rfl) (by kernel_rfl) (by kernel_rfl) (by decide) (fun _ _ _ h => h) (by rfl) ?hk35 ?_
      case hk35 => (intro W hSW; go_simp; try with_reducible rfl)
      (try simp only [Act.put, List.setIfInBounds_toArray, List.set_cons_zero, List.set_cons_succ])
      refine RT.tail (by kernel_rfl) rfl rfl ?_
      intro wd hlwd hswd
      obtain ⟨g8, c8, rfl, hB8, hl8, hR8⟩ := own_rd HV8.out (fun e => by have := (List.append_eq_nil_iff.1 e).2; unfold pairC at this; cases this)
      clear hR8
      have HB8 := Lib.hid hB8
      have HV8d := Lib.hid (ownsBelow HV8.out hlwd)
      have HXd := Lib.hid (HX3.out.below hswd HX3.out.lt)
      have H6d := Lib.hid (H63.out.below hswd H63.out.lt)
      have HBd := Lib.hid (HB3.out.trans (Below.mono hswd HB3.out.size))
      have hx0 := HXd.out
      clear hlwd hswd
      refine store_slice rfl 28 _ _ rfl (b := w.heap.size) (j := 2) rfl rfl Tryd.underlying28 (by kernel_rfl) HXd.out rfl ?_
      intro U hU hgU
      have HU := Lib.hid (show Rg.Blk U w.heap.size 30 #[.int .i64 (T : Int), .int .i64 (M : Int), .slice (some ⟨g8, 0, none⟩) (n + 1) c8] from hU)
      have HGU := Lib.hid hgU
      have HBU := Lib.hid (HBd.out.grown HGU.out HBd.out.size (fun j hj => by cases hj; exact Nat.le_refl _))
      have H6U := Lib.hid (blk_keptR H6d.out HGU.out (by have := HWY.out; omega))
      have HVU := Lib.hid (World.ownsRow.kept HV8d.out HGU.out (.inr (fun e => by have e := Option.some.inj e; have h1 := HX3.out.lt; have h2 := HB8.out; simp at e; omega)))
      clear hU hgU hx0 hB8 hl8
      go_wp2_with (first
        | (refine Cv.load_cells rfl 30 _ rfl w.heap.size 0 rfl #[.int .i64 (T : Int), .int .i64 (M : Int), .slice (some ⟨g8, 0, none⟩) (n + 1) c8] _ (fun j v hv => by rw [Nat.zero_add]; exact HU.out.cell j hv) Tryd.underlying30 rfl (by kernel_rfl) ?_; skip)
        | (refine Cv.store_blk rfl 30 _ _ rfl b6 #[.int .i64 (T : Int), .int .i64 (M : Int), .slice (some ⟨g8, 0, none⟩) (n + 1) c8] #[.int .i64 0, .int .i64 0, .slice none 0 0] 30 rfl rfl H6U.out (by kernel_rfl) rfl (by simp [Value.oneCell']) ?_; intro V hV hgV; have HV := Lib.hid hV; have HGV := Lib.hid hgV; clear hV hgV))
      have HBV := Lib.hid (HBU.out.grown HGV.out HBU.out.size (fun j hj => by cases hj; exact HW6.out))
      have p0 := HV.out.cell 0 (v := .int .i64 (T : Int)) rfl
      have p1 := HV.out.cell 1 (v := .int .i64 (M : Int)) rfl
      have p2 := HV.out.cell 2 (v := .slice (some ⟨g8, 0, none⟩) (n + 1) c8) rfl
      have hz6 := HV.out.lt
      refine bodyPost_ret (v := .tuple #[.agg #[.int .i64 (T : Int), .int .i64 (M : Int), .slice (some ⟨g8, 0, none⟩) (n + 1) c8], .int .i64 0]) (by simp [results, Tryd.results17, go_sem, p0, p1, p2, hz6]) rfl ?_
      exact ⟨_, rfl, PS.own (n := n + 1) (by rw [pcells_append, pcells_one]; exact World.ownsRow.kept HVU.out HGV.out (.inr (fun e => by have e := Option.some.inj e; have h1 := H63.out.lt; have h2 := HB8.out; simp at e; omega))) (by rw [List.length_append, HN.out]; rfl) HFL.out.2, HBV.out⟩
  · have hpv := HPV.out
    have hfold := HFO.out
    go_simp
    clear hpv hfold
    have HRa := Lib.hid (show Rd (wa.alloc (.cells (pairV (t, k)) 60)) (some ⟨wa.heap.size, 0, none⟩) (pairC (t, k)) from fun j x hx => ⟨wa.heap.size, 0, rfl, by simp, by rw [Nat.zero_add]; exact (Rg.Blk.new wa (pairV (t, k)) 60).cell j (by rw [← pairV_toList] at hx; simpa using hx)⟩)
    refine hK.out _ _ (RL.Aft.alloc hswa _) ?_
    clear hK
    (try simp only [Act.put, List.setIfInBounds_toArray, List.set_cons_zero, List.set_cons_succ])
    refine RT.stepK (i := 0) rfl (by kernel_rfl) (by decide) (by rfl) (fun wb hlwb hswb K hK => ?_)
    have HRb := Lib.hid (HRa.out.below hlwb)
    go_simp
    have HOb := Lib.hid (show (wb.alloc (.cells #[] 60)).ownsRow W3.heap.size 60 33 (.slice (some ⟨wb.heap.size, 0, none⟩) 0 0) 0 [] from World.ownsRow_lit (base := W3.heap.size) (e := 60) (size := 33) wb #[] 0 (Below.size hswb) (Nat.zero_le _) (by simp))
    refine hK.out _ _ (RL.Aft.alloc hswb _) ?_
    clear hK
    (try simp only [Act.put, List.setIfInBounds_toArray, List.set_cons_zero, List.set_cons_succ])
    have HRb2 := Lib.hid (HRb.out.below ((Below.refl _ _).alloc (Nat.le_refl _) (.cells #[] 60)))
    have HNE := Lib.hid (show wa.heap.size ≠ wb.heap.size from by have := Below.size hlwb; simp at this; omega)
    refine RT.stepK (i := 3) rfl (by kernel_rfl) (by decide) (by rfl) (fun wc hlwc hswc K hK => ?_)
    have HOc := Lib.hid (ownsBelow HOb.out hlwc)
    have HRc := Lib.hid (HRb2.out.below hlwc)
    have hBwc := Below.size hswc
    have hPS := (HPS.out.below (HB3.out.trans (Below.mono hswc HB3.out.size)))
    refine app_pairs _ _ rfl HOc.out rfl hPS HN.out rfl (by have := hz; omega) (by have := Below.size hswc; exact this) ?_
    intro v3 w3 hv3 hbl3
    have HVc := Lib.hid hv3
    have hAf : RL.Aft W3 w3 := Below.grown hswc hbl3 (Below.size hswc) (fun j hj => (World.ownsRow.lt HOc.out j hj).1)
    refine hK.out _ _ hAf ?_
    clear hK hPS hv3 hAf
    (try simp only [Act.put, List.setIfInBounds_toArray, List.set_cons_zero, List.set_cons_succ])
    have HRe := Lib.hid (HRkept HRc.out hbl3 (fun e => HNE.out (Option.some.inj e)))
    refine RT.stepK (i := 8) rfl (by kernel_rfl) (by decide) (by rfl) (fun wy hlwy hswy K hK => ?_)
    have HOy := Lib.hid (ownsBelow HVc.out hlwy)
    have HRy := Lib.hid (HRe.out.below hlwy)
    refine appN_op _ _ 28 rfl Tryd.underlying28 infoP rfl (by decide) (by decide) HOy.out rfl rfl (show (pairC (t, k)).length = 1 * 33 from pairC_length _ HK.out) HRy.out (fun u hu => pcells_oneCell [(t, k)] u (by rw [pcells_one]; exact hu)) (by have := hz; omega) (Below.size hswy) ?_
    intro v8 w8 hv8 hg8
    have HV8 := Lib.hid hv8
    refine hK.out _ _ (show RL.Aft W3 w8 from Below.grown hswy hg8 (Below.size hswy) (fun j hj => (World.ownsRow.lt HOy.out j hj).1)) ?_
    clear hK hv8 hg8
    (try simp only [Act.put, List.setIfInBounds_toArray, List.set_cons_zero, List.set_cons_succ])
    refine' RT.takeV (i := 9) (v := _) rfl (by kernel_rfl) (by kernel_rfl) (by kernel_rfl) (by decide) (fun _ _ _ h => h) (by rfl) ?hk36 ?_
    case hk36 => (intro W hSW; go_simp; try with_reducible rfl)
    (try simp only [Act.put, List.setIfInBounds_toArray, List.set_cons_zero, List.set_cons_succ])
    refine RT.tail (by kernel_rfl) rfl rfl ?_
    intro wd hlwd hswd
    obtain ⟨g8, c8, rfl, hB8, hl8, hR8⟩ := own_rd HV8.out (fun e => by have := (List.append_eq_nil_iff.1 e).2; unfold pairC at this; cases this)
    clear hR8
    have HB8 := Lib.hid hB8
    have HV8d := Lib.hid (ownsBelow HV8.out hlwd)
    have HXd := Lib.hid (HX3.out.below hswd HX3.out.lt)
    have H6d := Lib.hid (H63.out.below hswd H63.out.lt)
    have HBd := Lib.hid (HB3.out.trans (Below.mono hswd HB3.out.size))
    have hx0 := HXd.out
    clear hlwd hswd
    refine store_slice rfl 28 _ _ rfl (b := w.heap.size) (j := 2) rfl rfl Tryd.underlying28 (by kernel_rfl) HXd.out rfl ?_
    intro U hU hgU
    have HU := Lib.hid (show Rg.Blk U w.heap.size 30 #[.int .i64 (T : Int), .int .i64 (M : Int), .slice (some ⟨g8, 0, none⟩) (n + 1) c8] from hU)
    have HGU := Lib.hid hgU
    have HBU := Lib.hid (HBd.out.grown HGU.out HBd.out.size (fun j hj => by cases hj; exact Nat.le_refl _))
    have H6U := Lib.hid (blk_keptR H6d.out HGU.out (by have := HWY.out; omega))
    have HVU := Lib.hid (World.ownsRow.kept HV8d.out HGU.out (.inr (fun e => by have e := Option.some.inj e; have h1 := HX3.out.lt; have h2 := HB8.out; simp at e; omega)))
    clear hU hgU hx0 hB8 hl8
    go_wp2_with (first
      | (refine Cv.load_cells rfl 30 _ rfl w.heap.size 0 rfl #[.int .i64 (T : Int), .int .i64 (M : Int), .slice (some ⟨g8, 0, none⟩) (n + 1) c8] _ (fun j v hv => by rw [Nat.zero_add]; exact HU.out.cell j hv) Tryd.underlying30 rfl (by kernel_rfl) ?_; skip)
      | (refine Cv.store_blk rfl 30 _ _ rfl b6 #[.int .i64 (T : Int), .int .i64 (M : Int), .slice (some ⟨g8, 0, none⟩) (n + 1) c8] #[.int .i64 0, .int .i64 0, .slice none 0 0] 30 rfl rfl H6U.out (by kernel_rfl) rfl (by simp [Value.oneCell']) ?_; intro V hV hgV; have HV := Lib.hid hV; have HGV := Lib.hid hgV; clear hV hgV))
    have HBV := Lib.hid (HBU.out.grown HGV.out HBU.out.size (fun j hj => by cases hj; exact HW6.out))
    have p0 := HV.out.cell 0 (v := .int .i64 (T : Int)) rfl
    have p1 := HV.out.cell 1 (v := .int .i64 (M : Int)) rfl
    have p2 := HV.out.cell 2 (v := .slice (some ⟨g8, 0, none⟩) (n + 1) c8) rfl
    have hz6 := HV.out.lt
    refine bodyPost_ret (v := .tuple #[.agg #[.int .i64 (T : Int), .int .i64 (M : Int), .slice (some ⟨g8, 0, none⟩) (n + 1) c8], .int .i64 0]) (by simp [results, Tryd.results17, go_sem, p0, p1, p2, hz6]) rfl ?_
    exact ⟨_, rfl, PS.own (n := n + 1) (by rw [pcells_append, pcells_one]; exact World.ownsRow.kept HVU.out HGV.out (.inr (fun e => by have e := Option.some.inj e; have h1 := H63.out.lt; have h2 := HB8.out; simp at e; omega))) (by rw [List.length_append, HN.out]; rfl) HFL.out.2, HBV.out⟩
end Go.Proofs.YtgdbplciepiinaaDoor.St
