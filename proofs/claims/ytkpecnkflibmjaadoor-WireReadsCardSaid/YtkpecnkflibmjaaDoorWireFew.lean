/- Field.few: the walk. -/
import Derived.Test.YtkpecnkflibmjaaDoorWireRef
set_option linter.unusedVariables false
set_option linter.unusedSimpArgs false
namespace Go.Proofs.YtkpecnkflibmjaaDoor.Wi
open Go.RowKit Go.Proofs.YtkpecnkflibmjaaDoor.Ow Go.Proofs.YtkpecnkflibmjaaDoor.Be Go.Proofs.YtkpecnkflibmjaaDoor.Cl Go.Proofs.YtkpecnkflibmjaaDoor.Cv
variable {P : Program}
theorem store_string {ops : Array Oper} {rest : List Oper} {o : Oper} {a : Act} {w : World} {Q : Exit → Act → World → Prop} (hgd : o.guard = none) (ty : TypeId) (x y : Operand) (ho : o.op = .store ty x y)
    {b j T : Nat} {cs : Array Value} {old : Value} {s : ByteArray} (hx : a.eval x = .pointer (some ⟨b, j, none⟩)) (hy : a.eval y = .string s) (hu : P.underlying ty = some .string) (hi : (P.info? ty).map (·.size) = some 1) (hR : Rg.Blk w b T cs) (hj : cs[j]? = some old)
    (h : ∀ w', Rg.Blk w' b T (cs.setIfInBounds j (.string s)) → w.grownBy w' (some b) → wpList P ops Q rest (a.put o.dst undef) w') : wpList P ops Q (o :: rest) a w :=
  wpList_plain hgd fun _ hK => by
    have hx' := hx
    have hy' := hy
    have hc := hR.cell j hj
    have hf := hR.frozen j
    simp [go_sem] at hx' hy'
    unfold Oper.wp execOp
    cases hq : P.info? ty with
    | none => simp [hq] at hi
    | some i =>
    have hs : i.size = 1 := by simpa [hq] using hi
    simp [ho, hx', hy', go_sem, hc, hf, hu, sizeOf, typeInfo, hq, hs]
    have hB : Rg.Blk (w.setCell ⟨b, j, none⟩ (.string s)) b T (cs.setIfInBounds j (.string s)) := by
      have h2 := hR
      unfold Rg.Blk at *
      rw [heap_setCell_same w b j _ _ _ h2]
    have := hK _ _ (h _ hB (grown_setCell w b j _))
    simpa [go_sem] using this
theorem store_slice {ops : Array Oper} {rest : List Oper} {o : Oper} {a : Act} {w : World} {Q : Exit → Act → World → Prop} (hgd : o.guard = none) (ty : TypeId) (x y : Operand) (ho : o.op = .store ty x y)
    {b j T : Nat} {cs : Array Value} {old : Value} {A : Option Addr} {n c : Nat} {e : TypeId} (hx : a.eval x = .pointer (some ⟨b, j, none⟩)) (hy : a.eval y = .slice A n c) (hu : P.underlying ty = some (.slice e)) (hi : (P.info? ty).map (·.size) = some 1) (hR : Rg.Blk w b T cs) (hj : cs[j]? = some old)
    (h : ∀ w', Rg.Blk w' b T (cs.setIfInBounds j (.slice A n c)) → w.grownBy w' (some b) → wpList P ops Q rest (a.put o.dst undef) w') : wpList P ops Q (o :: rest) a w :=
  wpList_plain hgd fun _ hK => by
    have hx' := hx
    have hy' := hy
    have hc := hR.cell j hj
    have hf := hR.frozen j
    simp [go_sem] at hx' hy'
    unfold Oper.wp execOp
    cases hq : P.info? ty with
    | none => simp [hq] at hi
    | some i =>
    have hs : i.size = 1 := by simpa [hq] using hi
    simp [ho, hx', hy', go_sem, hc, hf, hu, sizeOf, typeInfo, hq, hs]
    have hB : Rg.Blk (w.setCell ⟨b, j, none⟩ (.slice A n c)) b T (cs.setIfInBounds j (.slice A n c)) := by
      have h2 := hR
      unfold Rg.Blk at *
      rw [heap_setCell_same w b j _ _ _ h2]
    have := hK _ _ (h _ hB (grown_setCell w b j _))
    simpa [go_sem] using this
theorem blk_grown {w w' : World} {b g T : Nat} {cs : Array Value} (h : Rg.Blk w b T cs) (hg : w.grownBy w' (some g)) (hn : b ≠ g) : Rg.Blk w' b T cs := by
  unfold Rg.Blk at *
  rw [hg.block b (Array.getElem?_eq_some_iff.1 h).1 (fun e => hn (Option.some.inj e))]; exact h
/-- the slice address A reads as the values xs, in one row of texts from block B on -/
def RdS (w : World) (B : Nat) (A : Option Addr) (xs : List Value) : Prop := ∀ (j : Nat) (x : Value), xs[j]? = some x → ∃ (g : Nat) (cur : Array Value) (fz : Nat × Nat), A = some ⟨g, 0, none⟩ ∧ B ≤ g ∧ w.heap[g]? = some (.cells cur 9 fz) ∧ cur[j]? = some x
theorem RdS.rd {w : World} {B : Nat} {A : Option Addr} {xs : List Value} (h : RdS w B A xs) : Rd w A xs := fun j x hx => by
  obtain ⟨g, cur, fz, hA, _, hg, hc⟩ := h j x hx
  exact ⟨g, 0, hA, (Array.getElem?_eq_some_iff.1 hg).1, by rw [Nat.zero_add]; exact (Lib.cell_of_heap hg j).trans hc⟩
theorem RdS.below {w w' : World} {B : Nat} {A : Option Addr} {xs : List Value} (h : RdS w B A xs) (hb : Below w.heap.size w w') : RdS w' B A xs := fun j x hx => by
  obtain ⟨g, cur, fz, hA, hB, hg, hc⟩ := h j x hx
  exact ⟨g, cur, fz, hA, hB, (hb.block g (Array.getElem?_eq_some_iff.1 hg).1).trans hg, hc⟩
theorem RdS.calm {w w' : World} {B C b : Nat} {A : Option Addr} {xs : List Value} (h : RdS w B A xs) (hb : Bo.Calm C b w w') (hB : b < B) : RdS w' B A xs := fun j x hx => by
  obtain ⟨g, cur, fz, hA, hB', hg, hc⟩ := h j x hx
  exact ⟨g, cur, fz, hA, hB', hb.kept _ _ _ _ hg (by decide) (by omega), hc⟩
theorem RdS.of {w : World} {B C : Nat} {A : Option Addr} {n c : Nat} {xs : List Value} (h : Owns w B 9 (.slice A n c) xs) (hC : C ≤ B) : RdS w C A xs := fun j x hx => by
  rcases h.2 with ⟨_, h0⟩ | ⟨g, cap, cur, hv, hB, hg, _⟩
  · rw [List.eq_nil_of_length_eq_zero h0] at hx; simp at hx
  · have hcell := World.ownsRow.cells h (g := g) (by rw [hv]; rfl) j x hx
    have hadd : (⟨g, 0, none⟩ : Addr).add j = ⟨g, j, none⟩ := by unfold Addr.add; split <;> simp_all
    rw [hadd] at hcell
    injection hv with e1 _ _
    exact ⟨g, cur, _, e1, Nat.le_trans hC hB, hg, (Lib.cell_of_heap hg j).symm.trans hcell⟩
/-- a field's cells -/
def fieldC (kind n : Int) (s : ByteArray) (v : Value) : Array Value := #[.int .i64 kind, .int .u64 n, .string s, v]
/-- the first k texts, cut -/
def cutT (xs : List ByteArray) (k : Nat) : List ByteArray := (xs.take k).map fun x => x.extract 0 70
theorem cutT_succ (xs : List ByteArray) (k : Nat) (x : ByteArray) (h : xs[k]? = some x) : cutT xs (k + 1) = cutT xs k ++ [x.extract 0 70] := by
  unfold cutT
  rw [List.take_add_one, h]
  simp
theorem cutT_length (xs : List ByteArray) (k : Nat) (h : k ≤ xs.length) : (cutT xs k).length = k := by
  unfold cutT; rw [List.length_map, List.length_take]; omega
theorem cutT_short (xs : List ByteArray) (k : Nat) : ∀ x ∈ cutT xs k, x.size ≤ 70 := by
  intro x hx
  unfold cutT at hx
  obtain ⟨y, _, rfl⟩ := List.mem_map.1 hx
  rw [ByteArray.size_extract]; omega
theorem map_push1 (xs : List ByteArray) (s : ByteArray) : xs.map Value.string ++ [.string s] = (xs ++ [s]).map Value.string := by simp
set_option maxRecDepth 20000 in
set_option maxHeartbeats 2000000 in
theorem few_any (w : World) (kind N : Int) (s : ByteArray) (A : Option Addr) (c : Nat) (xs : List ByteArray) (hR : Rd w A (xs.map Value.string)) (hc : xs.length ≤ c) (hm : c ≤ maxLen) :
    Calls Tryd.prog 11 #[.agg (fieldC kind N s (.slice A xs.length c))] w fun e w' => ∃ (A2 : Option Addr) (c2 : Nat) (ys : List ByteArray), e = .returned (.agg (fieldC kind N (s.extract 0 40) (.slice A2 ys.length c2))) ∧ ys.length ≤ 6 ∧ ys.length ≤ c2 ∧ (∀ y ∈ ys, y.size ≤ 70) ∧ RdS w' w.heap.size A2 (ys.map Value.string) ∧ Below w.heap.size w w' := by
  have HR := Lib.hid hR
  obtain ⟨n, hn⟩ : ∃ n, xs.length = n := ⟨_, rfl⟩
  have hnm : n ≤ 9223372036854775807 := by unfold maxLen at hm; omega
  rw [hn]
  have HN := Lib.hid hn
  clear hR hn hm hc
  have tok := True.intro
  obtain ⟨s4, hs4⟩ : ∃ s4, s.extract 0 40 = s4 := ⟨_, rfl⟩
  have HCS := Lib.hid (show ∀ W : World, Calls Tryd.prog 8 #[.string s, .int .i64 40] W fun e w' => e = .returned (.string s4) ∧ W = w' from fun W => hs4 ▸ Cut_any W s 40 (by decide))
  rw [hs4]
  clear hs4
  unfold fieldC
  go_enter Tryd.func11, Tryd.ntmps11
  go_wp2_with (first
    | (refine Rg.box_fresh rfl 35 _ rfl _ rfl ?_
       intro X hX hbX hnX
       have hx2 := hX.cell 2 rfl
       have hlt := hX.lt
       have HX := Lib.hid hX; have HBX := Lib.hid hbX; have HNX := Lib.hid hnX; clear hX hbX hnX)
    | (go_at_call 8; refine (HCS.out _).mono ?_; rintro e w1' ⟨rfl, rfl⟩; skip)
    | (have _t := tok
       refine store_string rfl 9 _ _ rfl rfl rfl Tryd.underlying9 (by kernel_rfl) (HX.out.alloc _) rfl ?_
       intro Y hY hgY
       have HY := Lib.hid (show Rg.Blk Y w.heap.size 35 #[.int .i64 kind, .int .u64 N, .string s4, .slice A n c] from hY)
       have HGY := Lib.hid hgY
       clear hY hgY _t tok hx2))
  have hYZ := HGY.out.block X.heap.size (by simp) (by have := HNX.out; simp; omega)
  rw [heap_alloc_new] at hYZ
  have HYZ := Lib.hid (show Rg.Blk Y X.heap.size 35 _ from hYZ)
  have HBY := Lib.hid (show Below w.heap.size w Y from (HBX.out.alloc HBX.out.size _).grown HGY.out (by have := HBX.out.size; simp; omega) (fun k hk => by cases hk; exact Nat.le_refl _))
  have HXY := Lib.hid (show X.heap.size < Y.heap.size from HYZ.out.lt)
  clear hYZ HX HGY
  go_loopw [3, 4] (fun v i wr => ∃ k : Nat, k ≤ n ∧ k ≤ 6 ∧ i = .int .i64 k ∧ Owns wr Y.heap.size 9 v ((cutT xs k).map Value.string) ∧ Below Y.heap.size Y wr) (fun _ i _ => 10 - (intOf i).toNat)
  case atStart => exact ⟨0, Nat.zero_le _, by decide, rfl, Owns.nil _ _ _, Below.refl _ _⟩
  case round =>
    obtain ⟨k, hk, hk10, rfl, hO, hb⟩ := hrel
    have hll := cutT_length xs k (by rw [HN.out]; exact hk)
    have HLL := Lib.hid hll
    have HO := Lib.hid hO
    have HB := Lib.hid hb
    have HBW := Lib.hid (HBY.out.trans (hb.mono HBY.out.size))
    have hszb := hb.size
    have hltY := HY.out.lt
    have hBK := HY.out.below hb hltY
    have hc3 := hBK.cell 3 rfl
    have HBK := Lib.hid hBK
    have HZ := Lib.hid (HYZ.out.below hb HXY.out)
    clear hO hb hll hBK
    by_cases hgo : k < n ∧ k < 6
    case pos =>
      obtain ⟨hkn, hkt⟩ := hgo
      have hd1 : decide (k < n) = true := by simp; exact hkn
      have hd2 : decide ((k : Int) < 6) = true := by simp; omega
      obtain ⟨b, o, rfl, hbl, hcell⟩ := HR.out.at_ (j := k) (by rw [List.length_map, HN.out]; exact hkn)
      rw [List.getElem_map] at hcell
      have hx : xs[k]? = some (xs[k]'(by rw [HN.out]; exact hkn)) := List.getElem?_eq_getElem _
      generalize xs[k]'(by rw [HN.out]; exact hkn) = x at *
      have HS := Lib.hid (cutT_succ xs k x hx)
      have hcw := (HBW.out.cell (p := ⟨b, o + k, none⟩) hbl).trans hcell
      have HMS := Lib.hid (map_push1 (cutT xs k) (x.extract 0 70))
      have hik : (k : Int) < n := by omega
      clear hx hcell
      go_wp2_with (first
        | (go_at_call 8; refine (Cut_any _ x 70 (by decide)).mono ?_; rintro e w1' ⟨rfl, rfl⟩; skip)
        | (at_builtin; refine app1 rfl _ _ _ rfl Tryd.underlying33 infoStr rfl (by decide) HO.out rfl rfl rfl ?_ hszb ?_
           · rw [List.length_map, HLL.out]; omega
           intro v' w3 hO' hg' _
           rw [HMS.out, ← HS.out] at hO'
           have HO' := Lib.hid hO'
           have HB' := Lib.hid (HB.out.grown hg' hszb (HO.out.ge (Nat.le_refl _)))
           clear hO' hg'))
      go_roundw
      case rel =>
        first
          | exact ⟨k + 1, by omega, by omega, by go_num, HO'.out, HB'.out⟩
          | ((repeat apply Exists.intro); refine ⟨?_, rfl⟩; exact ⟨k + 1, by omega, by omega, by go_num, HO'.out, HB'.out⟩)
      case measure => simp [intOf]; omega
    obtain ⟨A2, c2, rfl, _, hc2⟩ := HO.out.form
    rw [List.length_map] at hc2 ⊢
    have HC2 := Lib.hid hc2
    have HSH := Lib.hid (cutT_short xs k)
    have HK6 := Lib.hid (show (cutT xs k).length ≤ 6 by rw [HLL.out]; exact hk10)
    have HSZ := Lib.hid hszb
    clear hc2 hszb
    have hd : decide (k < n) = true ∧ decide ((k : Int) < 6) = false ∨ decide (k < n) = false := by
      by_cases h1 : k < n
      · left; simp; omega
      · right; simp; omega
    generalize cutT xs k = L at *
    have tk := True.intro
    rcases hd with ⟨hd1, hd2⟩ | hd1
    all_goals
      try have hik : (k : Int) < n := by simp at hd1; omega
      go_wp2_with (first
        | (have _t := tk
           refine store_slice rfl 33 _ _ rfl rfl rfl Tryd.underlying33 (by kernel_rfl) HBK.out rfl ?_
           intro V hV hgV
           have HV := Lib.hid (show Rg.Blk V w.heap.size 35 #[.int .i64 kind, .int .u64 N, .string s4, .slice A2 L.length c2] from hV)
           have HBV := Lib.hid (HBW.out.grown hgV HBW.out.size (fun k hk => by cases hk; exact Nat.le_refl _))
           have HVZ := Lib.hid (blk_grown HZ.out hgV (by have := HNX.out; omega))
           have HGV := Lib.hid hgV
           clear hV hgV _t tk; have tk2 := True.intro)
        | (have _t := tk2
           refine wpList_load_row rfl 35 _ rfl _ rfl _ _ _ _ HV.out Tryd.underlying35 rfl (by kernel_rfl) ?_
           clear _t tk2; have tk3 := True.intro)
        | (have _t := tk3
           go_loud (refine store_blk rfl 35 _ _ rfl X.heap.size #[.int .i64 kind, .int .u64 N, .string s4, .slice A2 L.length c2] _ 35 rfl rfl HVZ.out (by kernel_rfl) rfl (by simp [Value.oneCell']) ?_)
           intro U hU hgU
           have HU := Lib.hid hU
           have HBU := Lib.hid (HBV.out.grown hgU HBV.out.size (fun k hk => by cases hk; exact HBX.out.size))
           have HGU := Lib.hid hgU
           clear hU hgU _t tk3))
      have hge : ∀ g, g < Y.heap.size → ∀ vv : Value, (∀ k, vv.ownBlock = some k → Y.heap.size ≤ k ∧ k < wr.heap.size) → vv.ownBlock = none ∨ vv.ownBlock ≠ some g := by
        intro g hg vv h
        right; intro e
        have := (h g e).1
        omega
      have hOV := HO.out.kept HGV.out (hge _ hltY _ HO.out.lt)
      have hOU := hOV.kept HGU.out (hge _ HXY.out _ HO.out.lt)
      have hRU : RdS U w.heap.size A2 (L.map Value.string) := RdS.of hOU HBY.out.size
      exact bodyPost_ret (v := .agg _)
        (results_cell_row Tryd.results11 _ _ X.heap.size 35 _ (0, 0) _ rfl HU.out Tryd.underlying35 rfl (by kernel_rfl)) rfl
        ⟨A2, c2, L, rfl, HK6.out, HC2.out, HSH.out, hRU, HBU.out⟩
end Go.Proofs.YtkpecnkflibmjaaDoor.Wi
