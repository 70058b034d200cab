/- The reference's store: pairs in memory; New, Lookup, Of. -/
import Derived.Test.YtgdbplciepiinaaDoorStIdx
import Derived.Test.YtgdbplciepiinaaDoorStNext
import Derived.Deep.Cut
set_option linter.unusedVariables false
set_option linter.unusedSimpArgs false
namespace Go.Proofs.YtgdbplciepiinaaDoor.St
open Go.RowKit Go.Proofs.YtgdbplciepiinaaDoor.Ow Go.Proofs.YtgdbplciepiinaaDoor.Cv
/-- a pair's cells -/
def pairC (p : Pr) : List Value := .string (strB p.1) :: bv p.2
@[irreducible] def pcells (L : List Pr) : List Value := L.flatMap pairC
theorem pcells_nil : pcells [] = [] := by unfold pcells; rfl
theorem pcells_append (a b : List Pr) : pcells (a ++ b) = pcells a ++ pcells b := by unfold pcells; exact List.flatMap_append
theorem pcells_one (x : Pr) : pcells [x] = pairC x := by unfold pcells; simp
theorem pairC_length (p : Pr) (h : p.2.length = 32) : (pairC p).length = 33 := by unfold pairC; rw [List.length_cons, bv_length, h]
theorem pcells_length : ∀ l : List Pr, (∀ x ∈ l, x.2.length = 32) → (pcells l).length = l.length * 33
  | [], _ => by rw [pcells_nil]; rfl
  | x :: l, h => by
    rw [show x :: l = [x] ++ l from rfl, pcells_append, pcells_one, List.length_append, pairC_length x (h x (by simp)), pcells_length l (fun y hy => h y (by simp [hy]))]
    simp; omega
theorem pcells_oneCell (l : List Pr) : ∀ u ∈ pcells l, u.oneCell' = true := by
  unfold pcells
  intro u hu
  obtain ⟨x, _, hx⟩ := List.mem_flatMap.1 hu
  unfold pairC at hx
  rcases List.mem_cons.1 hx with rfl | h
  · rfl
  · exact bv_cells x.2 u h
theorem pcells_at {l : List Pr} (h : ∀ x ∈ l, x.2.length = 32) {j : Nat} {x : Pr} (hx : l[j]? = some x) : ∀ i v, (pairC x)[i]? = some v → (pcells l)[j * 33 + i]? = some v := by
  intro i v hv
  have hj := (List.getElem?_eq_some_iff.1 hx).1
  have e : l = l.take j ++ [x] ++ l.drop (j + 1) := by
    have := List.take_append_drop j l
    rw [List.drop_eq_getElem_cons hj] at this
    rw [← (List.getElem?_eq_some_iff.1 hx).2]
    simp
  have hl : (pcells (l.take j)).length = j * 33 := by
    rw [pcells_length _ (fun y hy => h y (List.mem_of_mem_take hy)), List.length_take, Nat.min_eq_left (by omega)]
  rw [e, pcells_append, pcells_append, pcells_one, List.append_assoc, List.getElem?_append_right (by omega), hl]
  have hi : i < (pairC x).length := (List.getElem?_eq_some_iff.1 hv).1
  rw [show j * 33 + i - j * 33 = i by omega, List.getElem?_append_left hi]
  exact hv
/-- a pair as a value -/
@[irreducible] def pairV (p : Pr) : Array Value := (pairC p).toArray
theorem pairV_toList (p : Pr) : (pairV p).toList = pairC p := by unfold pairV; rfl
theorem pairV_size {p : Pr} (h : p.2.length = 32) : (pairV p).size = 33 := by unfold pairV; rw [List.size_toArray, pairC_length p h]
theorem pairV_one (p : Pr) : (pairV p).all (·.oneCell') = true := by
  unfold pairV pairC
  rw [Array.all_eq_true']
  intro u hu
  rw [List.mem_toArray] at hu
  rcases List.mem_cons.1 hu with rfl | h
  · rfl
  · exact bv_cells p.2 u h
theorem pairV_0 (p : Pr) : (pairV p)[0]? = some (.string (strB p.1)) := by unfold pairV pairC; rfl
theorem pairV_bytes {w : World} {b : Nat} {p : Pr} (h : Rg.Blk w b 60 (pairV p)) : ∀ j v, (bytesV p.2)[j]? = some v → w.cell? ⟨b, 1 + j, none⟩ = some v := fun j v hv => by
  refine h.cell (1 + j) ?_
  unfold pairV pairC
  rw [List.getElem?_toArray, show 1 + j = j + 1 by omega, List.getElem?_cons_succ]
  unfold bytesV at hv
  rw [List.getElem?_toArray] at hv
  exact hv
/-- v is a slice of pairs that reads as L -/
def PS (w : World) (v : Value) (L : List Pr) : Prop := ∃ A c, v = .slice A L.length c ∧ L.length ≤ c ∧ c ≤ maxLen ∧ Rd w A (pcells L) ∧ ∀ x ∈ L, x.2.length = 32
theorem PS.nil (w : World) : PS w (.slice none 0 0) [] := ⟨none, 0, rfl, Nat.le_refl _, Nat.zero_le _, by rw [pcells_nil]; exact Rd.nil _ _, fun x h => by simp at h⟩
theorem PS.below {w w' : World} {v : Value} {l : List Pr} (h : PS w v l) (hb : Below w.heap.size w w') : PS w' v l := by
  obtain ⟨A, c, h1, h2, h3, h4, h5⟩ := h
  exact ⟨A, c, h1, h2, h3, h4.below hb, h5⟩
theorem PS.own {w : World} {B n : Nat} {v : Value} {l : List Pr} (h : w.ownsRow B 60 33 v n (pcells l)) (hn : l.length = n) (hl : ∀ x ∈ l, x.2.length = 32) : PS w v l := by
  have h0 := h
  subst hn
  rcases h0.2 with ⟨hv, hn⟩ | ⟨g, cap, cur, hv, _, hg, hc, hm, _⟩
  · have : l = [] := List.eq_nil_of_length_eq_zero hn
    subst this
    rw [hv]; exact PS.nil w
  · refine ⟨_, cap, hv, hc, hm, fun j x hx => ⟨g, 0, rfl, (Array.getElem?_eq_some_iff.1 hg).1, ?_⟩, hl⟩
    have := World.ownsRow.cells h (g := g) (by rw [hv]; rfl) j x hx
    have hadd : (⟨g, 0, none⟩ : Addr).add j = ⟨g, j, none⟩ := by unfold Addr.add; split <;> simp_all
    rw [hadd] at this
    rw [Nat.zero_add]; exact this
theorem infoP : (Tryd.prog.info? 60).map (fun i => (i.zero, i.size, i.bytes)) = some (some (.agg #[.string ⟨#[]⟩, .int .u8 0, .int .u8 0, .int .u8 0, .int .u8 0, .int .u8 0, .int .u8 0, .int .u8 0, .int .u8 0, .int .u8 0, .int .u8 0, .int .u8 0, .int .u8 0, .int .u8 0, .int .u8 0, .int .u8 0, .int .u8 0, .int .u8 0, .int .u8 0, .int .u8 0, .int .u8 0, .int .u8 0, .int .u8 0, .int .u8 0, .int .u8 0, .int .u8 0, .int .u8 0, .int .u8 0, .int .u8 0, .int .u8 0, .int .u8 0, .int .u8 0, .int .u8 0]), 33, 48) := by kernel_rfl
/-- the cells of the pair at j -/
theorem pair_cells {w wr : World} {b o : Nat} {L : List Pr} (hb : Below w.heap.size w wr) (hbl : b < w.heap.size) (hL : ∀ x ∈ L, x.2.length = 32) (hcell : ∀ j x, (pcells L)[j]? = some x → w.cell? ⟨b, o + j, none⟩ = some x) {j : Nat} {p : Pr} (hp : L[j]? = some p) :
    ∀ i v, (pairV p)[i]? = some v → wr.cell? ⟨b, (o + j * 33) + i, none⟩ = some v := fun i v hv => by
  have := hcell (j * 33 + i) v (pcells_at hL hp i v (by unfold pairV at hv; rw [List.getElem?_toArray] at hv; exact hv))
  rw [← Nat.add_assoc] at this
  exact (hb.cell (p := ⟨b, o + j * 33 + i, none⟩) hbl).trans this
theorem whoOf_hit {L : List Pr} {k : List UInt8} {j : Nat} {p : Pr} (hp : L[j]? = some p) (h : p.2 = k) (hn : ∀ m q, m < j → L[m]? = some q → q.2 ≠ k) : whoOf L k = some p.1 := by
  have hj := (List.getElem?_eq_some_iff.1 hp).1
  have e : L = L.take j ++ p :: L.drop (j + 1) := by
    rw [← (List.getElem?_eq_some_iff.1 hp).2, ← List.drop_eq_getElem_cons hj, List.take_append_drop]
  unfold whoOf
  rw [e, List.find?_append, List.find?_eq_none.2 (fun q hq => ?_), List.find?_cons_of_pos (by simp [h])]
  · rfl
  · obtain ⟨m, hm⟩ := List.mem_iff_getElem?.1 hq
    have hm2 : m < j := by have := (List.getElem?_eq_some_iff.1 hm).1; rw [List.length_take] at this; omega
    rw [List.getElem?_take_of_lt hm2] at hm
    simpa using hn m q hm2 hm
theorem whoOf_miss {L : List Pr} {k : List UInt8} (hn : ∀ (m : Nat) q, L[m]? = some q → q.2 ≠ k) : whoOf L k = none := by
  unfold whoOf
  rw [List.find?_eq_none.2 (fun q hq => ?_)]
  · rfl
  · obtain ⟨m, hm⟩ := List.mem_iff_getElem?.1 hq
    simpa using hn m q hm
theorem keysOf_take {L : List Pr} {t : List UInt8} {j : Nat} {p : Pr} (hp : L[j]? = some p) : keysOf (L.take (j + 1)) t = if p.1 = t then keysOf (L.take j) t ++ [p.2] else keysOf (L.take j) t := by
  have hj := (List.getElem?_eq_some_iff.1 hp).1
  rw [List.take_succ_eq_append_getElem hj, (List.getElem?_eq_some_iff.1 hp).2, show p = (p.1, p.2) from rfl, keysOf_snoc]
theorem strB_toList (t : List UInt8) : (strB t).toList = t := by rw [ByteArray.toList_eq]; rfl
theorem strB_beq (s t : List UInt8) : ((strB s).toList == (strB t).toList) = (s == t) := by rw [strB_toList, strB_toList]
theorem strB_data (s : ByteArray) : strB s.data.toList = s := rfl
set_option maxRecDepth 20000 in
set_option maxHeartbeats 1000000 in
theorem RNew_any (w : World) (a b : Int) : Calls Tryd.prog 11 #[.int .i64 a, .int .i64 b] w fun e w' => e = .returned (.agg #[.int .i64 (clampN a : Int), .int .i64 (clampN b : Int), .slice none 0 0]) ∧ Below w.heap.size w w' := by
  go_enter Tryd.func11, Tryd.ntmps11
  go_wp2
  all_goals
    refine bodyPost_ret (v := .agg #[.int .i64 (clampN a : Int), .int .i64 (clampN b : Int), .slice none 0 0]) (by simp [results, Tryd.results11, go_sem]; unfold clampN; omega) rfl ?_
    exact ⟨rfl, (Below.refl _ _).alloc (Nat.le_refl _) _⟩
set_option maxRecDepth 20000 in
set_option maxHeartbeats 4000000 in
theorem RLookup_any (w : World) (T M : Int) (v : Value) (L : List Pr) (h : PS w v L) (hz : L.length ≤ 1000000) (k : List UInt8) (hk : k.length = 32) :
    Calls Tryd.prog 12 #[.agg #[.int .i64 T, .int .i64 M, v], .agg (bytesV k)] w fun e w' => e = .returned (.string (strB ((whoOf L k).getD []))) ∧ Below w.heap.size w w' := by
  obtain ⟨A, c, rfl, hc, hm, hR, hl⟩ := h
  have HR := Lib.hid hR
  have HL := Lib.hid hl
  have HK := Lib.hid hk
  have HVK := Lib.hid (show (bytesV k).size = 32 by rw [bytesV_size, hk])
  have HQ := Lib.hid (fun (W : World) (x : List UInt8) (hx : x.length = 32) => run_equalIn_bytes (P := Tryd.prog) W 34 5 32 Tryd.underlying34 Tryd.underlying5 infoB x k hx hk)
  generalize hn : L.length = n at *
  have HN := Lib.hid hn
  clear hR hl hk hn
  go_enter Tryd.func12, Tryd.ntmps12
  go_upto_region 1 with (first
    | (refine Rg.box_fresh rfl 34 _ rfl (bytesV k) rfl ?_; intro Y hY hbY hnY; have HY := Lib.hid hY; have HBY := Lib.hid hbY; clear hY hbY hnY)
    | (refine Rg.box_fresh rfl 30 _ rfl #[.int .i64 T, .int .i64 M, .slice A n c] rfl ?_; intro X hX hbX hnX; have HX := Lib.hid hX; have HBX := Lib.hid hbX; have hxn := Lib.hid hnX; clear hX hbX hnX))
  have HXY := Lib.hid (HX.out.below HBY.out HX.out.lt)
  have HBB := Lib.hid (HBX.out.trans (HBY.out.mono HBX.out.size))
  have c2 := HXY.out.cell 2 (v := .slice A n c) rfl
  go_upto_region 2 with fail
  clear c2
  go_loopw [10] (fun i wr => ∃ j : Nat, j ≤ n ∧ i = .int .i64 j ∧ (∀ (m : Nat) q, m < j → L[m]? = some q → q.2 ≠ k) ∧ Below Y.heap.size Y wr) (fun i _ => n - (intOf i).toNat)
  case atStart => exact ⟨0, Nat.zero_le _, rfl, fun m y h => by omega, Below.refl _ _⟩
  case round =>
    obtain ⟨j, hj, rfl, hne, hb⟩ := hrel
    have HNE := Lib.hid hne
    have HW := Lib.hid hb
    clear hne hb
    by_cases hlt : j < n
    · have hd : decide (j < n) = true := by simp; exact hlt
      have hik : (j : Int) < n := by omega
      have hik0 : (0 : Int) ≤ j := by omega
      obtain ⟨p, hp⟩ : ∃ p, L[j]? = some p := ⟨_, List.getElem?_eq_getElem (by rw [HN.out]; exact hlt)⟩
      have HP := Lib.hid hp
      have hpl := HL.out p (List.mem_of_getElem? hp)
      have HPL := Lib.hid hpl
      have hpp : 0 < (pcells L).length := by rw [pcells_length L HL.out, HN.out]; omega
      obtain ⟨b, o, rfl, hbl, hcell⟩ := HR.out.place hpp
      have HC := Lib.hid (pair_cells (HBB.out.trans (HW.out.mono HBB.out.size)) hbl HL.out hcell hp)
      have HVP := Lib.hid (pairV_size hpl)
      have HVX := Lib.hid (show (bytesV p.2).size = 32 by rw [bytesV_size, hpl])
      clear hpl hpp hcell hp
      go_upto_region 4 with (first
        | (refine Cv.load_cells rfl 60 _ rfl b (o + j * 33) rfl (pairV p) _ HC.out Tryd.underlying60 rfl (by rw [HVP.out]; kernel_rfl) ?_; skip)
        | (refine Rg.store_fresh rfl 60 _ _ rfl (pairV p) _ 60 rfl rfl (by rw [HVP.out]; kernel_rfl) (by rw [HVP.out]; rfl) (pairV_one _) ?_; intro Z hZ hbZ; have HZ := Lib.hid hZ; have HBZ := Lib.hid hbZ; clear hZ hbZ))
      have HWZ := Lib.hid (HW.out.trans (HBZ.out.mono HW.out.size))
      have HKZ := Lib.hid (HY.out.below HWZ.out HY.out.lt)
      have hq := HQ.out Z p.2 HPL.out
      have c0 := HZ.out.cell 0 (pairV_0 p)
      by_cases he : p.2 = k
      · have hxk : (p.2 == k) = true := by rw [he]; exact beq_self_eq_true k
        rw [hxk] at hq
        have HI := Lib.hid (show whoOf L k = some p.1 from whoOf_hit HP.out he HNE.out)
        clear he hxk
        go_wp2_with (first
          | (refine Cv.load_cells rfl 34 _ rfl wr.heap.size 1 rfl (bytesV p.2) _ (pairV_bytes HZ.out) Tryd.underlying34 rfl (by rw [HVX.out]; kernel_rfl) ?_; skip)
          | (refine Cv.load_cells rfl 34 _ rfl X.heap.size 0 rfl (bytesV k) _ (Bytes.of_blk HKZ.out).cells Tryd.underlying34 rfl (by rw [HVK.out]; kernel_rfl) ?_; skip))
        go_ret
        exact ⟨by rw [HI.out]; rfl, HBB.out.trans (HWZ.out.mono HBB.out.size)⟩
      · have hxk : (p.2 == k) = false := by rw [beq_eq_false_iff_ne]; exact he
        rw [hxk] at hq
        have HNE2 := Lib.hid (show ∀ (m : Nat) q, m < j + 1 → L[m]? = some q → q.2 ≠ k from fun m q hm hq => by
          by_cases e : m = j
          · subst e; rw [HP.out] at hq; cases hq; exact he
          · exact HNE.out m q (by omega) hq)
        clear he hxk
        go_wp2_with (first
          | (refine Cv.load_cells rfl 34 _ rfl wr.heap.size 1 rfl (bytesV p.2) _ (pairV_bytes HZ.out) Tryd.underlying34 rfl (by rw [HVX.out]; kernel_rfl) ?_; skip)
          | (refine Cv.load_cells rfl 34 _ rfl X.heap.size 0 rfl (bytesV k) _ (Bytes.of_blk HKZ.out).cells Tryd.underlying34 rfl (by rw [HVK.out]; kernel_rfl) ?_; skip))
        go_roundw
        case rel =>
          first
            | exact ⟨j + 1, by omega, by go_num, HNE2.out, HWZ.out⟩
            | ((repeat apply Exists.intro); refine ⟨?_, rfl⟩; exact ⟨j + 1, by omega, by go_num, HNE2.out, HWZ.out⟩)
        case measure => (first | (simp [intOf]; done) | (simp [intOf]; omega))
    · obtain rfl : j = n := by omega
      have hdd : decide (j < j) = false := by simp
      have HI := Lib.hid (show whoOf L k = none from whoOf_miss (fun m q hq => HNE.out m q (by have := (List.getElem?_eq_some_iff.1 hq).1; rw [HN.out] at this; exact this) hq))
      go_wp2
      go_ret
      exact ⟨by rw [HI.out]; rfl, HBB.out.trans (HW.out.mono HBB.out.size)⟩
theorem ownsBelow0 {w w' : World} {B sz n : Nat} {E : TypeId} {v : Value} {xs : List Value} (h : w.ownsRow B E sz v n xs) (hb : Below w.heap.size w w') : w'.ownsRow B E sz v n xs :=
  World.ownsRow.kept h (row := none) ⟨hb.os, hb.tape, hb.output, hb.size, fun k hk _ => hb.block k hk⟩ (by cases hv : v.ownBlock <;> simp)
set_option maxRecDepth 20000 in
set_option maxHeartbeats 4000000 in
theorem ROf_any (w : World) (T M : Int) (v : Value) (L : List Pr) (h : PS w v L) (hz : L.length ≤ 1000000) (t : List UInt8) :
    Calls Tryd.prog 28 #[.agg #[.int .i64 T, .int .i64 M, v], .string (strB t)] w fun e w' => ∃ v', e = .returned v' ∧ w'.ownsRow w.heap.size 34 32 v' (keysOf L t).length (cells (keysOf L t)) ∧ Below w.heap.size w w' := by
  obtain ⟨A, c, rfl, hc, hm, hR, hl⟩ := h
  have HR := Lib.hid hR
  have HL := Lib.hid hl
  generalize hn : L.length = n at *
  have HN := Lib.hid hn
  clear hR hl hn
  go_enter Tryd.func28, Tryd.ntmps28
  go_upto_region 1 with (refine Rg.box_fresh rfl 30 _ rfl #[.int .i64 T, .int .i64 M, .slice A n c] rfl ?_; intro X hX hbX hnX; have HX := Lib.hid hX; have HBX := Lib.hid hbX; clear hX hbX hnX)
  have HO0 := Lib.hid (show (X.alloc (.cells #[] 34)).ownsRow w.heap.size 34 32 (.slice (some ⟨X.heap.size, 0, none⟩) 0 0) 0 [] from World.ownsRow_lit (base := w.heap.size) (e := 34) (size := 32) X #[] 0 HBX.out.size (Nat.zero_le _) (by simp))
  have HXX := Lib.hid (HX.out.below ((Below.refl _ _).alloc (Nat.le_refl _) (.cells #[] 34)) HX.out.lt)
  have HB0 := Lib.hid (show Below w.heap.size w (X.alloc (.cells #[] 34)) from HBX.out.alloc HBX.out.size _)
  have c2 := HXX.out.cell 2 (v := .slice A n c) rfl
  go_upto_region 3 with fail
  clear c2
  go_loopw [12, 5] (fun i u wr => ∃ j : Nat, j ≤ n ∧ i = .int .i64 j ∧ wr.ownsRow w.heap.size 34 32 u (keysOf (L.take j) t).length (cells (keysOf (L.take j) t)) ∧ Below w.heap.size w wr) (fun i _ _ => n - (intOf i).toNat)
  case atStart => exact ⟨0, Nat.zero_le _, rfl, by rw [List.take_zero, show keysOf [] t = [] from rfl, cells_nil]; exact HO0.out, HB0.out⟩
  case round =>
    obtain ⟨j, hj, rfl, ho, hb⟩ := hrel
    have HO := Lib.hid ho
    have HW := Lib.hid hb
    clear ho hb
    by_cases hlt : j < n
    · have hd : decide (j < n) = true := by simp; exact hlt
      have hik : (j : Int) < n := by omega
      have hik0 : (0 : Int) ≤ j := by omega
      obtain ⟨p, hp⟩ : ∃ p, L[j]? = some p := ⟨_, List.getElem?_eq_getElem (by rw [HN.out]; exact hlt)⟩
      have hpl := HL.out p (List.mem_of_getElem? hp)
      have HPL := Lib.hid hpl
      have HKT := Lib.hid (keysOf_take (t := t) hp)
      have hpp : 0 < (pcells L).length := by rw [pcells_length L HL.out, HN.out]; omega
      obtain ⟨b, o, rfl, hbl, hcell⟩ := HR.out.place hpp
      have HC := Lib.hid (pair_cells HW.out hbl HL.out hcell hp)
      have HVP := Lib.hid (pairV_size hpl)
      have HVX := Lib.hid (show (bytesV p.2).size = 32 by rw [bytesV_size, hpl])
      clear hpl hpp hcell hp
      go_upto_region 5 with (first
        | (refine Cv.load_cells rfl 60 _ rfl b (o + j * 33) rfl (pairV p) _ HC.out Tryd.underlying60 rfl (by rw [HVP.out]; kernel_rfl) ?_; skip)
        | (refine Rg.store_fresh rfl 60 _ _ rfl (pairV p) _ 60 rfl rfl (by rw [HVP.out]; kernel_rfl) (by rw [HVP.out]; rfl) (pairV_one _) ?_; intro Z hZ hbZ; have HZ := Lib.hid hZ; have HBZ := Lib.hid hbZ; clear hZ hbZ))
      have HWZ := Lib.hid (HW.out.trans (HBZ.out.mono HW.out.size))
      have HOZ := Lib.hid (ownsBelow0 HO.out HBZ.out)
      have c0 := HZ.out.cell 0 (pairV_0 p)
      by_cases he : p.1 = t
      · have hxk : ((strB p.1).toList == (strB t).toList) = true := by rw [he]; exact beq_self_eq_true _
        have HKE := Lib.hid (show keysOf (L.take (j + 1)) t = keysOf (L.take j) t ++ [p.2] by rw [HKT.out, if_pos he])
        clear he
        go_upto_region 6 with fail
        clear c0 hxk
        have hsz := HVX.out
        have hfold := fold_cells (bytesV p.2) #[.int .u8 0, .int .u8 0, .int .u8 0, .int .u8 0, .int .u8 0, .int .u8 0, .int .u8 0, .int .u8 0, .int .u8 0, .int .u8 0, .int .u8 0, .int .u8 0, .int .u8 0, .int .u8 0, .int .u8 0, .int .u8 0, .int .u8 0, .int .u8 0, .int .u8 0, .int .u8 0, .int .u8 0, .int .u8 0, .int .u8 0, .int .u8 0, .int .u8 0, .int .u8 0, .int .u8 0, .int .u8 0, .int .u8 0, .int .u8 0, .int .u8 0, .int .u8 0] (by rw [hsz]; rfl) 32 hsz.symm
        have HOY := Lib.hid (World.ownsRow.alloc HOZ.out (.cells (bytesV p.2) 34))
        have HBY := Lib.hid (show Below w.heap.size w (Z.alloc (.cells (bytesV p.2) 34)) from HWZ.out.alloc HWZ.out.size _)
        have HRY := Lib.hid (show Rd (Z.alloc (.cells (bytesV p.2) 34)) (some ⟨Z.heap.size, 0, none⟩) (bv p.2) from fun j x hx => ⟨Z.heap.size, 0, rfl, by simp, by rw [Nat.zero_add]; exact (Rg.Blk.new Z (bytesV p.2) 34).cell j (by unfold bytesV; rw [List.getElem?_toArray]; exact hx)⟩)
        have HKL := Lib.hid (show (keysOf (L.take j) t).length ≤ 1000000 by unfold keysOf; rw [List.length_map]; have h1 := List.length_filter_le (fun p : Pr => decide (p.1 = t)) (L.take j); rw [List.length_take] at h1; omega)
        go_wp2_with (first
          | (refine Cv.load_cells rfl 34 _ rfl wr.heap.size 1 rfl (bytesV p.2) _ (pairV_bytes HZ.out) Tryd.underlying34 rfl (by rw [HVX.out]; kernel_rfl) ?_; skip)
          | (refine appN rfl _ _ 50 rfl Tryd.underlying50 infoK rfl (by decide) (by decide) HOY.out rfl rfl (show (bv p.2).length = 1 * 32 by rw [bv_length, HPL.out]) HRY.out (bv_cells _) (by have := HKL.out; omega) (by have := HBY.out.size; exact this) ?_; intro v' w' h2 h3 h4; have H2 := Lib.hid h2; have HBF := Lib.hid (HBY.out.grown h3 HBY.out.size (fun k hk => (World.ownsRow.lt HOY.out k hk).1)); clear h2 h3 h4))
        go_roundw
        case rel =>
          have HF := show w'.ownsRow w.heap.size 34 32 v' (keysOf (L.take (j + 1)) t).length (cells (keysOf (L.take (j + 1)) t)) by
            rw [HKE.out, List.length_append, cells_append, cells_one]; exact H2.out
          first
            | exact ⟨j + 1, by omega, by go_num, HF, HBF.out⟩
            | ((repeat apply Exists.intro); refine ⟨?_, rfl⟩; exact ⟨j + 1, by omega, by go_num, HF, HBF.out⟩)
        case measure => (first | (simp [intOf]; done) | (simp [intOf]; omega))
      · have hxk : ((strB p.1).toList == (strB t).toList) = false := by rw [strB_beq, beq_eq_false_iff_ne]; exact he
        have HKE := Lib.hid (show keysOf (L.take (j + 1)) t = keysOf (L.take j) t by rw [HKT.out, if_neg he])
        clear he
        go_wp2
        go_roundw
        case rel =>
          have HF := show Z.ownsRow w.heap.size 34 32 u5 (keysOf (L.take (j + 1)) t).length (cells (keysOf (L.take (j + 1)) t)) by
            rw [HKE.out]; exact HOZ.out
          first
            | exact ⟨j + 1, by omega, by go_num, HF, HWZ.out⟩
            | ((repeat apply Exists.intro); refine ⟨?_, rfl⟩; exact ⟨j + 1, by omega, by go_num, HF, HWZ.out⟩)
        case measure => (first | (simp [intOf]; done) | (simp [intOf]; omega))
    · obtain rfl : j = n := by omega
      have hdd : decide (j < j) = false := by simp
      go_wp2
      go_ret
      have ho := HO.out
      rw [List.take_of_length_le (by rw [HN.out]; exact Nat.le_refl _)] at ho
      exact ⟨_, rfl, ho, HW.out⟩
end Go.Proofs.YtgdbplciepiinaaDoor.St
