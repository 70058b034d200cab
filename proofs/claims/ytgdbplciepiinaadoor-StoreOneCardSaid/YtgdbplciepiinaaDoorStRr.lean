/- The reference's Revoke. -/
import Derived.Test.YtgdbplciepiinaaDoorStRa
set_option linter.unusedVariables false
set_option linter.unusedSimpArgs false
namespace Go.Proofs.YtgdbplciepiinaaDoor.St
open Go.RowKit Go.Proofs.YtgdbplciepiinaaDoor.Ow Go.Proofs.YtgdbplciepiinaaDoor.Cv
theorem delP_take {L : List Pr} {k : List UInt8} {j : Nat} {p : Pr} (hp : L[j]? = some p) : delP (L.take (j + 1)) k = if p.2 = k then delP (L.take j) k else delP (L.take j) k ++ [p] := by
  have hj := (List.getElem?_eq_some_iff.1 hp).1
  unfold delP
  rw [List.take_succ_eq_append_getElem hj, (List.getElem?_eq_some_iff.1 hp).2, List.filter_append]
  by_cases h : p.2 = k
  · rw [if_pos h]; simp [h]
  · rw [if_neg h]; simp [h]
set_option maxRecDepth 20000 in
set_option maxHeartbeats 8000000 in
theorem RRevoke_any (w : World) (T M : Int) (v : Value) (L : List Pr) (h : PS w v L) (hz : L.length ≤ 100000) (k : List UInt8) (hk : k.length = 32) :
    Calls Tryd.prog 15 #[.agg #[.int .i64 T, .int .i64 M, v], .agg (bytesV k)] w fun e w' => ∃ v', e = .returned (.agg #[.int .i64 T, .int .i64 M, v']) ∧ PS w' v' (delP L k) ∧ Below w.heap.size w w' := by
  obtain ⟨A, c, rfl, hc, hm, hR, hl⟩ := h
  have HR := Lib.hid hR
  have HL := Lib.hid hl
  have HK := Lib.hid hk
  have HVK := Lib.hid (show (bytesV k).size = 32 by rw [bytesV_size, hk])
  have HQ := Lib.hid (fun (W : World) (x : List UInt8) (hx : x.length = 32) => run_equalIn_bytes (P := Tryd.prog) W 34 5 32 Tryd.underlying34 Tryd.underlying5 infoB x k hx hk)
  generalize hn : L.length = n at *
  have HN := Lib.hid hn
  clear hR hl hk hn
  go_enter Tryd.func15, Tryd.ntmps15
  go_upto_region 1 with (first
    | (refine Rg.box_fresh rfl 34 _ rfl (bytesV k) rfl ?_; intro Y hY hbY hnY; have HY := Lib.hid hY; have HBY := Lib.hid hbY; clear hY hbY hnY)
    | (refine Rg.box_fresh rfl 30 _ rfl #[.int .i64 T, .int .i64 M, .slice A n c] rfl ?_; intro X hX hbX hnX; have HX := Lib.hid hX; have HBX := Lib.hid hbX; clear hX hbX hnX))
  go_upto_region 2 with fail
  refine wp_name3 (fun Z0 hZ0 => ?_)
  have hsz1 : Y.heap.size + 1 = (Y.alloc (.cells #[.int .i64 0, .int .i64 0, .slice none 0 0] 30)).heap.size := by simp
  have HBB := Lib.hid (HBX.out.trans (HBY.out.mono HBX.out.size))
  have HB1 := Lib.hid (show Below w.heap.size w (Y.alloc (.cells #[.int .i64 0, .int .i64 0, .slice none 0 0] 30)) from HBB.out.alloc HBB.out.size _)
  have HXZ0 := Lib.hid (show Rg.Blk Z0 w.heap.size 30 #[.int .i64 T, .int .i64 M, .slice A n c] by rw [hZ0]; exact ((HX.out.below HBY.out HX.out.lt).alloc _).alloc _)
  have HYZ0 := Lib.hid (show Rg.Blk Z0 X.heap.size 34 (bytesV k) by rw [hZ0]; exact (HY.out.alloc _).alloc _)
  have H4Z0 := Lib.hid (show Rg.Blk Z0 Y.heap.size 30 #[.int .i64 0, .int .i64 0, .slice none 0 0] by rw [hZ0]; exact (Rg.Blk.new _ _ _).alloc _)
  have HBZ0 := Lib.hid (show Below w.heap.size w Z0 by rw [hZ0]; exact HB1.out.alloc HB1.out.size _)
  have HO0 := Lib.hid (show Z0.ownsRow (Y.heap.size + 1) 60 33 (.slice (some ⟨Y.heap.size + 1, 0, none⟩) 0 0) 0 [] by rw [hZ0, hsz1]; exact World.ownsRow_lit (base := _) (e := 60) (size := 33) _ #[] 0 (Nat.le_refl _) (Nat.zero_le _) (by simp))
  have HZS := Lib.hid (show Y.heap.size + 1 ≤ Z0.heap.size by rw [hZ0]; simp)
  have HWY := Lib.hid (show w.heap.size < Y.heap.size ∧ X.heap.size < Y.heap.size ∧ w.heap.size < X.heap.size from ⟨Nat.lt_of_lt_of_le HX.out.lt HBY.out.size, HY.out.lt, HX.out.lt⟩)
  clear hZ0 hsz1
  generalize hb4 : Y.heap.size = b4 at *
  have c2 := HXZ0.out.cell 2 (v := .slice A n c) rfl
  go_upto_region 3 with fail
  clear c2
  go_loopw [12, 5] (fun i u wr => ∃ j : Nat, j ≤ n ∧ i = .int .i64 j ∧ wr.ownsRow (b4 + 1) 60 33 u (delP (L.take j) k).length (pcells (delP (L.take j) k)) ∧ Below (b4 + 1) Z0 wr) (fun i _ _ => n - (intOf i).toNat)
  case atStart => exact ⟨0, Nat.zero_le _, rfl, by rw [List.take_zero, show delP [] k = [] from rfl, pcells_nil]; exact HO0.out, Below.refl _ _⟩
  case round =>
    obtain ⟨j, hj, rfl, ho, hb⟩ := hrel
    have HO := Lib.hid ho
    have HW := Lib.hid hb
    have HWZ := Lib.hid (HBZ0.out.trans (Below.mono HW.out (by have := HWY.out; omega)))
    clear ho hb
    by_cases hlt : j < n
    · have hd : decide (j < n) = true := by simp; exact hlt
      have hik : (j : Int) < n := by omega
      have hik0 : (0 : Int) ≤ j := by omega
      obtain ⟨p, hp⟩ : ∃ p, L[j]? = some p := ⟨_, List.getElem?_eq_getElem (by rw [HN.out]; exact hlt)⟩
      have hpl := HL.out p (List.mem_of_getElem? hp)
      have HPL := Lib.hid hpl
      have HDT := Lib.hid (delP_take (k := k) hp)
      have hpp : 0 < (pcells L).length := by rw [pcells_length L HL.out, HN.out]; omega
      obtain ⟨b, o, rfl, hbl, hcell⟩ := HR.out.place hpp
      have HC := Lib.hid (pair_cells HWZ.out hbl HL.out hcell hp)
      have HVP := Lib.hid (pairV_size hpl)
      have HVX := Lib.hid (show (bytesV p.2).size = 32 by rw [bytesV_size, hpl])
      clear hpl hpp hcell hp
      go_upto_region 5 with (first
        | (refine Cv.load_cells rfl 60 _ rfl b (o + j * 33) rfl (pairV p) _ HC.out Tryd.underlying60 rfl (by rw [HVP.out]; kernel_rfl) ?_; skip)
        | (refine Rg.store_fresh rfl 60 _ _ rfl (pairV p) _ 60 rfl rfl (by rw [HVP.out]; kernel_rfl) (by rw [HVP.out]; rfl) (pairV_one _) ?_; intro Z hZ hbZ; have HZ := Lib.hid hZ; have HBZ := Lib.hid hbZ; clear hZ hbZ))
      have HWS := Lib.hid (show b4 + 1 ≤ wr.heap.size from Nat.le_trans HZS.out HW.out.size)
      have HZZ := Lib.hid (HW.out.trans (HBZ.out.mono HWS.out))
      have HOZ := Lib.hid (ownsBelow HO.out HBZ.out)
      have HKZ := Lib.hid (HYZ0.out.below HZZ.out (by have := HWY.out; omega))
      have hq := HQ.out Z p.2 HPL.out
      by_cases he : p.2 = k
      · have hxk : (p.2 == k) = true := by rw [he]; exact beq_self_eq_true k
        rw [hxk] at hq
        have HDE := Lib.hid (show delP (L.take (j + 1)) k = delP (L.take j) k by rw [HDT.out, if_pos he])
        clear he hxk
        go_wp2_with (first
          | (refine Cv.load_cells rfl 34 _ rfl wr.heap.size 1 rfl (bytesV p.2) _ (pairV_bytes HZ.out) Tryd.underlying34 rfl (by rw [HVX.out]; kernel_rfl) ?_; skip)
          | (refine Cv.load_cells rfl 34 _ rfl X.heap.size 0 rfl (bytesV k) _ (Bytes.of_blk HKZ.out).cells Tryd.underlying34 rfl (by rw [HVK.out]; kernel_rfl) ?_; skip))
        go_roundw
        case rel =>
          have HF := show Z.ownsRow (b4 + 1) 60 33 u5 (delP (L.take (j + 1)) k).length (pcells (delP (L.take (j + 1)) k)) by rw [HDE.out]; exact HOZ.out
          first
            | exact ⟨j + 1, by omega, by go_num, HF, HZZ.out⟩
            | ((repeat apply Exists.intro); refine ⟨?_, rfl⟩; exact ⟨j + 1, by omega, by go_num, HF, HZZ.out⟩)
        case measure => (first | (simp [intOf]; done) | (simp [intOf]; omega))
      · have hxk : (p.2 == k) = false := by rw [beq_eq_false_iff_ne]; exact he
        rw [hxk] at hq
        have HDE := Lib.hid (show delP (L.take (j + 1)) k = delP (L.take j) k ++ [p] by rw [HDT.out, if_neg he])
        clear he hxk
        go_upto_region 6 with (first
          | (refine Cv.load_cells rfl 34 _ rfl wr.heap.size 1 rfl (bytesV p.2) _ (pairV_bytes HZ.out) Tryd.underlying34 rfl (by rw [HVX.out]; kernel_rfl) ?_; skip)
          | (refine Cv.load_cells rfl 34 _ rfl X.heap.size 0 rfl (bytesV k) _ (Bytes.of_blk HKZ.out).cells Tryd.underlying34 rfl (by rw [HVK.out]; kernel_rfl) ?_; skip))
        clear hq
        have hsz := HVP.out
        have hfold := fold_cells (pairV p) #[.string ⟨#[]⟩, .int .u8 0, .int .u8 0, .int .u8 0, .int .u8 0, .int .u8 0, .int .u8 0, .int .u8 0, .int .u8 0, .int .u8 0, .int .u8 0, .int .u8 0, .int .u8 0, .int .u8 0, .int .u8 0, .int .u8 0, .int .u8 0, .int .u8 0, .int .u8 0, .int .u8 0, .int .u8 0, .int .u8 0, .int .u8 0, .int .u8 0, .int .u8 0, .int .u8 0, .int .u8 0, .int .u8 0, .int .u8 0, .int .u8 0, .int .u8 0, .int .u8 0, .int .u8 0] (by rw [hsz]; rfl) 33 hsz.symm
        have HOY := Lib.hid (World.ownsRow.alloc HOZ.out (.cells (pairV p) 60))
        have HBY2 := Lib.hid (show Below (b4 + 1) Z0 (Z.alloc (.cells (pairV p) 60)) from HZZ.out.alloc (Nat.le_trans HWS.out HBZ.out.size) _)
        have HRY := Lib.hid (show Rd (Z.alloc (.cells (pairV p) 60)) (some ⟨Z.heap.size, 0, none⟩) (pairC p) from fun j x hx => ⟨Z.heap.size, 0, rfl, by simp, by rw [Nat.zero_add]; exact (Rg.Blk.new Z (pairV p) 60).cell j (by rw [← pairV_toList] at hx; simpa using hx)⟩)
        have HKL := Lib.hid (show (delP (L.take j) k).length ≤ 100000 by unfold delP; have h1 := List.length_filter_le (fun p : Pr => decide (p.2 ≠ k)) (L.take j); rw [List.length_take] at h1; omega)
        have HPR := Lib.hid (HZ.out)
        go_wp2_with (first
          | (refine Cv.load_cells rfl 60 _ rfl wr.heap.size 0 rfl (pairV p) _ (fun j v hv => by rw [Nat.zero_add]; exact HPR.out.cell j hv) Tryd.underlying60 rfl (by rw [HVP.out]; kernel_rfl) ?_; skip)
          | (refine appN rfl _ _ 28 rfl Tryd.underlying28 infoP rfl (by decide) (by decide) HOY.out rfl rfl (show (pairC p).length = 1 * 33 from pairC_length _ HPL.out) HRY.out (fun u hu => pcells_oneCell [p] u (by rw [pcells_one]; exact hu)) (by have := HKL.out; omega) (by have h1 := HWS.out; have h2 := HBZ.out.size; simp; omega) ?_; intro v' w' h2 h3 h4; have H2 := Lib.hid h2; have HBF := Lib.hid (HBY2.out.grown h3 (Nat.le_trans HZS.out HBY2.out.size) (fun k hk => (World.ownsRow.lt HOY.out k hk).1)); clear h2 h3 h4))
        go_roundw
        case rel =>
          have HF := show w'.ownsRow (b4 + 1) 60 33 v' (delP (L.take (j + 1)) k).length (pcells (delP (L.take (j + 1)) k)) by
            rw [HDE.out, List.length_append, pcells_append, pcells_one]; exact H2.out
          first
            | exact ⟨j + 1, by omega, by go_num, HF, HBF.out⟩
            | ((repeat apply Exists.intro); refine ⟨?_, rfl⟩; exact ⟨j + 1, by omega, by go_num, HF, HBF.out⟩)
        case measure => (first | (simp [intOf]; done) | (simp [intOf]; omega))
    · obtain rfl : j = n := by omega
      have hdd : decide (j < j) = false := by simp
      have ho := HO.out
      rw [List.take_of_length_le (by rw [HN.out]; exact Nat.le_refl _)] at ho
      obtain ⟨A2, c2, rfl⟩ := own_slice ho
      generalize hn2 : (delP L k).length = n2 at *
      have HOF := Lib.hid ho
      have HXW := Lib.hid (HXZ0.out.below HW.out (by have := HWY.out; omega))
      have H4W := Lib.hid (H4Z0.out.below HW.out (by omega))
      clear ho
      go_wp2_with (first
        | (refine store_slice rfl 28 _ _ rfl (b := w.heap.size) (j := 2) rfl rfl Tryd.underlying28 (by kernel_rfl) HXW.out rfl ?_; intro U hU hgU; have HU := Lib.hid (show Rg.Blk U w.heap.size 30 #[.int .i64 T, .int .i64 M, .slice A2 n2 c2] from hU); have HGU := Lib.hid hgU; have H4U := Lib.hid (blk_keptR H4W.out hgU (by have := HWY.out; omega)); clear hU hgU)
        | (refine Cv.load_cells rfl 30 _ rfl w.heap.size 0 rfl #[.int .i64 T, .int .i64 M, .slice A2 n2 c2] _ (fun j v hv => by rw [Nat.zero_add]; exact HU.out.cell j hv) Tryd.underlying30 rfl (by kernel_rfl) ?_; skip)
        | (refine Cv.store_blk rfl 30 _ _ rfl b4 #[.int .i64 T, .int .i64 M, .slice A2 n2 c2] #[.int .i64 0, .int .i64 0, .slice none 0 0] 30 rfl rfl H4U.out (by kernel_rfl) rfl (by simp [Value.oneCell']) ?_; intro V hV hgV; have HV := Lib.hid hV; have HGV := Lib.hid hgV; clear hV hgV))
      have p0 := HV.out.cell 0 (v := .int .i64 T) rfl
      have p1 := HV.out.cell 1 (v := .int .i64 M) rfl
      have p2 := HV.out.cell 2 (v := .slice A2 n2 c2) rfl
      have hz6 := HV.out.lt
      have HBV := Lib.hid ((HWZ.out.grown HGU.out HWZ.out.size (fun j hj => by cases hj; exact Nat.le_refl _)).grown HGV.out (Nat.le_trans HWZ.out.size HGU.out.size) (fun j hj => by cases hj; have := HWY.out; omega))
      have hne1 : Value.ownBlock (.slice A2 n2 c2) = none ∨ Value.ownBlock (.slice A2 n2 c2) ≠ some w.heap.size := .inr (fun e => by have := (World.ownsRow.lt HOF.out _ e).1; have := HWY.out; omega)
      have hne2 : Value.ownBlock (.slice A2 n2 c2) = none ∨ Value.ownBlock (.slice A2 n2 c2) ≠ some b4 := .inr (fun e => by have := (World.ownsRow.lt HOF.out _ e).1; omega)
      have HPF := Lib.hid (PS.own (World.ownsRow.kept (World.ownsRow.kept HOF.out HGU.out hne1) HGV.out hne2) hn2 (fun x hx => HL.out x (List.mem_filter.1 hx).1))
      refine bodyPost_ret (v := .agg #[.int .i64 T, .int .i64 M, .slice A2 n2 c2]) (by simp [results, Tryd.results15, go_sem, p0, p1, p2, hz6]) rfl ?_
      exact ⟨_, rfl, HPF.out, HBV.out⟩
end Go.Proofs.YtgdbplciepiinaaDoor.St
