/- Is: a store is the document's. -/
import Derived.Test.YtgdbplciepiinaaDoorStRr
import Derived.Test.YtgdbplciepiinaaDoorStAwk
import Derived.Test.YtgdbplciepiinaaDoorStRv
set_option linter.unusedVariables false
set_option linter.unusedSimpArgs false
namespace Go.Proofs.YtgdbplciepiinaaDoor.St
open Go.RowKit Go.Proofs.YtgdbplciepiinaaDoor.Ow Go.Proofs.YtgdbplciepiinaaDoor.Cv
/-- an array loaded out of a row, as one operation -/
theorem run_cellsAt {P : Program} {o : Oper} {a : Act} {w : World} (ty : TypeId) (x : Operand) (ho : o.op = .load ty x) (b off : Nat) (hx : a.eval x = .pointer (some ⟨b, off, none⟩)) (cs : Array Value) (hc : ∀ j v, cs[j]? = some v → w.cell? ⟨b, off + j, none⟩ = some v) {d : TypeDesc}
    (hu : P.underlying ty = some d) (hd : (match d with | .struct _ | .array _ _ => true | _ => false) = true) (hi : (P.info? ty).map (·.size) = some cs.size) : (execOp a.eval o).run P w = .ok (.value (.agg cs)) w := by
  unfold execOp
  simp only [ho, hx, Instr.loadAt, Instr.sureAddr, Sem.run_bind, Sem.run_pure, Result.andThen_ok, Cv.run_loadVar_cells w b off ty cs d hc hu hd hi]
theorem valid_63 {t : List UInt8} (h : validB t = true) : t.length ≤ 63 := by
  unfold validB at h
  simp only [Bool.and_eq_true, decide_eq_true_eq] at h
  exact h.1.2
theorem keys_len {L : List Pr} (t : List UInt8) : (keysOf L t).length ≤ L.length := by
  unfold keysOf
  rw [List.length_map]; exact List.length_filter_le _ _
theorem ddup_len : ∀ l : List (List UInt8), (ddup l).length ≤ l.length
  | [] => Nat.le_refl _
  | x :: l => by
    have := ddup_len l
    unfold ddup
    split
    · simp; omega
    · simp; omega
theorem tens_len (L : List Pr) : (tens L).length ≤ L.length := by
  unfold tens
  have := ddup_len (L.map (·.1))
  rw [List.length_map] at this; exact this
theorem keysOf_empty {L : List Pr} (h : Good L) : keysOf L [] = [] := by
  unfold keysOf
  rw [List.filter_eq_nil_iff.2 (fun p hp => ?_)]
  · rfl
  · have := h.val p hp
    intro e
    have e := of_decide_eq_true e
    rw [e] at this
    revert this
    decide
theorem KS.slice {w : World} {v : Value} {l : List (List UInt8)} (h : KS w v l) : ∃ A c, v = .slice A l.length c := by
  obtain ⟨A, c, h1, _⟩ := h
  exact ⟨A, c, h1⟩
/-- the array at j of such a slice -/
theorem KS.cell {w : World} {A : Option Addr} {n c : Nat} {l : List (List UInt8)} (h : KS w (.slice A n c) l) (h0 : 0 < l.length) : ∃ b o, A = some ⟨b, o, none⟩ ∧ b < w.heap.size ∧ ∀ j x, l[j]? = some x → ∀ i v, (bytesV x)[i]? = some v → w.cell? ⟨b, (o + j * 32) + i, none⟩ = some v := by
  obtain ⟨A', c', e, _, _, hR, hl⟩ := h
  injection e with e1
  subst e1
  have hp : 0 < (cells l).length := by rw [cells_length l hl]; omega
  obtain ⟨b, o, rfl, hb, hc⟩ := hR.place hp
  refine ⟨b, o, rfl, hb, fun j x hx i v hv => ?_⟩
  have := hc (j * 32 + i) v (cells_at hl hx i v (by unfold bytesV at hv; rw [List.getElem?_toArray] at hv; exact hv))
  rw [← Nat.add_assoc] at this; exact this
set_option maxRecDepth 20000 in
set_option maxHeartbeats 8000000 in
theorem Is_any (w : World) (sb bo bw T0 M0 N : Nat) (L : List Pr) (h : IsSt w sb bo bw T0 M0 N L) (T M : Int) (v : Value) (hP : PS w v L) (hz : L.length ≤ 1000) :
    Calls Tryd.prog 19 #[.pointer (some ⟨sb, 0, none⟩), .agg #[.int .i64 T, .int .i64 M, v]] w fun e w' => e = .returned (.bool true) ∧ Below w.heap.size w w' := by
  have HTN := Lib.hid (fun W (hW : Below w.heap.size w W) => Tenants_any W sb bo bw T0 M0 N L (h.below hW) (by have := tens_len L; omega))
  have HNM := Lib.hid (fun W (hW : Below w.heap.size w W) => RNames_any W T M v L (hP.below hW) (by omega))
  have HKY := Lib.hid (show ∀ W, Below w.heap.size w W → ∀ t : List UInt8, t.length ≤ 1000 → Calls Tryd.prog 21 #[.pointer (some ⟨sb, 0, none⟩), .string (strB t)] W fun e w' => ∃ v, e = .returned v ∧ KS w' v (keysOf L t) ∧ Below W.heap.size W w' from fun W hW t ht => Keys_any W sb bo bw T0 M0 N L (h.below hW) (strB t) (by show t.toArray.size ≤ _; rw [List.size_toArray]; unfold maxLen; omega) (by have := keys_len (L := L) t; show (keysOf L t).length ≤ _; omega))
  have HOF := Lib.hid (fun W (hW : Below w.heap.size w W) (t : List UInt8) => ROf_any W T M v L (hP.below hW) (by omega) t)
  have HGD := Lib.hid h.2.2.1
  have HKL := Lib.hid (fun t => keys_len (L := L) t)
  have HQ := Lib.hid (fun (W : World) (x : List UInt8) (hx : x.length = 32) => run_equalIn_bytes (P := Tryd.prog) W 34 5 32 Tryd.underlying34 Tryd.underlying5 infoB x x hx hx)
  obtain ⟨A, c, rfl, _⟩ := id hP
  generalize hn : L.length = n at *
  clear h hP
  go_enter Tryd.func19, Tryd.ntmps19
  go_upto_region 1 with (refine Rg.box_fresh rfl 30 _ rfl #[.int .i64 T, .int .i64 M, .slice A n c] rfl ?_; intro X hX hbX hnX; have HX := Lib.hid hX; have HBX := Lib.hid hbX; clear hX hbX hnX)
  go_upto_region 5 with (first
    | (go_at_call 20; refine (HTN.out _ HBX.out).mono ?_; rintro e w1 ⟨v1, rfl, ho, hb⟩; skip; have HB1 := Lib.hid (HBX.out.trans (Below.mono hb HBX.out.size)); have HX1 := Lib.hid (HX.out.below hb HX.out.lt); obtain ⟨A1, c1, rfl, hr1, hc1⟩ := ho.form; rw [List.length_map, namesL_length]; have HR1 := Lib.hid hr1; clear ho hb hr1 hc1)
    | (refine Cv.load_cells rfl 30 _ rfl w.heap.size 0 rfl #[.int .i64 T, .int .i64 M, .slice A n c] _ (fun j v hv => by rw [Nat.zero_add]; exact HX1.out.cell j hv) Tryd.underlying30 rfl (by kernel_rfl) ?_; skip)
    | (go_at_call 29; refine (HNM.out _ HB1.out).mono ?_; rintro e w2 ⟨v2, rfl, ho, hb⟩; skip; have HB2 := Lib.hid (HB1.out.trans (Below.mono hb HB1.out.size)); have HX2 := Lib.hid (HX1.out.below hb HX1.out.lt); obtain ⟨A2, c2, rfl, hr2, hc2⟩ := ho.form; rw [List.length_map, namesL_length]; have HR2 := Lib.hid hr2; have HR1b := Lib.hid (HR1.out.below hb); clear ho hb hr2 hc2))
  have hml : (namesL L).length = (tens L).length := namesL_length L
  have hmn : (tens L).length ≤ n := by have := tens_len L; omega
  generalize hm : (tens L).length = m at *
  have HML := Lib.hid hml
  have HVL := Lib.hid (show ∀ t ∈ namesL L, t.length ≤ 63 from fun t ht => by
    have ht2 : t ∈ tens L := by unfold namesL at ht; exact List.mem_mergeSort.1 ht
    obtain ⟨p, hp, rfl⟩ : ∃ p ∈ L, p.1 = t := by
      unfold tens at ht2
      rw [mem_ddup] at ht2
      simpa using ht2
    exact valid_63 (HGD.out.val p hp))
  generalize hnm : namesL L = nm at *
  clear hml hm hnm
  go_upto_region 6 with fail
  go_loopw [23] (fun i wr => ∃ j : Nat, j ≤ m ∧ i = .int .i64 j ∧ Below w2.heap.size w2 wr) (fun i _ => m - (intOf i).toNat)
  case atStart => exact ⟨0, Nat.zero_le _, rfl, Below.refl _ _⟩
  case round =>
    obtain ⟨j, hj, rfl, hb⟩ := hrel
    have HW := Lib.hid hb
    have HBW := Lib.hid (HB2.out.trans (Below.mono hb HB2.out.size))
    clear hb
    by_cases hlt : j < m
    · have hd : decide (j < m) = true := by simp; exact hlt
      have hik : (j : Int) < m := by omega
      have hik0 : (0 : Int) ≤ j := by omega
      obtain ⟨t, ht⟩ : ∃ t, nm[j]? = some t := ⟨_, List.getElem?_eq_getElem (by rw [HML.out]; exact hlt)⟩
      have HTL := Lib.hid (HVL.out t (List.mem_of_getElem? ht))
      have hp1 : (nm.map encStr)[j]? = some (.string (strB t)) := by rw [List.getElem?_map, ht]; rfl
      obtain ⟨b1, o1, rfl, hl1, hc1⟩ := HR1b.out j _ hp1
      obtain ⟨b2, o2, rfl, hl2, hc2⟩ := HR2.out j _ hp1
      have HC1 := Lib.hid (show ∀ W, Below w2.heap.size w2 W → W.cell? ⟨b1, o1 + j, none⟩ = some (.string (strB t)) from fun W hW => (hW.cell (p := ⟨b1, o1 + j, none⟩) hl1).trans hc1)
      have d2 : wr.cell? ⟨b2, o2 + j, none⟩ = some (.string (strB t)) := (HW.out.cell (p := ⟨b2, o2 + j, none⟩) hl2).trans hc2
      have HXW := Lib.hid (HX2.out.below HW.out HX2.out.lt)
      clear hp1 hc1 hc2 ht
      go_upto_region 8 with fail
      clear d2
      refine RL.start (RL.Aft wr) (by kernel_rfl) (RL.Aft.drew (RL.Aft.refl wr)) ?_
      refine' RL.takeV (i := 0) (v := _) rfl (by kernel_rfl) (by kernel_rfl) (by kernel_rfl) (fun _ _ _ h => h) (by rfl) ?hk1 ?_
      case hk1 => (intro W hSW; go_simp; try with_reducible rfl)
      (try simp only [Act.put, List.setIfInBounds_toArray, List.set_cons_zero, List.set_cons_succ])
      refine' RL.takeV (i := 1) (v := _) rfl (by kernel_rfl) (by kernel_rfl) (by kernel_rfl) (fun _ _ _ h => h) (by rfl) ?hk2 ?_
      case hk2 => (intro W hSW; go_simp; try with_reducible rfl)
      (try simp only [Act.put, List.setIfInBounds_toArray, List.set_cons_zero, List.set_cons_succ])
      refine RL.takeV (i := 3) (v := .agg #[.int .i64 T, .int .i64 M, .slice A n c]) rfl (by kernel_rfl) (by kernel_rfl) (by kernel_rfl) (fun _ _ _ h => h) (by rfl) (fun W hSW => RT.run_row 30 _ rfl _ rfl _ _ (HXW.out.below hSW HXW.out.lt) Tryd.underlying30 rfl (by kernel_rfl)) ?_
      (try simp only [Act.put, List.setIfInBounds_toArray, List.set_cons_zero, List.set_cons_succ])
      refine' RL.takeV (i := 4) (v := _) rfl (by kernel_rfl) (by kernel_rfl) (by kernel_rfl) (fun _ _ _ h => h) (by rfl) ?hk3 ?_
      case hk3 => (intro W hSW; go_simp; try with_reducible rfl)
      (try simp only [Act.put, List.setIfInBounds_toArray, List.set_cons_zero, List.set_cons_succ])
      refine RL.stepK (i := 2) rfl (by kernel_rfl) (by rfl) (fun wa hlwa hswa K hK => ?_)
      have hc := HKY.out wa (HBW.out.trans (Below.mono hswa HBW.out.size)) t (by have := HTL.out; omega)
      go_simp
      refine hc.mono ?_
      rintro e wk ⟨v3, rfl, hk3, hbk⟩
      obtain ⟨A3, c3, rfl⟩ := KS.slice hk3
      have HK3 := Lib.hid (show KS wk (.slice A3 (keysOf L t).length c3) (keysOf L t) from hk3)
      have HLk := Lib.hid (show Below wa.heap.size wa wk from hbk)
      refine hK.out _ _ (RL.Aft.lat hswa hbk) ?_
      clear hK hc hk3 hbk
      (try simp only [Act.put, List.setIfInBounds_toArray, List.set_cons_zero, List.set_cons_succ])
      refine RL.stepK (i := 5) rfl (by kernel_rfl) (by rfl) (fun wb hlwb hswb K hK => ?_)
      have hc := HOF.out wb (HBW.out.trans (Below.mono hswb HBW.out.size)) t
      go_simp
      refine hc.mono ?_
      rintro e wo ⟨v4, rfl, ho4, hbo⟩
      obtain ⟨A4, c4, rfl⟩ := own_slice ho4
      have HK4 := Lib.hid (KS.own ho4 (keysOf_len HGD.out t))
      have HLo := Lib.hid (show Below wb.heap.size wb wo from hbo)
      refine hK.out _ _ (RL.Aft.lat hswb hbo) ?_
      clear hK hc ho4 hbo
      (try simp only [Act.put, List.setIfInBounds_toArray, List.set_cons_zero, List.set_cons_succ])
      refine' RL.takeV (i := 6) (v := _) rfl (by kernel_rfl) (by kernel_rfl) (by kernel_rfl) (fun _ _ _ h => h) (by rfl) ?hk4 ?_
      case hk4 => (intro W hSW; go_simp; try with_reducible rfl)
      (try simp only [Act.put, List.setIfInBounds_toArray, List.set_cons_zero, List.set_cons_succ])
      refine' RL.takeV (i := 7) (v := _) rfl (by kernel_rfl) (by kernel_rfl) (by kernel_rfl) (fun _ _ _ h => h) (by rfl) ?hk5 ?_
      case hk5 => (intro W hSW; go_simp; try with_reducible rfl)
      (try simp only [Act.put, List.setIfInBounds_toArray, List.set_cons_zero, List.set_cons_succ])
      refine RL.done (by kernel_rfl) (fun wd hlwd hswd => ?_)
      have HD3 := Lib.hid (((HK3.out.below hlwb).below HLo.out).below hlwd)
      have HD4 := Lib.hid (HK4.out.below hlwd)
      have HWD := Lib.hid (HW.out.trans (Below.mono hswd HW.out.size))
      clear hlwd hswd
      generalize hkk : keysOf L t = kk at *
      generalize hq : kk.length = q at *
      have HQL := Lib.hid hq
      have HK32 := Lib.hid (show ∀ x ∈ kk, x.length = 32 from by rw [← hkk]; exact keysOf_len HGD.out t)
      have hq1000 : q ≤ 1000 := by have := HKL.out t; rw [hkk, hq] at this; omega
      clear hkk hq
      have d1 := HC1.out wd HWD.out
      have hself : ((strB t).toList == (strB t).toList) = true := beq_self_eq_true _
      go_upto_region 12 with fail
      clear d1 hself
      go_loopw [49] (fun i wr => ∃ k : Nat, k ≤ q ∧ i = .int .i64 k ∧ Below wd.heap.size wd wr) (fun i _ => q - (intOf i).toNat)
      case atStart => exact ⟨0, Nat.zero_le _, rfl, Below.refl _ _⟩
      case round =>
        obtain ⟨k, hk, rfl, hb⟩ := hrel
        have HWI := Lib.hid hb
        clear hb
        by_cases hkq : k < q
        · have hd2 : decide (k < q) = true := by simp; exact hkq
          have hk1 : (k : Int) < q := by omega
          have hk0 : (0 : Int) ≤ k := by omega
          obtain ⟨x, hx⟩ : ∃ x, kk[k]? = some x := ⟨_, List.getElem?_eq_getElem (by rw [HQL.out]; exact hkq)⟩
          have hxl := HK32.out x (List.mem_of_getElem? hx)
          have HVX := Lib.hid (show (bytesV x).size = 32 by rw [bytesV_size, hxl])
          obtain ⟨b3, o3, rfl, hl3, hc3⟩ := HD3.out.cell (by rw [HQL.out]; omega)
          obtain ⟨b4, o4, rfl, hl4, hc4⟩ := HD4.out.cell (by rw [HQL.out]; omega)
          have HC3 := Lib.hid (show ∀ W, Below wd.heap.size wd W → ∀ i v, (bytesV x)[i]? = some v → W.cell? ⟨b3, (o3 + k * 32) + i, none⟩ = some v from fun W hW i v hv => (hW.cell (p := ⟨b3, o3 + k * 32 + i, none⟩) hl3).trans (hc3 k x hx i v hv))
          have HC4 := Lib.hid (show ∀ W, Below wd.heap.size wd W → ∀ i v, (bytesV x)[i]? = some v → W.cell? ⟨b4, (o4 + k * 32) + i, none⟩ = some v from fun W hW i v hv => (hW.cell (p := ⟨b4, o4 + k * 32 + i, none⟩) hl4).trans (hc4 k x hx i v hv))
          have HXE := Lib.hid (fun W => HQ.out W x hxl)
          have hbx : (x == x) = true := beq_self_eq_true x
          rw [hbx] at HXE
          clear hx hxl hc3 hc4 hbx
          go_upto_region 14 with fail
          refine RL.start (RL.Aft wr) (by kernel_rfl) (RL.Aft.drew (RL.Aft.refl wr)) ?_
          refine' RL.takeV (i := 0) (v := _) rfl (by kernel_rfl) (by kernel_rfl) (by kernel_rfl) (fun _ _ _ h => h) (by rfl) ?hk6 ?_
          case hk6 => (intro W hSW; go_simp; try with_reducible rfl)
          (try simp only [Act.put, List.setIfInBounds_toArray, List.set_cons_zero, List.set_cons_succ])
          refine' RL.takeV (i := 1) (v := _) rfl (by kernel_rfl) (by kernel_rfl) (by kernel_rfl) (fun _ _ _ h => h) (by rfl) ?hk7 ?_
          case hk7 => (intro W hSW; go_simp; try with_reducible rfl)
          (try simp only [Act.put, List.setIfInBounds_toArray, List.set_cons_zero, List.set_cons_succ])
          refine' RL.takeV (i := 2) (v := _) rfl (by kernel_rfl) (by kernel_rfl) (by kernel_rfl) (fun _ _ _ h => h) (by rfl) ?hk8 ?_
          case hk8 => (intro W hSW; go_simp; try with_reducible rfl)
          (try simp only [Act.put, List.setIfInBounds_toArray, List.set_cons_zero, List.set_cons_succ])
          refine RL.takeV (i := 3) (v := .agg (bytesV x)) rfl (by kernel_rfl) (by kernel_rfl) (by kernel_rfl) (fun _ _ _ h => h) (by rfl) (fun W hSW => run_cellsAt 34 _ rfl b3 (o3 + k * 32) rfl (bytesV x) (HC3.out W (HWI.out.trans (Below.mono hSW HWI.out.size))) Tryd.underlying34 rfl (by rw [HVX.out]; kernel_rfl)) ?_
          (try simp only [Act.put, List.setIfInBounds_toArray, List.set_cons_zero, List.set_cons_succ])
          refine' RL.takeV (i := 4) (v := _) rfl (by kernel_rfl) (by kernel_rfl) (by kernel_rfl) (fun _ _ _ h => h) (by rfl) ?hk9 ?_
          case hk9 => (intro W hSW; go_simp; try with_reducible rfl)
          (try simp only [Act.put, List.setIfInBounds_toArray, List.set_cons_zero, List.set_cons_succ])
          refine' RL.takeV (i := 5) (v := _) rfl (by kernel_rfl) (by kernel_rfl) (by kernel_rfl) (fun _ _ _ h => h) (by rfl) ?hk10 ?_
          case hk10 => (intro W hSW; go_simp; try with_reducible rfl)
          (try simp only [Act.put, List.setIfInBounds_toArray, List.set_cons_zero, List.set_cons_succ])
          refine' RL.takeV (i := 6) (v := _) rfl (by kernel_rfl) (by kernel_rfl) (by kernel_rfl) (fun _ _ _ h => h) (by rfl) ?hk11 ?_
          case hk11 => (intro W hSW; go_simp; try with_reducible rfl)
          (try simp only [Act.put, List.setIfInBounds_toArray, List.set_cons_zero, List.set_cons_succ])
          refine RL.takeV (i := 7) (v := .agg (bytesV x)) rfl (by kernel_rfl) (by kernel_rfl) (by kernel_rfl) (fun _ _ _ h => h) (by rfl) (fun W hSW => run_cellsAt 34 _ rfl b4 (o4 + k * 32) rfl (bytesV x) (HC4.out W (HWI.out.trans (Below.mono hSW HWI.out.size))) Tryd.underlying34 rfl (by rw [HVX.out]; kernel_rfl)) ?_
          (try simp only [Act.put, List.setIfInBounds_toArray, List.set_cons_zero, List.set_cons_succ])
          refine' RL.takeV (i := 8) (v := _) rfl (by kernel_rfl) (by kernel_rfl) (by kernel_rfl) (fun _ _ _ h => h) (by rfl) ?hk12 ?_
          case hk12 => (intro W hSW; have hxe := HXE.out W; go_simp; try with_reducible rfl)
          (try simp only [Act.put, List.setIfInBounds_toArray, List.set_cons_zero, List.set_cons_succ])
          refine RL.done (by kernel_rfl) (fun we hlwe hswe => ?_)
          have HIE := Lib.hid (HWI.out.trans (Below.mono hswe HWI.out.size))
          clear hlwe hswe
          go_wp2
          go_roundw
          case rel =>
            first
              | exact ⟨k + 1, by omega, by go_num, HIE.out⟩
              | ((repeat apply Exists.intro); refine ⟨?_, rfl⟩; exact ⟨k + 1, by omega, by go_num, HIE.out⟩)
          case measure => (first | (simp [intOf]; done) | (simp [intOf]; omega))
        · obtain rfl : k = q := by omega
          have hd2 : decide (k < k) = false := by simp
          go_wp2
          go_roundw
          case rel =>
            first
              | exact ⟨j + 1, by omega, by go_num, HWD.out.trans (Below.mono HWI.out HWD.out.size)⟩
              | ((repeat apply Exists.intro); refine ⟨?_, rfl⟩; exact ⟨j + 1, by omega, by go_num, HWD.out.trans (Below.mono HWI.out HWD.out.size)⟩)
          case measure => (first | (simp [intOf]; done) | (simp [intOf]; omega))
    · obtain rfl : j = m := by omega
      have hd : decide (j < j) = false := by simp
      have HLast := Lib.hid (show Calls Tryd.prog 21 #[.pointer (some ⟨sb, 0, none⟩), .string ⟨#[]⟩] wr fun e w' => ∃ A' c', e = .returned (.slice A' 0 c') ∧ Below wr.heap.size wr w' from (HKY.out wr HBW.out [] (by decide)).mono fun e w' ⟨v', h1, h2, h3⟩ => by
        obtain ⟨A', c', h4⟩ := KS.slice h2
        rw [keysOf_empty HGD.out] at h4
        exact ⟨A', c', by rw [h1, h4]; rfl, h3⟩)
      go_wp2_with (go_at_call 21; refine HLast.out.mono ?_; rintro e wz ⟨A', c', rfl, hbz⟩; skip; have HBZ := Lib.hid (HBW.out.trans (Below.mono hbz HBW.out.size)); clear hbz)
      go_ret
      exact ⟨by simp, HBZ.out⟩
end Go.Proofs.YtgdbplciepiinaaDoor.St
