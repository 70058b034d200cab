/- The law StoreOne: the walk. -/
import Derived.Test.YtgdbplciepiinaaDoorStOa
set_option linter.unusedVariables false
set_option linter.unusedSimpArgs false
namespace Go.Proofs.YtgdbplciepiinaaDoor.St
open Go.RowKit Go.Proofs.YtgdbplciepiinaaDoor.Ow Go.Proofs.YtgdbplciepiinaaDoor.Cv Go.Proofs.YtgdbplciepiinaaDoor.Mp Go.Maps
@[irreducible] def key0 (x : UInt8) : List UInt8 := x :: List.replicate 31 0
theorem key0_len (x : UInt8) : (key0 x).length = 32 := by unfold key0; rfl
theorem key0_eq (x : UInt8) : (#[.int .u8 (x.toNat : Int), .int .u8 0, .int .u8 0, .int .u8 0, .int .u8 0, .int .u8 0, .int .u8 0, .int .u8 0, .int .u8 0, .int .u8 0, .int .u8 0, .int .u8 0, .int .u8 0, .int .u8 0, .int .u8 0, .int .u8 0, .int .u8 0, .int .u8 0, .int .u8 0, .int .u8 0, .int .u8 0, .int .u8 0, .int .u8 0, .int .u8 0, .int .u8 0, .int .u8 0, .int .u8 0, .int .u8 0, .int .u8 0, .int .u8 0, .int .u8 0, .int .u8 0] : Array Value) = bytesV (key0 x) := by unfold bytesV key0; rfl
theorem mem_take_succ {l : List (List UInt8)} {k : Nat} {x : List UInt8} (hx : l[k]? = some x) : x ∈ l.take (k + 1) := by
  have hj := (List.getElem?_eq_some_iff.1 hx).1
  rw [List.take_succ_eq_append_getElem hj, (List.getElem?_eq_some_iff.1 hx).2]
  simp
theorem mem_take_mono {l : List (List UInt8)} {k : Nat} {x : List UInt8} (hx : x ∈ l.take k) : x ∈ l.take (k + 1) := by
  have : l.take k = (l.take (k + 1)).take k := by rw [List.take_take]; congr 1; omega
  rw [this] at hx
  exact List.mem_of_mem_take hx
theorem IsSt.only {w w' : World} {sb bo bw T K N b : Nat} {L : List Pr} (h : IsSt w sb bo bw T K N L) (hu : Only w b w') (hm : ∃ es clock, w.heap[b]? = some (.map es clock)) (n0 : sb ≠ b) (n1 : bo ≠ b) (n2 : bw ≠ b) : IsSt w' sb bo bw T K N L := by
  obtain ⟨h1, h2, h3, ⟨f, hf, hfx⟩, ⟨q, s, hq, hqx⟩⟩ := h
  refine ⟨hu.blk h1 n0, h2, h3, ⟨f, hf.keep (hu.block bo hf.lt (by simpa using n1)), ?_⟩, ⟨q, s, hq.keep (hu.block bw hq.lt (by simpa using n2)), hqx⟩⟩
  exact OfSpec.only (show OfSpec w L f from hfx) hu hm
theorem mapEntry_op {P : Program} {o : Oper} {a : Act} {w w1 : World} {Kc : Act → World → Prop} {Q : Exit → Act → World → Prop} (m x : Operand) (t : TypeId) (hop : o.op = .mapEntry t m x) {mv xv v : Value} (hm : a.eval m = mv) (hx : a.eval x = xv) (hrun : (Instr.mapEntry t mv xv).run P w = .ok v w1) (h : Kc (a.put o.dst v) w1) : Oper.wp P o a w Kc Q := by
  unfold Oper.wp
  simp [execOp, hop, hm, hx, hrun, Result.andThen]
  exact h
theorem entryStore_op {P : Program} {ops : Array Oper} {rest : List Oper} {o : Oper} {a : Act} {w w1 : World} {Q : Exit → Act → World → Prop} (hgd : o.guard = none) (m x y : Operand) (t : TypeId) (hop : o.op = .entryStore t m x y) {mv xv yv : Value} (hm : a.eval m = mv) (hx : a.eval x = xv) (hy : a.eval y = yv) (hrun : (Instr.entryStore t mv xv yv).run P w = .ok () w1) (h : wpList P ops Q rest (a.put o.dst undef) w1) : wpList P ops Q (o :: rest) a w :=
  wpList_plain hgd fun _ hK => by
    unfold Oper.wp
    simp [execOp, hop, hm, hx, hy, hrun, Result.andThen]
    exact hK _ _ h
set_option maxRecDepth 20000 in
set_option maxHeartbeats 16000000 in
theorem law_StoreOne (w : World) (A : Option Addr) (c : Nat) (xs : List Ac) (hR : RdAc w A xs) (hc : xs.length ≤ c) (hm : c ≤ maxLen) (a : Nat → Addr) (hE : Ei.ErrsAll w a) :
    Calls Tryd.prog 5 #[.slice A xs.length c] w fun e w' => e = .returned (.bool true) ∧ Below w.heap.size w w' := by
  have HAW := Lib.hid (awake16 w a hE)
  have HNW := Lib.hid (show ∀ W, Calls Tryd.prog 10 #[.int .i64 5, .int .i64 3] W fun e w' => ∃ sb bo bw, e = .returned (.pointer (some ⟨sb, 0, none⟩)) ∧ IsSt w' sb bo bw 5 3 0 [] ∧ Below W.heap.size W w' ∧ W.heap.size ≤ sb ∧ W.heap.size ≤ bo ∧ W.heap.size ≤ bw from fun W => New_any W 5 3)
  have HR := Lib.hid hR
  generalize hn : xs.length = n at *
  have HN := Lib.hid hn
  unfold maxLen at hm
  clear hR hn
  go_enter Tryd.func5, Tryd.ntmps5
  go_upto_region 7 with (first
    | (go_at_call 6; refine HAW.out.mono ?_; rintro e w1 ⟨rfl, hb1⟩; skip; have HB := Lib.hid hb1; clear hb1)
    | (go_at_call 10; refine (HNW.out _).mono ?_; rintro e w2 ⟨sb, bo, bw, rfl, hs, hb2, hsb, hbo, hbw⟩; skip; have HNB := Lib.hid (show w.heap.size ≤ sb ∧ w.heap.size ≤ bo ∧ w.heap.size ≤ bw by have := HB.out.size; exact ⟨by omega, by omega, by omega⟩); have HBx := Lib.hid (HB.out.trans (Below.mono hb2 HB.out.size)); clear HB; have HB := HBx; clear HBx; have HS := Lib.hid hs; clear hs hb2 hsb hbo hbw))
  go_loopw [4] (fun i wr => ∃ (j : Nat) (L : List Pr), j ≤ n ∧ j ≤ 100 ∧ i = .int .i64 j ∧ IsSt wr sb bo bw 5 3 j L ∧ Bnd 5 3 L ∧ L.length ≤ j ∧ Below w.heap.size w wr) (fun i _ => 100 - (intOf i).toNat)
  case atStart => exact ⟨0, [], Nat.zero_le _, Nat.zero_le _, rfl, HS.out, Bnd.nil _ _, Nat.le_refl _, HB.out⟩
  clear HB HS
  case round =>
    obtain ⟨j, L, hjn, hj, rfl, hs, hbn, hl, hb⟩ := hrel
    have HS := Lib.hid hs
    have HBN := Lib.hid hbn
    have HLN := Lib.hid hl
    have HB := Lib.hid hb
    have HGD := Lib.hid hs.2.2.1
    clear hs hbn hl hb
    by_cases h1 : j < n
    · have hd1 : decide (j < n) = true := by simp; exact h1
      by_cases h2 : j < 100
      · have hd2 : decide (j < 100) = true := by simp; exact h2
        have hd2i : decide ((j : Int) < 100) = true := by simp; omega
        have hik : (j : Int) < n := by omega
        have hik0 : (0 : Int) ≤ j := by omega
        obtain ⟨q, hq⟩ : ∃ q, xs[j]? = some q := ⟨_, List.getElem?_eq_getElem (by rw [HN.out]; exact h1)⟩
        obtain ⟨b, o, rfl, hbl, hcell⟩ := HR.out j q hq
        have HC := Lib.hid (show ∀ i v, (actV q)[i]? = some v → wr.cell? ⟨b, (o + j * 3) + i, none⟩ = some v from fun i v hv => (HB.out.cell (p := ⟨b, o + j * 3 + i, none⟩) hbl).trans (hcell i v hv))
        have c1 : wr.cell? ⟨b, o + j * 3 + 1, none⟩ = some (.int .u8 (q.2.1.toNat : Int)) := HC.out 1 _ rfl
        have hu0 : (0 : Int) ≤ q.2.1.toNat := by omega
        have hu1 := q.2.1.toNat_lt
        clear hcell hq
        go_upto_region 10 with (refine Rg.store_fresh rfl 34 _ _ rfl #[.int .u8 (q.2.1.toNat : Int), .int .u8 0, .int .u8 0, .int .u8 0, .int .u8 0, .int .u8 0, .int .u8 0, .int .u8 0, .int .u8 0, .int .u8 0, .int .u8 0, .int .u8 0, .int .u8 0, .int .u8 0, .int .u8 0, .int .u8 0, .int .u8 0, .int .u8 0, .int .u8 0, .int .u8 0, .int .u8 0, .int .u8 0, .int .u8 0, .int .u8 0, .int .u8 0, .int .u8 0, .int .u8 0, .int .u8 0, .int .u8 0, .int .u8 0, .int .u8 0, .int .u8 0] _ 34 rfl rfl (by kernel_rfl) rfl (by simp [Value.oneCell']) ?_; intro U hU hbU; have HKN := Lib.hid (show bo < wr.heap.size ∧ bw < wr.heap.size from ⟨HS.out.ltO, HS.out.ltW⟩); have HC0 := Lib.hid (show U.cell? ⟨b, o + j * 3, none⟩ = some (.int .i64 q.1) from by have h9 := HC.out 0 _ rfl; rw [Nat.add_zero] at h9; exact (hbU.cell (p := ⟨b, o + j * 3, none⟩) (World.block_lt_of_cell? wr _ h9)).trans h9); have HC2 := Lib.hid (show U.cell? ⟨b, o + j * 3 + 2, none⟩ = some (.string q.2.2) from (hbU.cell (p := ⟨b, o + j * 3 + 2, none⟩) (World.block_lt_of_cell? wr _ (HC.out 2 _ rfl))).trans (HC.out 2 _ rfl)); have HSx := Lib.hid (HS.out.below hbU); clear HS; have HS := HSx; clear HSx; have HBx := Lib.hid (HB.out.trans (Below.mono hbU HB.out.size)); clear HB; have HB := HBx; clear HBx; have HK := Lib.hid (show Rg.Blk U wr.heap.size 34 (bytesV (key0 q.2.1)) from (key0_eq q.2.1) ▸ hU); clear hU hbU)
        clear c1 hu0 hu1
        have hkl := key0_len q.2.1
        have HVK := Lib.hid (show (bytesV (key0 q.2.1)).size = 32 by rw [bytesV_size, hkl])
        generalize key0 q.2.1 = key at *
        generalize hbk : wr.heap.size = bk at *
        have c0 := HC0.out
        by_cases hk1 : q.1 = 1
        · rw [hk1] at c0
          cases hw : whoOf L key with
          | some t =>
            have HWH := Lib.hid hw
            have HTN := Lib.hid (show validB t = true from HS.out.2.2.1.val _ (whoOf_mem hw))
            go_wp2_with (first
              | (refine Cv.load_cells rfl 34 _ rfl bk 0 rfl (bytesV key) _ (Cv.Bytes.of_blk HK.out).cells Tryd.underlying34 rfl (by rw [HVK.out]; kernel_rfl) ?_; skip)
              | (go_at_call 14; refine (Revoke_some _ sb bo bw 5 3 j L HS.out key hkl t HWH.out (by omega) (by have := keys_len (L := L) t; have := HLN.out; omega) (by have := valid_63 HTN.out; omega) _ rfl).mono ?_; rintro e w3 ⟨rfl, hs, hu⟩; skip; have HBx := Lib.hid (upd_below HB.out hu (by have := HNB.out; intro x hx; simp at hx; omega) HB.out.size); clear HB; have HB := HBx; clear HBx; clear HS; have HS := Lib.hid hs; clear hs hu))
            have HLL := Lib.hid (show (delP L key).length ≤ j + 1 by have := delP_len L key; have := HLN.out; omega)
            have HBD := Lib.hid (HBN.out.del HGD.out hw)
            go_roundw
            case rel =>
              first
                | exact ⟨j + 1, delP L key, by omega, by omega, by go_num, HS.out, HBD.out, HLL.out, HB.out⟩
                | ((repeat apply Exists.intro); refine ⟨?_, rfl⟩; exact ⟨j + 1, delP L key, by omega, by omega, by go_num, HS.out, HBD.out, HLL.out, HB.out⟩)
            case measure => (first | (simp [intOf]; done) | (simp [intOf]; omega))
          | none =>
            have HWH := Lib.hid hw
            go_wp2_with (first
              | (refine Cv.load_cells rfl 34 _ rfl bk 0 rfl (bytesV key) _ (Cv.Bytes.of_blk HK.out).cells Tryd.underlying34 rfl (by rw [HVK.out]; kernel_rfl) ?_; skip)
              | (go_at_call 14; refine (Revoke_none _ sb bo bw 5 3 j L HS.out key hkl a (hE.below HB.out) HWH.out).mono ?_; rintro e w3 ⟨rfl, hb⟩; skip; have HSx := Lib.hid (HS.out.below hb); clear HS; have HS := HSx; clear HSx; have HBx := Lib.hid (HB.out.trans (Below.mono hb HB.out.size)); clear HB; have HB := HBx; clear HBx; clear hb))
            have HSx := Lib.hid (HS.out.mono (Nat.le_succ j)); clear HS; have HS := HSx; clear HSx
            have HLL := Lib.hid (show L.length ≤ j + 1 by have := HLN.out; omega)
            have HBD := HBN
            go_roundw
            case rel =>
              first
                | exact ⟨j + 1, L, by omega, by omega, by go_num, HS.out, HBD.out, HLL.out, HB.out⟩
                | ((repeat apply Exists.intro); refine ⟨?_, rfl⟩; exact ⟨j + 1, L, by omega, by omega, by go_num, HS.out, HBD.out, HLL.out, HB.out⟩)
            case measure => (first | (simp [intOf]; done) | (simp [intOf]; omega))
        · have hk1b : (q.1 == 1) = false := by rw [beq_eq_false_iff_ne]; exact hk1
          go_upto_region 12 with fail
          clear c0
          obtain ⟨t, ht⟩ : ∃ t, (q.2.2.extract 0 20).data.toList = t := ⟨_, rfl⟩
          have HTL := Lib.hid (show t.length ≤ 20 by rw [← ht, Array.length_toList]; show (q.2.2.extract 0 20).size ≤ 20; rw [ByteArray.size_extract]; omega)
          have HCT := Lib.hid (show ∀ W : World, Calls Tryd.prog 7 #[.string q.2.2, .int .i64 20] W fun e w' => e = .returned (.string (strB t)) ∧ W = w' from fun W => by have := Cut16 W q.2.2 20 (by decide); rw [← ht]; exact this)
          clear ht
          have HADD := Lib.hid (fun W (hS : IsSt W sb bo bw 5 3 j L) (hW : Below w.heap.size w W) => Add_any W sb bo bw 5 3 j L hS t (by have := HTL.out; omega) key hkl a (hE.below hW) (by omega) (by decide))
          have HLL := Lib.hid (show (addL 5 3 L t key).length ≤ j + 1 by have := addL_len 5 3 L t key; have := HLN.out; omega)
          have HBD := Lib.hid (HBN.out.add t key)
          generalize hLN : addL 5 3 L t key = LN at *
          clear hLN
          have HCC := Lib.hid (show ∀ W, Sp.Upd U W [bo, bw] → W.cell? ⟨b, o + j * 3 + 2, none⟩ = some (.string q.2.2) from fun W hW => by
            have h1 := HC2.out
            have hb2 : b < U.heap.size := World.block_lt_of_cell? U _ h1
            unfold World.cell? at h1 ⊢
            have := hW.block b hb2 (by have := HNB.out; simp; omega)
            simp only [this]
            exact h1)
          refine RL.start (fun W => Sp.Upd U W [bo, bw]) (by kernel_rfl) (Sp.Upd.trans (Sp.Upd.refl U [bo, bw]) (Sp.Upd.of_below (Below.drew (Below.refl _ _))) (by simp)) ?_
          refine' RL.takeV (i := 0) (v := _) rfl (by kernel_rfl) (by kernel_rfl) (by kernel_rfl) (fun _ _ _ h => h) (by rfl) ?hk1 ?_
          case hk1 => (intro W hSW; go_simp; try with_reducible rfl)
          (try simp only [Act.put, List.setIfInBounds_toArray, List.set_cons_zero, List.set_cons_succ])
          refine' RL.takeV (i := 1) (v := _) rfl (by kernel_rfl) (by kernel_rfl) (by kernel_rfl) (fun _ _ _ h => h) (by rfl) ?hk2 ?_
          case hk2 => (intro W hSW; go_simp; try with_reducible rfl)
          (try simp only [Act.put, List.setIfInBounds_toArray, List.set_cons_zero, List.set_cons_succ])
          refine' RL.takeV (i := 2) (v := _) rfl (by kernel_rfl) (by kernel_rfl) (by kernel_rfl) (fun _ _ _ h => h) (by rfl) ?hk3 ?_
          case hk3 => (intro W hSW; go_simp; try with_reducible rfl)
          (try simp only [Act.put, List.setIfInBounds_toArray, List.set_cons_zero, List.set_cons_succ])
          refine' RL.takeV (i := 3) (v := _) rfl (by kernel_rfl) (by kernel_rfl) (by kernel_rfl) (fun _ _ _ h => h) (by rfl) ?hk4 ?_
          case hk4 => (intro W hSW; go_simp; try with_reducible rfl)
          (try simp only [Act.put, List.setIfInBounds_toArray, List.set_cons_zero, List.set_cons_succ])
          refine' RL.takeV (i := 4) (v := _) rfl (by kernel_rfl) (by kernel_rfl) (by kernel_rfl) (fun _ _ _ h => h) (by rfl) ?hk5 ?_
          case hk5 => (intro W hSW; go_simp; try with_reducible rfl)
          (try simp only [Act.put, List.setIfInBounds_toArray, List.set_cons_zero, List.set_cons_succ])
          refine' RL.takeV (i := 5) (v := _) rfl (by kernel_rfl) (by kernel_rfl) (by kernel_rfl) (fun _ _ _ h => h) (by rfl) ?hk6 ?_
          case hk6 => (intro W hSW; have cc := HCC.out W hSW; go_simp; try with_reducible rfl)
          (try simp only [Act.put, List.setIfInBounds_toArray, List.set_cons_zero, List.set_cons_succ])
          refine' RL.takeC (i := 6) (v := .string (strB t)) 7 #[.string q.2.2, .int .i64 20] rfl (by kernel_rfl) (by kernel_rfl) (by kernel_rfl) (fun _ _ _ h => h) (by rfl) ?hk7 ?hc7 ?_
          case hk7 => (intro W; go_simp; try with_reducible rfl)
          case hc7 => (intro W hSW; exact (HCT.out W).mono fun e w' h => ⟨h.1, h.2 ▸ RL.Lat.refl _, h.2 ▸ hSW⟩)
          (try simp only [Act.put, List.setIfInBounds_toArray, List.set_cons_zero, List.set_cons_succ])
          refine RL.takeV (i := 7) (v := .agg (bytesV key)) rfl (by kernel_rfl) (by kernel_rfl) (by kernel_rfl) (fun _ _ _ h => h) (by rfl) (fun W hSW => RT.run_row 34 _ rfl _ rfl _ _ (upd_blk HK.out hSW (by have := HKN.out; simp; omega)) Tryd.underlying34 rfl (by rw [HVK.out]; kernel_rfl)) ?_
          (try simp only [Act.put, List.setIfInBounds_toArray, List.set_cons_zero, List.set_cons_succ])
          refine RL.stepK (i := 8) rfl (by kernel_rfl) (by rfl) (fun wa hlwa hswa K hK => ?_)
          have HUa := Lib.hid (show Below U.heap.size U wa from (Below.drew (Below.refl _ _)).trans hlwa)
          have hadd := HADD.out wa (HS.out.below HUa.out) (HB.out.trans (Below.mono HUa.out HB.out.size))
          go_simp
          refine hadd.mono ?_
          rintro e wb ⟨rfl, hs, hu⟩
          have HSb := Lib.hid hs
          have HUb := Lib.hid (show Sp.Upd U wb [bo, bw] from Sp.Upd.trans hswa hu (fun x hx => .inl hx))
          refine hK.out _ _ HUb.out ?_
          clear hK hadd hs hu
          (try simp only [Act.put, List.setIfInBounds_toArray, List.set_cons_zero, List.set_cons_succ])
          refine RL.done (by kernel_rfl) (fun wd hlwd hswd => ?_)
          clear HS
          have HS := Lib.hid (HSb.out.below (show Below wb.heap.size wb wd from hlwd))
          have HBx := Lib.hid (upd_below HB.out hswd (by have := HNB.out; intro x hx; simp at hx; omega) HB.out.size); clear HB; have HB := HBx; clear HBx
          clear hlwd hswd
          go_wp2
          go_roundw
          case rel =>
            first
              | exact ⟨j + 1, LN, by omega, by omega, by go_num, HS.out, HBD.out, HLL.out, HB.out⟩
              | ((repeat apply Exists.intro); refine ⟨?_, rfl⟩; exact ⟨j + 1, LN, by omega, by omega, by go_num, HS.out, HBD.out, HLL.out, HB.out⟩)
          case measure => (first | (simp [intOf]; done) | (simp [intOf]; omega))
      · have hd2 : decide (j < 100) = false := by simp; omega
        have hd2i : decide ((j : Int) < 100) = false := by simp; omega
        have hmm := @run_makeMap Tryd.prog
        go_upto_region 14 with fail
        clear hmm
        refine wp_name3 (fun Z hZ => ?_)
        have HM := Lib.hid (show RMap Tryd.prog Z 34 wr.heap.size 0 (fun _ => none) 0 by rw [hZ]; exact RMap.made wr Tryd.prog 34)
        have hbZ : Below wr.heap.size wr Z := by rw [hZ]; exact (Below.refl _ _).alloc (Nat.le_refl _) _
        have HNN := Lib.hid (show sb ≠ wr.heap.size ∧ bo ≠ wr.heap.size ∧ bw ≠ wr.heap.size ∧ w.heap.size ≤ wr.heap.size from ⟨Nat.ne_of_lt HS.out.1.lt, Nat.ne_of_lt HS.out.ltO, Nat.ne_of_lt HS.out.ltW, HB.out.size⟩)
        have HSx := Lib.hid (HS.out.below hbZ); clear HS; have HS := HSx; clear HSx; have HBx := Lib.hid (HB.out.trans (Below.mono hbZ HB.out.size)); clear HB; have HB := HBx; clear HBx
        clear hZ hbZ
        generalize hbn : wr.heap.size = bn at *
        go_upto_region 15 with (go_at_call 20; refine (Tenants_any _ sb bo bw 5 3 j L HS.out (by have := tens_len L; have := HLN.out; omega)).mono ?_; rintro e W2 ⟨v2, rfl, ho, hb2⟩; skip; have HSx := Lib.hid (HS.out.below hb2); clear HS; have HS := HSx; clear HSx; have HBx := Lib.hid (HB.out.trans (Below.mono hb2 HB.out.size)); clear HB; have HB := HBx; clear HBx; have HMx := Lib.hid (HM.out.below hb2 HM.out.lt); clear HM; have HM := HMx; clear HMx; obtain ⟨A2, c2, rfl, hr2, hc2⟩ := ho.form; rw [List.length_map, namesL_length]; have HR2 := Lib.hid hr2; clear ho hb2 hr2 hc2)
        have HNL := Lib.hid (namesL_length L)
        have HMM := Lib.hid (show (tens L).length ≤ 5 from HBN.out.1)
        generalize hm : (tens L).length = m at *
        clear hm
        go_loopw [57] (fun i wr => ∃ (j2 N s : Nat) (g : Lit → Option Value), j2 ≤ m ∧ i = .int .i64 j2 ∧ RMap Tryd.prog wr 34 bn N g s ∧ N ≤ 3 * j2 ∧ (∀ x, g (.string x) ≠ none → x ∈ ((namesL L).take j2).flatMap (keysOf L)) ∧ Only W2 bn wr) (fun i _ => m - (intOf i).toNat)
        case atStart => exact ⟨0, 0, 0, _, Nat.zero_le _, rfl, HM.out, Nat.zero_le _, fun x h => absurd rfl h, Only.refl _ _⟩
        case round =>
          obtain ⟨j2, N, s, g, hj2, rfl, hrm, hN, hseen, hu⟩ := hrel
          have HRM := Lib.hid hrm
          have HNJ := Lib.hid hN
          have HSN := Lib.hid hseen
          have HU := Lib.hid hu
          have hmap2 := isMap HM.out
          have HSW := Lib.hid (HS.out.only hu hmap2 HNN.out.1 HNN.out.2.1 HNN.out.2.2.1)
          have HRW := Lib.hid (rd_maps HR2.out hu (by intro b hb; simp at hb; subst hb; exact hmap2))
          have HBW := Lib.hid (Only.belowOf HB.out hu HNN.out.2.2.2)
          clear hrm hN hseen hu hmap2
          have hm5 := HMM.out
          by_cases h5 : j2 < m
          · have hd5 : decide (j2 < m) = true := by simp; exact h5
            have hi5 : (j2 : Int) < m := by omega
            have hi6 : (0 : Int) ≤ j2 := by omega
            obtain ⟨t, ht⟩ : ∃ t, (namesL L)[j2]? = some t := ⟨_, List.getElem?_eq_getElem (by rw [HNL.out]; exact h5)⟩
            have HT := Lib.hid ht
            obtain ⟨b2, o2, rfl, hl2, hc2⟩ := HRW.out j2 (.string (strB t)) (by rw [List.getElem?_map, ht]; rfl)
            have htv := namesL_valid HGD.out (List.mem_of_getElem? ht)
            have HTV := Lib.hid htv.1
            have HT63 := Lib.hid (valid_63 htv.1)
            have HVC := Lib.hid (show ∀ W : World, Calls Tryd.prog 8 #[.string (strB t)] W fun e w' => e = .returned (.bool true) ∧ W = w' from fun W => by have := Valid_any W (strB t) (by have := HT63.out; show t.toArray.size ≤ _; rw [List.size_toArray]; omega); rw [show validB (strB t).data.toList = true from HTV.out] at this; exact this)
            have hq1 : 1 ≤ (keysOf L t).length := by
              have := htv.2
              cases he : keysOf L t with
              | nil => exact absurd he this
              | cons _ _ => simp
            have hq3 : (keysOf L t).length ≤ 3 := HBN.out.2 t
            clear ht htv
            generalize hkk : keysOf L t = kk at *
            have HKK := Lib.hid hkk
            generalize hq : kk.length = q1 at *
            have HQL := Lib.hid hq
            have e1 : decide (q1 < 1) = false := by simp; omega
            have e2 : decide ((q1 : Int) < 1) = false := by simp; omega
            have e3 : decide (3 < q1) = false := by simp; omega
            have e4 : decide ((3 : Int) < q1) = false := by simp; omega
            have e5 : ¬ q1 = 0 := by omega
            have HKY := Lib.hid (show Calls Tryd.prog 21 #[.pointer (some ⟨sb, 0, none⟩), .string (strB t)] wr fun e w' => ∃ A3 c3, e = .returned (.slice A3 q1 c3) ∧ KS w' (.slice A3 q1 c3) kk ∧ Below wr.heap.size wr w' from (Keys_any wr sb bo bw 5 3 j L HSW.out (strB t) (by have := HT63.out; show t.toArray.size ≤ _; rw [List.size_toArray]; unfold maxLen; omega) (by show (keysOf L t).length ≤ _; rw [hkk]; omega)).mono fun e w' ⟨v, h1, h2, h3⟩ => by
              have h2' : KS w' v (keysOf L t) := h2
              rw [hkk] at h2'
              obtain ⟨A3, c3, h4⟩ := KS.slice h2'
              rw [hq] at h4
              exact ⟨A3, c3, by rw [h1, h4], by rw [← h4]; exact h2', h3⟩)
            clear hq hkk
            go_upto_region 21 with (first
              | (go_at_call 21; refine HKY.out.mono ?_; rintro e w3 ⟨A3, c3, rfl, hks, hb3⟩; skip; have HK3 := Lib.hid hks; have HU3 := Lib.hid (HU.out.lat hb3); have HRM3 := Lib.hid (HRM.out.below hb3 HRM.out.lt); clear hks hb3)
              | (go_at_call 8; refine (HVC.out _).mono ?_; rintro e w4 ⟨rfl, rfl⟩; skip))
            clear e1 e2 e3 e4 hc2
            go_loopw [79] (fun i wr => ∃ (k N2 s2 : Nat) (g2 : Lit → Option Value), k ≤ q1 ∧ i = .int .i64 k ∧ RMap Tryd.prog wr 34 bn N2 g2 s2 ∧ N2 ≤ 3 * j2 + k ∧ (∀ x, g2 (.string x) ≠ none → x ∈ ((namesL L).take j2).flatMap (keysOf L) ∨ x ∈ kk.take k) ∧ Only w3 bn wr) (fun i _ => q1 - (intOf i).toNat)
            case atStart => exact ⟨0, N, s, g, Nat.zero_le _, rfl, HRM3.out, HNJ.out, fun x h => .inl (HSN.out x h), Only.refl _ _⟩
            case round =>
              obtain ⟨k, N2, s2, g2, hk, rfl, hrm, hN, hseen, hu⟩ := hrel
              have HRM2 := Lib.hid hrm
              have HN2 := Lib.hid hN
              have HSN2 := Lib.hid hseen
              have HUI := Lib.hid hu
              have hmap3 := isMap HRM3.out
              have HU2 := Lib.hid (show Only W2 bn wr from Sp.Upd.trans HU3.out hu (fun x hx => .inl hx))
              have HK4 := Lib.hid ((HK3.out).map (Sp.Upd.grown1 hu) hmap3)
              clear hrm hN hseen hu hmap3
              have HSI := Lib.hid (HS.out.only HU2.out (isMap HM.out) HNN.out.1 HNN.out.2.1 HNN.out.2.2.1)
              by_cases h6 : k < q1
              · have hd6 : decide (k < q1) = true := by simp; exact h6
                have hi7 : (k : Int) < q1 := by omega
                have hi8 : (0 : Int) ≤ k := by omega
                obtain ⟨x, hx⟩ : ∃ x, kk[k]? = some x := ⟨_, List.getElem?_eq_getElem (by rw [HQL.out]; exact h6)⟩
                have hx2 : (keysOf L t)[k]? = some x := by rw [HKK.out]; exact hx
                have hxl := keysOf_len HGD.out t x (List.mem_of_getElem? hx2)
                have HXL := Lib.hid hxl
                have hap := keys_apart HGD.out HT.out hx2
                rw [HKK.out] at hap
                have HFN := Lib.hid (show g2 (.string x) = none by
                  cases he : g2 (.string x) with
                  | none => rfl
                  | some v =>
                    rcases HSN2.out x (by rw [he]; simp) with h | h
                    · exact absurd h hap.1
                    · exact absurd h hap.2)
                have HWX := Lib.hid (whoOf_keys HGD.out (List.mem_of_getElem? hx2))
                have HSN3 := Lib.hid (show ∀ y, upd g2 (.string x) (some (.int .i64 1)) (.string y) ≠ none → y ∈ ((namesL L).take j2).flatMap (keysOf L) ∨ y ∈ kk.take (k + 1) from fun y hy => by
                  by_cases he : y = x
                  · subst he
                    exact .inr (mem_take_succ hx)
                  · rw [upd_other g2 _ (fun e => he (by injection e))] at hy
                    rcases HSN2.out y hy with h | h
                    · exact .inl h
                    · exact .inr (mem_take_mono h))
                have HVX := Lib.hid (show (bytesV x).size = 32 by rw [bytesV_size, hxl])
                obtain ⟨b3, o3, rfl, hl3, hc3⟩ := HK4.out.cell (by rw [HQL.out]; omega)
                have HC3 := Lib.hid (hc3 k x hx)
                clear hx hx2 hxl hap hc3
                go_upto_region 23 with (first
                  | (refine Cv.load_cells rfl 34 _ rfl b3 (o3 + k * 32) rfl (bytesV x) _ HC3.out Tryd.underlying34 rfl (by rw [HVX.out]; kernel_rfl) ?_; skip)
                  | (refine Rg.store_fresh rfl 34 _ _ rfl (bytesV x) _ 34 rfl rfl (by rw [HVX.out]; kernel_rfl) (by rw [HVX.out]; rfl) (bytesV_one _) ?_; intro Y hY hbY; have HY := Lib.hid hY; have HUY := Lib.hid (HU2.out.lat hbY); have HIY := Lib.hid (HUI.out.lat hbY); have HSY := Lib.hid (HSI.out.below hbY); have HMY := Lib.hid (HRM2.out.below hbY HRM2.out.lt); have HNE := Lib.hid (show wr.heap.size ≠ bn from fun e => by have := HRM2.out.lt; omega); clear hY hbY))
                go_upto_region 24 with (first
                  | (refine Cv.load_cells rfl 34 _ rfl wr.heap.size 0 rfl (bytesV x) _ (Cv.Bytes.of_blk HY.out).cells Tryd.underlying34 rfl (by rw [HVX.out]; kernel_rfl) ?_; skip)
                  | (go_at_call 13; refine (Lookup_some _ sb bo bw 5 3 j L HSY.out x HXL.out t HWX.out).mono ?_; rintro e w5 ⟨rfl, hb5⟩; skip; have HY5 := Lib.hid (HY.out.below hb5 HY.out.lt); have HU5 := Lib.hid (HUY.out.lat hb5); have HI5 := Lib.hid (HIY.out.lat hb5); have HM5 := Lib.hid (HMY.out.below hb5 HMY.out.lt); clear hb5))
                generalize wr.heap.size = bk at *
                have hzero : ∀ u : World, (zeroValue 3).run Tryd.prog u = .ok (.int .i64 0) u := fun u => by kernel_rfl
                have HZ0 := Lib.hid hzero
                clear hzero
                refine RT.start (fun W => Only w5 bn W ∧ (Instr.lookup 47 (.map (some bn)) (.agg (bytesV x)) false).run Tryd.prog W = .ok (.int .i64 0) W) 6 1 (by kernel_rfl) (by decide) rfl (by kernel_rfl) (by kernel_rfl) (⟨(Only.refl w5 bn).drew, by have := (HM5.out.below (Below.drew (Below.refl _ _)) HM5.out.lt).look keyed_key Tryd.underlying47 (HZ0.out w5.drew) (key32 x HXL.out); rw [HFN.out] at this; exact this⟩) ?_
                refine' RT.takeV (i := 0) (v := _) rfl (by kernel_rfl) (by kernel_rfl) (by kernel_rfl) (by decide) (fun _ _ _ h => h) (by rfl) ?hk8 ?_
                case hk8 => (intro W hSW; go_simp; try with_reducible rfl)
                (try simp only [Act.put, List.setIfInBounds_toArray, List.set_cons_zero, List.set_cons_succ])
                refine RT.takeV (i := 1) (v := .agg (bytesV x)) rfl (by kernel_rfl) (by kernel_rfl) (by kernel_rfl) (by decide) (fun _ _ _ h => h) (by rfl) (fun W hSW => RT.run_row 34 _ rfl _ rfl _ _ (hSW.1.blk HY5.out HNE.out) Tryd.underlying34 rfl (by rw [HVX.out]; kernel_rfl)) ?_
                (try simp only [Act.put, List.setIfInBounds_toArray, List.set_cons_zero, List.set_cons_succ])
                refine' RT.takeV (i := 2) (v := _) rfl (by kernel_rfl) (by kernel_rfl) (by kernel_rfl) (by decide) (fun _ _ _ h => h) (by rfl) ?hk9 ?_
                case hk9 => (intro W hSW; have hl0 := hSW.2; go_simp; try with_reducible rfl)
                (try simp only [Act.put, List.setIfInBounds_toArray, List.set_cons_zero, List.set_cons_succ])
                refine' RT.takeV (i := 3) (v := _) rfl (by kernel_rfl) (by kernel_rfl) (by kernel_rfl) (by decide) (fun _ _ _ h => h) (by rfl) ?hk10 ?_
                case hk10 => (intro W hSW; go_simp; try with_reducible rfl)
                (try simp only [Act.put, List.setIfInBounds_toArray, List.set_cons_zero, List.set_cons_succ])
                refine RT.stepK (i := 4) rfl (by kernel_rfl) (by decide) (by rfl) (fun wa hlwa hswa K hK => ?_)
                have HUa := Lib.hid (show Below w5.heap.size w5 wa from (Below.drew (Below.refl _ _)).trans hlwa)
                obtain ⟨st, wb, hrun, hrm1, hgr1, hst⟩ := (HM5.out.below HUa.out HM5.out.lt).entry keyed_key Tryd.underlying47 HZ0.out (by have := HN2.out; unfold maxLen; omega) (key32 x HXL.out) HFN.out
                refine mapEntry_op _ _ 47 rfl rfl rfl hrun ?_
                have HM6 := Lib.hid hrm1
                have HST := Lib.hid hst
                have HOb := Lib.hid (show Only w5 bn wb from Only.grown hswa.1 hgr1 (fun i hi => .inl (by cases hi; rfl)))
                refine hK.out _ _ ⟨HOb.out, by have := HM6.out.look keyed_key Tryd.underlying47 (HZ0.out wb) (key32 x HXL.out); rw [upd_same] at this; exact this⟩ ?_
                clear hK hrun hrm1 hgr1 hst
                (try simp only [Act.put, List.setIfInBounds_toArray, List.set_cons_zero, List.set_cons_succ])
                refine' RT.takeV (i := 5) (v := _) rfl (by kernel_rfl) (by kernel_rfl) (by kernel_rfl) (by decide) (fun _ _ _ h => h) (by rfl) ?hk11 ?_
                case hk11 => (intro W hSW; go_simp; try with_reducible rfl)
                (try simp only [Act.put, List.setIfInBounds_toArray, List.set_cons_zero, List.set_cons_succ])
                refine RT.tail (by kernel_rfl) rfl rfl ?_
                intro wd hlwd hswd
                obtain ⟨V, hrun, hrm, hgr⟩ := HST.out wd (.int .i64 1) (show wd.heap[bn]? = wb.heap[bn]? from Below.block (show Below wb.heap.size wb wd from hlwd) bn HM6.out.lt)
                have HM7 := Lib.hid hrm
                have HO7 := Lib.hid (show Only w5 bn V from Only.grown hswd.1 hgr (fun i hi => .inl (by cases hi; rfl)))
                have HY7 := Lib.hid (HO7.out.blk HY5.out HNE.out)
                have HI7 := Lib.hid (show Only w3 bn V from Sp.Upd.trans HI5.out HO7.out (fun x hx => .inl hx))
                refine entryStore_op rfl _ _ _ 47 rfl rfl rfl rfl hrun ?_
                clear hlwd hswd hrun hrm hgr hlwa hswa
                have hself : ((strB t).toList == (strB t).toList) = true := beq_self_eq_true _
                have hlk := HM7.out.look keyed_key Tryd.underlying47 (HZ0.out V) (key32 x HXL.out)
                rw [upd_same, Option.getD_some] at hlk
                have hlkN := fun n => (HM7.out.below (bdN (Below.refl V.heap.size V) n) HM7.out.lt).look keyed_key Tryd.underlying47 (HZ0.out (V.drewN n)) (key32 x HXL.out)
                simp only [upd_same, Option.getD_some] at hlkN
                go_wp2_with (refine Cv.load_cells rfl 34 _ rfl bk 0 rfl (bytesV x) _ (Cv.Bytes.of_blk HY7.out).cells Tryd.underlying34 rfl (by rw [HVX.out]; kernel_rfl) ?_; skip)
                go_roundw
                case rel =>
                  first
                    | exact ⟨k + 1, N2 + 1, s2 + 1, _, by omega, by go_num, HM7.out, by have := HN2.out; omega, HSN3.out, HI7.out⟩
                    | ((repeat apply Exists.intro); refine ⟨?_, rfl⟩; exact ⟨k + 1, N2 + 1, s2 + 1, _, by omega, by go_num, HM7.out, by have := HN2.out; omega, HSN3.out, HI7.out⟩)
                case measure => (first | (simp [intOf]; done) | (simp [intOf]; omega))
              · obtain rfl : k = q1 := by omega
                have hd6 : decide (k < k) = false := by simp
                have HSE := Lib.hid (show ∀ x, g2 (.string x) ≠ none → x ∈ ((namesL L).take (j2 + 1)).flatMap (keysOf L) from fun x hx => by
                  have hj3 := (List.getElem?_eq_some_iff.1 HT.out).1
                  rw [List.take_succ_eq_append_getElem hj3, (List.getElem?_eq_some_iff.1 HT.out).2, List.flatMap_append, List.mem_append]
                  rcases HSN2.out x hx with h | h
                  · exact .inl h
                  · refine .inr ?_
                    rw [List.flatMap_cons, List.flatMap_nil, List.append_nil, HKK.out]
                    exact List.mem_of_mem_take h)
                go_wp2
                go_roundw
                case rel =>
                  first
                    | exact ⟨j2 + 1, N2, s2, g2, by omega, by go_num, HRM2.out, by have := HN2.out; omega, HSE.out, HU2.out⟩
                    | ((repeat apply Exists.intro); refine ⟨?_, rfl⟩; exact ⟨j2 + 1, N2, s2, g2, by omega, by go_num, HRM2.out, by have := HN2.out; omega, HSE.out, HU2.out⟩)
                case measure => (first | (simp [intOf]; done) | (simp [intOf]; omega))
          · obtain rfl : j2 = m := by omega
            have hd5 : decide (j2 < j2) = false := by simp
            have hle : decide (j2 ≤ 5) = true := by simp; exact HMM.out
            have hle2 : decide ((j2 : Int) ≤ 5) = true := by simp; have := HMM.out; omega
            have HTE := Lib.hid (show Calls Tryd.prog 20 #[.pointer (some ⟨sb, 0, none⟩)] wr fun e w' => ∃ A3 c3, e = .returned (.slice A3 j2 c3) ∧ Below wr.heap.size wr w' from (Tenants_any _ sb bo bw 5 3 j L HSW.out (by have := tens_len L; have := HLN.out; omega)).mono fun e w' ⟨v, h1, h2, h3⟩ => by
              obtain ⟨A3, c3, h4, _⟩ := h2.form
              rw [List.length_map, HNL.out] at h4
              exact ⟨A3, c3, by rw [h1, h4], h3⟩)
            go_wp2_with (go_at_call 20; refine HTE.out.mono ?_; rintro e w6 ⟨A3, c3, rfl, hb6⟩; skip; have HB6 := Lib.hid (HBW.out.trans (Below.mono hb6 HBW.out.size)); clear hb6)
            go_ret
            exact ⟨by first | rfl | simp [hle, hle2], HB6.out⟩
    · have hd1 : decide (j < n) = false := by simp; omega
      have hd1i : decide ((j : Int) < (n : Int)) = false := by simp; omega
      have hmm := @run_makeMap Tryd.prog
      go_upto_region 14 with fail
      clear hmm
      refine wp_name3 (fun Z hZ => ?_)
      have HM := Lib.hid (show RMap Tryd.prog Z 34 wr.heap.size 0 (fun _ => none) 0 by rw [hZ]; exact RMap.made wr Tryd.prog 34)
      have hbZ : Below wr.heap.size wr Z := by rw [hZ]; exact (Below.refl _ _).alloc (Nat.le_refl _) _
      have HNN := Lib.hid (show sb ≠ wr.heap.size ∧ bo ≠ wr.heap.size ∧ bw ≠ wr.heap.size ∧ w.heap.size ≤ wr.heap.size from ⟨Nat.ne_of_lt HS.out.1.lt, Nat.ne_of_lt HS.out.ltO, Nat.ne_of_lt HS.out.ltW, HB.out.size⟩)
      have HSx := Lib.hid (HS.out.below hbZ); clear HS; have HS := HSx; clear HSx; have HBx := Lib.hid (HB.out.trans (Below.mono hbZ HB.out.size)); clear HB; have HB := HBx; clear HBx
      clear hZ hbZ
      generalize hbn : wr.heap.size = bn at *
      go_upto_region 15 with (go_at_call 20; refine (Tenants_any _ sb bo bw 5 3 j L HS.out (by have := tens_len L; have := HLN.out; omega)).mono ?_; rintro e W2 ⟨v2, rfl, ho, hb2⟩; skip; have HSx := Lib.hid (HS.out.below hb2); clear HS; have HS := HSx; clear HSx; have HBx := Lib.hid (HB.out.trans (Below.mono hb2 HB.out.size)); clear HB; have HB := HBx; clear HBx; have HMx := Lib.hid (HM.out.below hb2 HM.out.lt); clear HM; have HM := HMx; clear HMx; obtain ⟨A2, c2, rfl, hr2, hc2⟩ := ho.form; rw [List.length_map, namesL_length]; have HR2 := Lib.hid hr2; clear ho hb2 hr2 hc2)
      have HNL := Lib.hid (namesL_length L)
      have HMM := Lib.hid (show (tens L).length ≤ 5 from HBN.out.1)
      generalize hm : (tens L).length = m at *
      clear hm
      go_loopw [57] (fun i wr => ∃ (j2 N s : Nat) (g : Lit → Option Value), j2 ≤ m ∧ i = .int .i64 j2 ∧ RMap Tryd.prog wr 34 bn N g s ∧ N ≤ 3 * j2 ∧ (∀ x, g (.string x) ≠ none → x ∈ ((namesL L).take j2).flatMap (keysOf L)) ∧ Only W2 bn wr) (fun i _ => m - (intOf i).toNat)
      case atStart => exact ⟨0, 0, 0, _, Nat.zero_le _, rfl, HM.out, Nat.zero_le _, fun x h => absurd rfl h, Only.refl _ _⟩
      case round =>
        obtain ⟨j2, N, s, g, hj2, rfl, hrm, hN, hseen, hu⟩ := hrel
        have HRM := Lib.hid hrm
        have HNJ := Lib.hid hN
        have HSN := Lib.hid hseen
        have HU := Lib.hid hu
        have hmap2 := isMap HM.out
        have HSW := Lib.hid (HS.out.only hu hmap2 HNN.out.1 HNN.out.2.1 HNN.out.2.2.1)
        have HRW := Lib.hid (rd_maps HR2.out hu (by intro b hb; simp at hb; subst hb; exact hmap2))
        have HBW := Lib.hid (Only.belowOf HB.out hu HNN.out.2.2.2)
        clear hrm hN hseen hu hmap2
        have hm5 := HMM.out
        by_cases h5 : j2 < m
        · have hd5 : decide (j2 < m) = true := by simp; exact h5
          have hi5 : (j2 : Int) < m := by omega
          have hi6 : (0 : Int) ≤ j2 := by omega
          obtain ⟨t, ht⟩ : ∃ t, (namesL L)[j2]? = some t := ⟨_, List.getElem?_eq_getElem (by rw [HNL.out]; exact h5)⟩
          have HT := Lib.hid ht
          obtain ⟨b2, o2, rfl, hl2, hc2⟩ := HRW.out j2 (.string (strB t)) (by rw [List.getElem?_map, ht]; rfl)
          have htv := namesL_valid HGD.out (List.mem_of_getElem? ht)
          have HTV := Lib.hid htv.1
          have HT63 := Lib.hid (valid_63 htv.1)
          have HVC := Lib.hid (show ∀ W : World, Calls Tryd.prog 8 #[.string (strB t)] W fun e w' => e = .returned (.bool true) ∧ W = w' from fun W => by have := Valid_any W (strB t) (by have := HT63.out; show t.toArray.size ≤ _; rw [List.size_toArray]; omega); rw [show validB (strB t).data.toList = true from HTV.out] at this; exact this)
          have hq1 : 1 ≤ (keysOf L t).length := by
            have := htv.2
            cases he : keysOf L t with
            | nil => exact absurd he this
            | cons _ _ => simp
          have hq3 : (keysOf L t).length ≤ 3 := HBN.out.2 t
          clear ht htv
          generalize hkk : keysOf L t = kk at *
          have HKK := Lib.hid hkk
          generalize hq : kk.length = q1 at *
          have HQL := Lib.hid hq
          have e1 : decide (q1 < 1) = false := by simp; omega
          have e2 : decide ((q1 : Int) < 1) = false := by simp; omega
          have e3 : decide (3 < q1) = false := by simp; omega
          have e4 : decide ((3 : Int) < q1) = false := by simp; omega
          have e5 : ¬ q1 = 0 := by omega
          have HKY := Lib.hid (show Calls Tryd.prog 21 #[.pointer (some ⟨sb, 0, none⟩), .string (strB t)] wr fun e w' => ∃ A3 c3, e = .returned (.slice A3 q1 c3) ∧ KS w' (.slice A3 q1 c3) kk ∧ Below wr.heap.size wr w' from (Keys_any wr sb bo bw 5 3 j L HSW.out (strB t) (by have := HT63.out; show t.toArray.size ≤ _; rw [List.size_toArray]; unfold maxLen; omega) (by show (keysOf L t).length ≤ _; rw [hkk]; omega)).mono fun e w' ⟨v, h1, h2, h3⟩ => by
            have h2' : KS w' v (keysOf L t) := h2
            rw [hkk] at h2'
            obtain ⟨A3, c3, h4⟩ := KS.slice h2'
            rw [hq] at h4
            exact ⟨A3, c3, by rw [h1, h4], by rw [← h4]; exact h2', h3⟩)
          clear hq hkk
          go_upto_region 21 with (first
            | (go_at_call 21; refine HKY.out.mono ?_; rintro e w3 ⟨A3, c3, rfl, hks, hb3⟩; skip; have HK3 := Lib.hid hks; have HU3 := Lib.hid (HU.out.lat hb3); have HRM3 := Lib.hid (HRM.out.below hb3 HRM.out.lt); clear hks hb3)
            | (go_at_call 8; refine (HVC.out _).mono ?_; rintro e w4 ⟨rfl, rfl⟩; skip))
          clear e1 e2 e3 e4 hc2
          go_loopw [79] (fun i wr => ∃ (k N2 s2 : Nat) (g2 : Lit → Option Value), k ≤ q1 ∧ i = .int .i64 k ∧ RMap Tryd.prog wr 34 bn N2 g2 s2 ∧ N2 ≤ 3 * j2 + k ∧ (∀ x, g2 (.string x) ≠ none → x ∈ ((namesL L).take j2).flatMap (keysOf L) ∨ x ∈ kk.take k) ∧ Only w3 bn wr) (fun i _ => q1 - (intOf i).toNat)
          case atStart => exact ⟨0, N, s, g, Nat.zero_le _, rfl, HRM3.out, HNJ.out, fun x h => .inl (HSN.out x h), Only.refl _ _⟩
          case round =>
            obtain ⟨k, N2, s2, g2, hk, rfl, hrm, hN, hseen, hu⟩ := hrel
            have HRM2 := Lib.hid hrm
            have HN2 := Lib.hid hN
            have HSN2 := Lib.hid hseen
            have HUI := Lib.hid hu
            have hmap3 := isMap HRM3.out
            have HU2 := Lib.hid (show Only W2 bn wr from Sp.Upd.trans HU3.out hu (fun x hx => .inl hx))
            have HK4 := Lib.hid ((HK3.out).map (Sp.Upd.grown1 hu) hmap3)
            clear hrm hN hseen hu hmap3
            have HSI := Lib.hid (HS.out.only HU2.out (isMap HM.out) HNN.out.1 HNN.out.2.1 HNN.out.2.2.1)
            by_cases h6 : k < q1
            · have hd6 : decide (k < q1) = true := by simp; exact h6
              have hi7 : (k : Int) < q1 := by omega
              have hi8 : (0 : Int) ≤ k := by omega
              obtain ⟨x, hx⟩ : ∃ x, kk[k]? = some x := ⟨_, List.getElem?_eq_getElem (by rw [HQL.out]; exact h6)⟩
              have hx2 : (keysOf L t)[k]? = some x := by rw [HKK.out]; exact hx
              have hxl := keysOf_len HGD.out t x (List.mem_of_getElem? hx2)
              have HXL := Lib.hid hxl
              have hap := keys_apart HGD.out HT.out hx2
              rw [HKK.out] at hap
              have HFN := Lib.hid (show g2 (.string x) = none by
                cases he : g2 (.string x) with
                | none => rfl
                | some v =>
                  rcases HSN2.out x (by rw [he]; simp) with h | h
                  · exact absurd h hap.1
                  · exact absurd h hap.2)
              have HWX := Lib.hid (whoOf_keys HGD.out (List.mem_of_getElem? hx2))
              have HSN3 := Lib.hid (show ∀ y, upd g2 (.string x) (some (.int .i64 1)) (.string y) ≠ none → y ∈ ((namesL L).take j2).flatMap (keysOf L) ∨ y ∈ kk.take (k + 1) from fun y hy => by
                by_cases he : y = x
                · subst he
                  exact .inr (mem_take_succ hx)
                · rw [upd_other g2 _ (fun e => he (by injection e))] at hy
                  rcases HSN2.out y hy with h | h
                  · exact .inl h
                  · exact .inr (mem_take_mono h))
              have HVX := Lib.hid (show (bytesV x).size = 32 by rw [bytesV_size, hxl])
              obtain ⟨b3, o3, rfl, hl3, hc3⟩ := HK4.out.cell (by rw [HQL.out]; omega)
              have HC3 := Lib.hid (hc3 k x hx)
              clear hx hx2 hxl hap hc3
              go_upto_region 23 with (first
                | (refine Cv.load_cells rfl 34 _ rfl b3 (o3 + k * 32) rfl (bytesV x) _ HC3.out Tryd.underlying34 rfl (by rw [HVX.out]; kernel_rfl) ?_; skip)
                | (refine Rg.store_fresh rfl 34 _ _ rfl (bytesV x) _ 34 rfl rfl (by rw [HVX.out]; kernel_rfl) (by rw [HVX.out]; rfl) (bytesV_one _) ?_; intro Y hY hbY; have HY := Lib.hid hY; have HUY := Lib.hid (HU2.out.lat hbY); have HIY := Lib.hid (HUI.out.lat hbY); have HSY := Lib.hid (HSI.out.below hbY); have HMY := Lib.hid (HRM2.out.below hbY HRM2.out.lt); have HNE := Lib.hid (show wr.heap.size ≠ bn from fun e => by have := HRM2.out.lt; omega); clear hY hbY))
              go_upto_region 24 with (first
                | (refine Cv.load_cells rfl 34 _ rfl wr.heap.size 0 rfl (bytesV x) _ (Cv.Bytes.of_blk HY.out).cells Tryd.underlying34 rfl (by rw [HVX.out]; kernel_rfl) ?_; skip)
                | (go_at_call 13; refine (Lookup_some _ sb bo bw 5 3 j L HSY.out x HXL.out t HWX.out).mono ?_; rintro e w5 ⟨rfl, hb5⟩; skip; have HY5 := Lib.hid (HY.out.below hb5 HY.out.lt); have HU5 := Lib.hid (HUY.out.lat hb5); have HI5 := Lib.hid (HIY.out.lat hb5); have HM5 := Lib.hid (HMY.out.below hb5 HMY.out.lt); clear hb5))
              generalize wr.heap.size = bk at *
              have hzero : ∀ u : World, (zeroValue 3).run Tryd.prog u = .ok (.int .i64 0) u := fun u => by kernel_rfl
              have HZ0 := Lib.hid hzero
              clear hzero
              refine RT.start (fun W => Only w5 bn W ∧ (Instr.lookup 47 (.map (some bn)) (.agg (bytesV x)) false).run Tryd.prog W = .ok (.int .i64 0) W) 6 1 (by kernel_rfl) (by decide) rfl (by kernel_rfl) (by kernel_rfl) (⟨(Only.refl w5 bn).drew, by have := (HM5.out.below (Below.drew (Below.refl _ _)) HM5.out.lt).look keyed_key Tryd.underlying47 (HZ0.out w5.drew) (key32 x HXL.out); rw [HFN.out] at this; exact this⟩) ?_
              refine' RT.takeV (i := 0) (v := _) rfl (by kernel_rfl) (by kernel_rfl) (by kernel_rfl) (by decide) (fun _ _ _ h => h) (by rfl) ?hk12 ?_
              case hk12 => (intro W hSW; go_simp; try with_reducible rfl)
              (try simp only [Act.put, List.setIfInBounds_toArray, List.set_cons_zero, List.set_cons_succ])
              refine RT.takeV (i := 1) (v := .agg (bytesV x)) rfl (by kernel_rfl) (by kernel_rfl) (by kernel_rfl) (by decide) (fun _ _ _ h => h) (by rfl) (fun W hSW => RT.run_row 34 _ rfl _ rfl _ _ (hSW.1.blk HY5.out HNE.out) Tryd.underlying34 rfl (by rw [HVX.out]; kernel_rfl)) ?_
              (try simp only [Act.put, List.setIfInBounds_toArray, List.set_cons_zero, List.set_cons_succ])
              refine' RT.takeV (i := 2) (v := _) rfl (by kernel_rfl) (by kernel_rfl) (by kernel_rfl) (by decide) (fun _ _ _ h => h) (by rfl) ?hk13 ?_
              case hk13 => (intro W hSW; have hl0 := hSW.2; go_simp; try with_reducible rfl)
              (try simp only [Act.put, List.setIfInBounds_toArray, List.set_cons_zero, List.set_cons_succ])
              refine' RT.takeV (i := 3) (v := _) rfl (by kernel_rfl) (by kernel_rfl) (by kernel_rfl) (by decide) (fun _ _ _ h => h) (by rfl) ?hk14 ?_
              case hk14 => (intro W hSW; go_simp; try with_reducible rfl)
              (try simp only [Act.put, List.setIfInBounds_toArray, List.set_cons_zero, List.set_cons_succ])
              refine RT.stepK (i := 4) rfl (by kernel_rfl) (by decide) (by rfl) (fun wa hlwa hswa K hK => ?_)
              have HUa := Lib.hid (show Below w5.heap.size w5 wa from (Below.drew (Below.refl _ _)).trans hlwa)
              obtain ⟨st, wb, hrun, hrm1, hgr1, hst⟩ := (HM5.out.below HUa.out HM5.out.lt).entry keyed_key Tryd.underlying47 HZ0.out (by have := HN2.out; unfold maxLen; omega) (key32 x HXL.out) HFN.out
              refine mapEntry_op _ _ 47 rfl rfl rfl hrun ?_
              have HM6 := Lib.hid hrm1
              have HST := Lib.hid hst
              have HOb := Lib.hid (show Only w5 bn wb from Only.grown hswa.1 hgr1 (fun i hi => .inl (by cases hi; rfl)))
              refine hK.out _ _ ⟨HOb.out, by have := HM6.out.look keyed_key Tryd.underlying47 (HZ0.out wb) (key32 x HXL.out); rw [upd_same] at this; exact this⟩ ?_
              clear hK hrun hrm1 hgr1 hst
              (try simp only [Act.put, List.setIfInBounds_toArray, List.set_cons_zero, List.set_cons_succ])
              refine' RT.takeV (i := 5) (v := _) rfl (by kernel_rfl) (by kernel_rfl) (by kernel_rfl) (by decide) (fun _ _ _ h => h) (by rfl) ?hk15 ?_
              case hk15 => (intro W hSW; go_simp; try with_reducible rfl)
              (try simp only [Act.put, List.setIfInBounds_toArray, List.set_cons_zero, List.set_cons_succ])
              refine RT.tail (by kernel_rfl) rfl rfl ?_
              intro wd hlwd hswd
              obtain ⟨V, hrun, hrm, hgr⟩ := HST.out wd (.int .i64 1) (show wd.heap[bn]? = wb.heap[bn]? from Below.block (show Below wb.heap.size wb wd from hlwd) bn HM6.out.lt)
              have HM7 := Lib.hid hrm
              have HO7 := Lib.hid (show Only w5 bn V from Only.grown hswd.1 hgr (fun i hi => .inl (by cases hi; rfl)))
              have HY7 := Lib.hid (HO7.out.blk HY5.out HNE.out)
              have HI7 := Lib.hid (show Only w3 bn V from Sp.Upd.trans HI5.out HO7.out (fun x hx => .inl hx))
              refine entryStore_op rfl _ _ _ 47 rfl rfl rfl rfl hrun ?_
              clear hlwd hswd hrun hrm hgr hlwa hswa
              have hself : ((strB t).toList == (strB t).toList) = true := beq_self_eq_true _
              have hlk := HM7.out.look keyed_key Tryd.underlying47 (HZ0.out V) (key32 x HXL.out)
              rw [upd_same, Option.getD_some] at hlk
              have hlkN := fun n => (HM7.out.below (bdN (Below.refl V.heap.size V) n) HM7.out.lt).look keyed_key Tryd.underlying47 (HZ0.out (V.drewN n)) (key32 x HXL.out)
              simp only [upd_same, Option.getD_some] at hlkN
              go_wp2_with (refine Cv.load_cells rfl 34 _ rfl bk 0 rfl (bytesV x) _ (Cv.Bytes.of_blk HY7.out).cells Tryd.underlying34 rfl (by rw [HVX.out]; kernel_rfl) ?_; skip)
              go_roundw
              case rel =>
                first
                  | exact ⟨k + 1, N2 + 1, s2 + 1, _, by omega, by go_num, HM7.out, by have := HN2.out; omega, HSN3.out, HI7.out⟩
                  | ((repeat apply Exists.intro); refine ⟨?_, rfl⟩; exact ⟨k + 1, N2 + 1, s2 + 1, _, by omega, by go_num, HM7.out, by have := HN2.out; omega, HSN3.out, HI7.out⟩)
              case measure => (first | (simp [intOf]; done) | (simp [intOf]; omega))
            · obtain rfl : k = q1 := by omega
              have hd6 : decide (k < k) = false := by simp
              have HSE := Lib.hid (show ∀ x, g2 (.string x) ≠ none → x ∈ ((namesL L).take (j2 + 1)).flatMap (keysOf L) from fun x hx => by
                have hj3 := (List.getElem?_eq_some_iff.1 HT.out).1
                rw [List.take_succ_eq_append_getElem hj3, (List.getElem?_eq_some_iff.1 HT.out).2, List.flatMap_append, List.mem_append]
                rcases HSN2.out x hx with h | h
                · exact .inl h
                · refine .inr ?_
                  rw [List.flatMap_cons, List.flatMap_nil, List.append_nil, HKK.out]
                  exact List.mem_of_mem_take h)
              go_wp2
              go_roundw
              case rel =>
                first
                  | exact ⟨j2 + 1, N2, s2, g2, by omega, by go_num, HRM2.out, by have := HN2.out; omega, HSE.out, HU2.out⟩
                  | ((repeat apply Exists.intro); refine ⟨?_, rfl⟩; exact ⟨j2 + 1, N2, s2, g2, by omega, by go_num, HRM2.out, by have := HN2.out; omega, HSE.out, HU2.out⟩)
              case measure => (first | (simp [intOf]; done) | (simp [intOf]; omega))
        · obtain rfl : j2 = m := by omega
          have hd5 : decide (j2 < j2) = false := by simp
          have hle : decide (j2 ≤ 5) = true := by simp; exact HMM.out
          have hle2 : decide ((j2 : Int) ≤ 5) = true := by simp; have := HMM.out; omega
          have HTE := Lib.hid (show Calls Tryd.prog 20 #[.pointer (some ⟨sb, 0, none⟩)] wr fun e w' => ∃ A3 c3, e = .returned (.slice A3 j2 c3) ∧ Below wr.heap.size wr w' from (Tenants_any _ sb bo bw 5 3 j L HSW.out (by have := tens_len L; have := HLN.out; omega)).mono fun e w' ⟨v, h1, h2, h3⟩ => by
            obtain ⟨A3, c3, h4, _⟩ := h2.form
            rw [List.length_map, HNL.out] at h4
            exact ⟨A3, c3, by rw [h1, h4], h3⟩)
          go_wp2_with (go_at_call 20; refine HTE.out.mono ?_; rintro e w6 ⟨A3, c3, rfl, hb6⟩; skip; have HB6 := Lib.hid (HBW.out.trans (Below.mono hb6 HBW.out.size)); clear hb6)
          go_ret
          exact ⟨by first | rfl | simp [hle, hle2], HB6.out⟩
end Go.Proofs.YtgdbplciepiinaaDoor.St
