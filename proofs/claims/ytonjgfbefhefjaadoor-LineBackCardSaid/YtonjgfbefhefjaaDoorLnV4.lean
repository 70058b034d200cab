/- Line: LineBack. -/
import Derived.Test.YtonjgfbefhefjaaDoorLnV1
import Derived.Test.YtonjgfbefhefjaaDoorLnOpn
import Derived.Test.YtonjgfbefhefjaaDoorGenA
import Derived.Deep.CutBlock
set_option linter.unusedVariables false
set_option linter.unusedSimpArgs false
namespace Go.Proofs.YtonjgfbefhefjaaDoor.Ln
open Go Go.RowKit Go.Proofs.YtonjgfbefhefjaaDoor.Ow Go.Proofs.YtonjgfbefhefjaaDoor.Sp
def cut70 (s : ByteArray) : ByteArray := s.extract 0 70
theorem infoStr : (Tryd.prog.info? 9).map (fun i => (i.zero, i.size, i.bytes)) = some (some (.string ⟨#[]⟩), 1, 16) := by kernel_rfl
theorem wp_nameL {P : Program} {c : Code} {Q : Exit → Act → World → Prop} {a : Act} {W : World} (h : ∀ X, X = W → c.wp P Q a X) : c.wp P Q a W := h W rfl
theorem rd_take {w : World} {A : Option Addr} {xs : List Value} (h : Rd w A xs) (n : Nat) : Rd w A (xs.take n) := fun j x hx => h j x (by
  rw [List.getElem?_take] at hx
  split at hx
  · exact hx
  · cases hx)
theorem take_cut (ss : List ByteArray) (k : Nat) (h : k < ss.length) : ((ss.take (k + 1)).map fun s => Value.string (cut70 s)) = ((ss.take k).map fun s => Value.string (cut70 s)) ++ [Value.string (cut70 ss[k])] := by
  rw [List.take_succ_eq_append_getElem h, List.map_append]; rfl
theorem store_sliceL {P : Program} {ops : Array Oper} {rest : List Oper} {o : Oper} {a : Act} {w : World} {Q : Exit → Act → World → Prop} (hgd : o.guard = none) (ty : TypeId) (x y : Operand) (ho : o.op = .store ty x y)
    {b j T : Nat} {cs : Array Value} {old : Value} {A : Option Addr} {n c : Nat} {e : TypeId} (hx : a.eval x = .pointer (some ⟨b, j, none⟩)) (hy : a.eval y = .slice A n c) (hu : P.underlying ty = some (.slice e)) (hi : (P.info? ty).map (·.size) = some 1) (hR : Rg.Blk w b T cs) (hj : cs[j]? = some old)
    (h : ∀ w', Rg.Blk w' b T (cs.setIfInBounds j (.slice A n c)) → w.grownBy w' (some b) → wpList P ops Q rest (a.put o.dst undef) w') : wpList P ops Q (o :: rest) a w :=
  wpList_plain hgd fun _ hK => by
    have hx' := hx
    have hy' := hy
    have hc := hR.cell j hj
    have hf := hR.frozen j
    simp [go_sem] at hx' hy'
    unfold Oper.wp execOp
    cases hq : P.info? ty with
    | none => simp [hq] at hi
    | some i =>
    have hs : i.size = 1 := by simpa [hq] using hi
    simp [ho, hx', hy', go_sem, hc, hf, hu, sizeOf, typeInfo, hq, hs]
    have hB : Rg.Blk (w.setCell ⟨b, j, none⟩ (.slice A n c)) b T (cs.setIfInBounds j (.slice A n c)) := by
      have h2 := hR
      unfold Rg.Blk at *
      rw [heap_setCell_same w b j _ _ _ h2]
    have := hK _ _ (h _ hB (Cl.grown_setCell w b j _))
    simpa [go_sem] using this
set_option maxRecDepth 20000 in
set_option maxHeartbeats 8000000 in
theorem law_LineBack (w : World) (s t : ByteArray) (A1 A2 : Option Addr) (cx cy : Nat) (xs : List ByteArray) (ys : List Int) (hR : Rd w A1 (xs.map Value.string)) (hc1 : xs.length ≤ cx) (hm1 : cx ≤ maxLen) (hQ : Rd w A2 (ys.map (Value.int .i64))) (hc2 : ys.length ≤ cy) (hm2 : cy ≤ maxLen) (hw : ∀ n ∈ ys, (Lit.int .i64 n).wf = true) (a : Nat → Addr) (hX : Ctx w a) :
    Calls Tryd.prog 4 #[.agg #[.string s, .slice A1 xs.length cx, .slice A2 ys.length cy, .string t]] w fun e w' => e = .returned (.bool true) ∧ Below w.heap.size w w' := by
  have HX := Lib.hid hX
  obtain ⟨nx, hnx⟩ : ∃ nx, nx = xs.length := ⟨_, rfl⟩
  obtain ⟨ny, hny⟩ : ∃ ny, ny = ys.length := ⟨_, rfl⟩
  rw [← hnx, ← hny]
  rw [← hnx] at hc1
  rw [← hny] at hc2
  have HNX := Lib.hid hnx
  have HNY := Lib.hid hny
  have HRX := Lib.hid hR
  have HRY := Lib.hid hQ
  have HWF := Lib.hid hw
  have HC1 := Lib.hid hc1
  unfold maxLen at hm1 hm2
  obtain ⟨sW, hsW⟩ : ∃ sW, sW = s.extract 0 20 := ⟨_, rfl⟩
  obtain ⟨sT, hsT⟩ : ∃ sT, sT = t.extract 0 1000 := ⟨_, rfl⟩
  have hWs : sW.size ≤ 20 := by rw [hsW]; simp; omega
  have hTs : sT.size ≤ 1000 := by rw [hsT]; simp; omega
  have HCW := Lib.hid (show ∀ W, Calls Tryd.prog 8 #[.string s, .int .i64 20] W fun e w' => e = .returned (.string sW) ∧ W = w' from fun W => hsW ▸ Cut_any W s 20 (by decide))
  have HCT := Lib.hid (show ∀ W, Calls Tryd.prog 8 #[.string t, .int .i64 1000] W fun e w' => e = .returned (.string sT) ∧ W = w' from fun W => hsT ▸ Cut_any W t 1000 (by decide))
  have HBX := Lib.hid (show Below w.heap.size w (w.alloc (.cells #[.string s, .slice A1 nx cx, .slice A2 ny cy, .string t] 32)) from (Below.refl _ _).alloc (Nat.le_refl _) _)
  have HAW := Lib.hid (awake_any (w.alloc (.cells #[.string s, .slice A1 nx cx, .slice A2 ny cy, .string t] 32)) a (HX.out.below HBX.out))
  have HM0 := Lib.hid (show Mem w [] (w.alloc (.cells #[.string s, .slice A1 nx cx, .slice A2 ny cy, .string t] 32)) [Sp.blk w.heap.size 32 #[.string s, .slice A1 nx cx, .slice A2 ny cy, .string t]] from (Mem.start w).alloc #[.string s, .slice A1 nx cx, .slice A2 ny cy, .string t] 32)
  obtain ⟨ku, hku⟩ : ∃ ku, min ny 9 = ku := ⟨_, rfl⟩
  have mK : min (ny : Int) 9 = (ku : Int) := by omega
  have ku1 : ku ≤ ny := by omega
  have ku2 : ku ≤ cy := by omega
  have HKU := Lib.hid hku
  clear hX hR hQ hw hsW hsT hku hnx hny
  go_enter Tryd.func4, Tryd.ntmps4
  go_upto_region 3 with (first
    | (go_at_call 7; refine HAW.out.mono ?_; rintro e w1 ⟨rfl, hb⟩; skip; have HM1 := Lib.hid (HM0.out.below hb); clear hb))
  refine RT.start (RL.Aft w1) 15 1 (by kernel_rfl) (by decide) rfl (by kernel_rfl) (by kernel_rfl) (RL.Aft.drew (RL.Aft.refl w1)) ?_
  refine' RT.takeV (i := 0) (v := _) rfl (by kernel_rfl) (by kernel_rfl) (by kernel_rfl) (by decide) (fun _ _ _ h => h) (by rfl) ?hk1 ?_
  case hk1 => (intro W hSW; go_simp; try with_reducible rfl)
  (try simp only [Act.put, List.setIfInBounds_toArray, List.set_cons_zero, List.set_cons_succ])
  refine' RT.takeV (i := 1) (v := _) rfl (by kernel_rfl) (by kernel_rfl) (by kernel_rfl) (by decide) (fun _ _ _ h => h) (by rfl) ?hk2 ?_
  case hk2 => (intro W hSW; have g := ((HM1.out.below hSW).blk 0 rfl).cell 0 (v := .string s) rfl; go_simp; try with_reducible rfl)
  (try simp only [Act.put, List.setIfInBounds_toArray, List.set_cons_zero, List.set_cons_succ])
  refine' RT.takeC (i := 2) (v := .string sW) 8 #[.string s, .int .i64 20] rfl (by kernel_rfl) (by kernel_rfl) (by kernel_rfl) (by decide) (fun _ _ _ h => h) (by rfl) ?hk3 ?hc3 ?_
  case hk3 => (intro W hSW; go_simp; try with_reducible rfl)
  case hc3 => (intro W hSW; exact (HCW.out W).mono fun e w' h => ⟨h.1, h.2 ▸ RL.Lat.refl _, h.2 ▸ hSW⟩)
  (try simp only [Act.put, List.setIfInBounds_toArray, List.set_cons_zero, List.set_cons_succ])
  refine' RT.takeV (i := 3) (v := _) rfl (by kernel_rfl) (by kernel_rfl) (by kernel_rfl) (by decide) (fun _ _ _ h => h) (by rfl) ?hk4 ?_
  case hk4 => (intro W hSW; go_simp; try with_reducible rfl)
  (try simp only [Act.put, List.setIfInBounds_toArray, List.set_cons_zero, List.set_cons_succ])
  refine' RT.takeV (i := 4) (v := _) rfl (by kernel_rfl) (by kernel_rfl) (by kernel_rfl) (by decide) (fun _ _ _ h => h) (by rfl) ?hk5 ?_
  case hk5 => (intro W hSW; have g := ((HM1.out.below hSW).blk 0 rfl).cell 2 (v := .slice A2 ny cy) rfl; go_simp; try with_reducible rfl)
  (try simp only [Act.put, List.setIfInBounds_toArray, List.set_cons_zero, List.set_cons_succ])
  refine' RT.takeV (i := 5) (v := _) rfl (by kernel_rfl) (by kernel_rfl) (by kernel_rfl) (by decide) (fun _ _ _ h => h) (by rfl) ?hk6 ?_
  case hk6 => (intro W hSW; go_simp; try with_reducible rfl)
  (try simp only [Act.put, List.setIfInBounds_toArray, List.set_cons_zero, List.set_cons_succ])
  refine' RT.takeV (i := 6) (v := _) rfl (by kernel_rfl) (by kernel_rfl) (by kernel_rfl) (by decide) (fun _ _ _ h => h) (by rfl) ?hk7 ?_
  case hk7 => (intro W hSW; have g := ((HM1.out.below hSW).blk 0 rfl).cell 2 (v := .slice A2 ny cy) rfl; go_simp; try with_reducible rfl)
  (try simp only [Act.put, List.setIfInBounds_toArray, List.set_cons_zero, List.set_cons_succ])
  refine' RT.takeV (i := 7) (v := _) rfl (by kernel_rfl) (by kernel_rfl) (by kernel_rfl) (by decide) (fun _ _ _ h => h) (by rfl) ?hk8 ?_
  case hk8 => (intro W hSW; go_simp; try with_reducible rfl)
  (try simp only [Act.put, List.setIfInBounds_toArray, List.set_cons_zero, List.set_cons_succ])
  refine' RT.takeV (i := 8) (v := _) rfl (by kernel_rfl) (by kernel_rfl) (by kernel_rfl) (by decide) (fun _ _ _ h => h) (by rfl) ?hk9 ?_
  case hk9 => (intro W hSW; go_simp; try with_reducible rfl)
  (try simp only [Act.put, List.setIfInBounds_toArray, List.set_cons_zero, List.set_cons_succ])
  refine' RT.takeV (i := 9) (v := _) rfl (by kernel_rfl) (by kernel_rfl) (by kernel_rfl) (by decide) (fun _ _ _ h => h) (by rfl) ?hk10 ?_
  case hk10 => (intro W hSW; go_simp; try with_reducible rfl)
  (try simp only [Act.put, List.setIfInBounds_toArray, List.set_cons_zero, List.set_cons_succ])
  refine' RT.takeV (i := 10) (v := _) rfl (by kernel_rfl) (by kernel_rfl) (by kernel_rfl) (by decide) (fun _ _ _ h => h) (by rfl) ?hk11 ?_
  case hk11 => (intro W hSW; go_simp; try with_reducible rfl)
  (try simp only [Act.put, List.setIfInBounds_toArray, List.set_cons_zero, List.set_cons_succ])
  refine' RT.takeV (i := 11) (v := _) rfl (by kernel_rfl) (by kernel_rfl) (by kernel_rfl) (by decide) (fun _ _ _ h => h) (by rfl) ?hk12 ?_
  case hk12 => (intro W hSW; have g := ((HM1.out.below hSW).blk 0 rfl).cell 3 (v := .string t) rfl; go_simp; try with_reducible rfl)
  (try simp only [Act.put, List.setIfInBounds_toArray, List.set_cons_zero, List.set_cons_succ])
  refine' RT.takeC (i := 12) (v := .string sT) 8 #[.string t, .int .i64 1000] rfl (by kernel_rfl) (by kernel_rfl) (by kernel_rfl) (by decide) (fun _ _ _ h => h) (by rfl) ?hk13 ?hc13 ?_
  case hk13 => (intro W hSW; go_simp; try with_reducible rfl)
  case hc13 => (intro W hSW; exact (HCT.out W).mono fun e w' h => ⟨h.1, h.2 ▸ RL.Lat.refl _, h.2 ▸ hSW⟩)
  (try simp only [Act.put, List.setIfInBounds_toArray, List.set_cons_zero, List.set_cons_succ])
  refine' RT.takeV (i := 13) (v := _) rfl (by kernel_rfl) (by kernel_rfl) (by kernel_rfl) (by decide) (fun _ _ _ h => h) (by rfl) ?hk14 ?_
  case hk14 => (intro W hSW; go_simp; try with_reducible rfl)
  (try simp only [Act.put, List.setIfInBounds_toArray, List.set_cons_zero, List.set_cons_succ])
  refine RT.stepK (i := 14) rfl (by kernel_rfl) (by decide) (by rfl) (fun wa hlwa hswa K hK => ?_)
  have hma := ((HM1.out.below hswa).alloc #[.string ⟨#[]⟩, .slice none 0 0, .slice none 0 0, .string ⟨#[]⟩] 32)
  go_simp
  have HMA := Lib.hid hma
  refine hK.out _ _ (RL.Aft.alloc hswa _) ?_
  clear hK hma
  (try simp only [Act.put, List.setIfInBounds_toArray, List.set_cons_zero, List.set_cons_succ])
  refine RT.tail (by kernel_rfl) rfl rfl ?_
  intro wd hlwd hswd
  refine Cv.store_blk rfl 32 _ _ rfl wa.heap.size #[.string sW, .slice none 0 0, .slice A2 ku cy, .string sT] #[.string ⟨#[]⟩, .slice none 0 0, .slice none 0 0, .string ⟨#[]⟩] 32 rfl rfl ((HMA.out.below hlwd).blk 1 rfl) (by kernel_rfl) rfl (by simp [Value.oneCell']) ?_
  intro V hV hgV
  have hmv := ((HMA.out.below hlwd).store 1 rfl hV hgV).nilOwn 9
  simp only [List.cons_append, List.nil_append, List.set_cons_succ, List.set_cons_zero] at hmv
  have HV := Lib.hid hmv
  clear hmv hV hgV hlwd hswd hlwa hswa HMA HM1 mK ku1 ku2
  generalize wa.heap.size = P at *
  obtain ⟨q, hq⟩ : ∃ q, min nx 20 = q := ⟨_, rfl⟩
  have hq1 : q ≤ 20 := by omega
  have hq2 : q ≤ nx := by omega
  have HQ := Lib.hid hq
  clear hq
  clear K
  go_upto_block 0 with (fail)
  go_cut [4] (fun v wx => ∃ vs, Mem w [] wx [Sp.blk w.heap.size 32 #[.string s, .slice A1 nx cx, .slice A2 ny cy, .string t], Sp.blk P 32 #[.string sW, vs, .slice A2 ku cy, .string sT], own 9 vs ((xs.take q).map fun s => Value.string (cut70 s))])
  case first =>
    go_wp2_with fail
    go_loopw [4] (fun i wr => ∃ (k : Nat) (vs : Value), k ≤ q ∧ i = .int .i64 k ∧ Mem w [] wr [Sp.blk w.heap.size 32 #[.string s, .slice A1 nx cx, .slice A2 ny cy, .string t], Sp.blk P 32 #[.string sW, vs, .slice A2 ku cy, .string sT], own 9 vs ((xs.take k).map fun s => Value.string (cut70 s))]) (fun i _ => 21 - (intOf i).toNat)
    case atStart => exact ⟨0, _, Nat.zero_le _, rfl, HV.out⟩
    case round =>
      obtain ⟨k, vs, hk, rfl, hm⟩ := hrel
      have HM := Lib.hid hm
      clear hm HV
      have c0 := (HM.out.blk 0 rfl).cell 1 (v := .slice A1 nx cx) rfl
      by_cases hkq : k < q
      · have hkn : k < nx := by omega
        have hki : (k : Int) < nx := by omega
        have hk9 : (k : Int) < 20 := by omega
        have hks : k < xs.length := by have := HNX.out; omega
        obtain ⟨b, o, rfl, hlt, hc⟩ := HRX.out.at_ (j := k) (by rw [List.length_map]; exact hks)
        rw [List.getElem_map] at hc
        obtain ⟨x, hx⟩ : ∃ x, xs[k] = x := ⟨_, rfl⟩
        rw [hx] at hc
        have HXK := Lib.hid hx
        have HC := Lib.hid hc
        have HLT := Lib.hid hlt
        clear hx hc hlt
        have hdk : decide (k < nx) = true := by simp; exact hkn
        go_upto_region 7 with (fail)
        clear c0
        refine RT.start (fun W => ∃ v ys, Mem w [] W [Sp.blk w.heap.size 32 #[.string s, .slice (some ⟨b, o, none⟩) nx cx, .slice A2 ny cy, .string t], Sp.blk P 32 #[.string sW, vs, .slice A2 ku cy, .string sT], own 9 v ys]) 11 1 (by kernel_rfl) (by decide) rfl (by kernel_rfl) (by kernel_rfl) (⟨_, _, HM.out.drew⟩) ?_
        refine' RT.takeV (i := 0) (v := _) rfl (by kernel_rfl) (by kernel_rfl) (by kernel_rfl) (by decide) (fun _ _ _ h => h) (by rfl) ?hk15 ?_
        case hk15 => (intro W hSW; go_simp; try with_reducible rfl)
        (try simp only [Act.put, List.setIfInBounds_toArray, List.set_cons_zero, List.set_cons_succ])
        refine' RT.takeV (i := 1) (v := _) rfl (by kernel_rfl) (by kernel_rfl) (by kernel_rfl) (by decide) (fun _ _ _ h => h) (by rfl) ?hk16 ?_
        case hk16 => (intro W hSW; obtain ⟨v, ys, hm⟩ := hSW; have g := (hm.blk 1 rfl).cell 1 (v := vs) rfl; go_simp; try with_reducible rfl)
        (try simp only [Act.put, List.setIfInBounds_toArray, List.set_cons_zero, List.set_cons_succ])
        refine' RT.takeV (i := 2) (v := _) rfl (by kernel_rfl) (by kernel_rfl) (by kernel_rfl) (by decide) (fun _ _ _ h => h) (by rfl) ?hk17 ?_
        case hk17 => (intro W hSW; go_simp; try with_reducible rfl)
        (try simp only [Act.put, List.setIfInBounds_toArray, List.set_cons_zero, List.set_cons_succ])
        refine' RT.takeV (i := 3) (v := _) rfl (by kernel_rfl) (by kernel_rfl) (by kernel_rfl) (by decide) (fun _ _ _ h => h) (by rfl) ?hk18 ?_
        case hk18 => (intro W hSW; obtain ⟨v, ys, hm⟩ := hSW; have g := (hm.blk 0 rfl).cell 1 (v := .slice (some ⟨b, o, none⟩) nx cx) rfl; go_simp; try with_reducible rfl)
        (try simp only [Act.put, List.setIfInBounds_toArray, List.set_cons_zero, List.set_cons_succ])
        refine' RT.takeV (i := 4) (v := _) rfl (by kernel_rfl) (by kernel_rfl) (by kernel_rfl) (by decide) (fun _ _ _ h => h) (by rfl) ?hk19 ?_
        case hk19 => (intro W hSW; go_simp; try with_reducible rfl)
        (try simp only [Act.put, List.setIfInBounds_toArray, List.set_cons_zero, List.set_cons_succ])
        refine' RT.takeV (i := 5) (v := _) rfl (by kernel_rfl) (by kernel_rfl) (by kernel_rfl) (by decide) (fun _ _ _ h => h) (by rfl) ?hk20 ?_
        case hk20 => (intro W hSW; go_simp; try with_reducible rfl)
        (try simp only [Act.put, List.setIfInBounds_toArray, List.set_cons_zero, List.set_cons_succ])
        refine' RT.takeV (i := 6) (v := _) rfl (by kernel_rfl) (by kernel_rfl) (by kernel_rfl) (by decide) (fun _ _ _ h => h) (by rfl) ?hk21 ?_
        case hk21 => (intro W hSW; obtain ⟨v, ys, hm⟩ := hSW; have g : W.cell? ⟨b, o + k, none⟩ = some (.string x) := (hm.bel.cell (p := ⟨b, o + k, none⟩) HLT.out).trans HC.out; go_simp; try with_reducible rfl)
        (try simp only [Act.put, List.setIfInBounds_toArray, List.set_cons_zero, List.set_cons_succ])
        refine' RT.takeC (i := 7) (v := .string (cut70 x)) 8 #[.string x, .int .i64 70] rfl (by kernel_rfl) (by kernel_rfl) (by kernel_rfl) (by decide) (fun _ _ _ h => h) (by rfl) ?hk22 ?hc22 ?_
        case hk22 => (intro W hSW; go_simp; try with_reducible rfl)
        case hc22 => (intro W hSW; exact (Cut_any W x 70 (by decide)).mono fun e w' h => ⟨h.1, h.2 ▸ RL.Lat.refl _, h.2 ▸ hSW⟩)
        (try simp only [Act.put, List.setIfInBounds_toArray, List.set_cons_zero, List.set_cons_succ])
        refine RT.stepK (i := 8) rfl (by kernel_rfl) (by decide) (by rfl) (fun wa hlwa hswa K hK => ?_)
        have hma := (HM.out.drew.below hlwa).allocO (.cells #[.string (cut70 x)] 9)
        have HRA := Lib.hid (Rd.one wa 9 (.string (cut70 x)))
        go_simp
        have HMA := Lib.hid hma
        refine hK.out _ _ (⟨_, _, hma⟩) ?_
        clear hK hma
        (try simp only [Act.put, List.setIfInBounds_toArray, List.set_cons_zero, List.set_cons_succ])
        refine RT.stepK (i := 9) rfl (by kernel_rfl) (by decide) (by rfl) (fun wb hlwb hswb K hK => ?_)
        have HMB := Lib.hid (HMA.out.below hlwb)
        refine RT.app1_op _ _ _ rfl Tryd.underlying24 infoStr rfl (by decide) (HMB.out.own 2 rfl) rfl (ys := [.string (cut70 x)]) rfl rfl (HRA.out.below hlwb) (by simp [Value.oneCell']) (by rw [List.length_map, List.length_take]; simp only [List.length_cons, List.length_nil]; omega) (Nat.zero_le _) ?_
        intro v' w6 ho hg hat
        have hm6 := HMB.out.app 2 rfl ho hg (hat.imp id fun e => ⟨_, e, Nat.le_refl _⟩)
        simp only [List.set_cons_succ, List.set_cons_zero] at hm6
        obtain ⟨A', c', rfl, _, _⟩ := ho.form
        have HM6 := Lib.hid hm6
        refine hK.out _ _ (⟨_, _, hm6⟩) ?_
        clear hK hm6 ho hg hat
        (try simp only [Act.put, List.setIfInBounds_toArray, List.set_cons_zero, List.set_cons_succ])
        refine' RT.takeV (i := 10) (v := _) rfl (by kernel_rfl) (by kernel_rfl) (by kernel_rfl) (by decide) (fun _ _ _ h => h) (by rfl) ?hk23 ?_
        case hk23 => (intro W hSW; go_simp; try with_reducible rfl)
        (try simp only [Act.put, List.setIfInBounds_toArray, List.set_cons_zero, List.set_cons_succ])
        refine RT.tail (by kernel_rfl) rfl rfl ?_
        intro wd hlwd hswd
        have HMD := Lib.hid (HM6.out.below hlwd)
        refine store_sliceL rfl 24 _ _ rfl rfl rfl Tryd.underlying24 (by kernel_rfl) (HMD.out.blk 1 rfl) rfl ?_
        intro V hV hgV
        have hmv := HMD.out.store 1 rfl hV hgV
        simp only [List.set_cons_succ, List.set_cons_zero, List.setIfInBounds_toArray] at hmv
        rw [← HXK.out, ← take_cut xs k hks] at hmv
        have HN := Lib.hid hmv
        clear hmv hV hgV
        go_wp2_with fail
        go_roundw
        case rel =>
          first
            | exact ⟨k + 1, _, by omega, by go_num, HN.out⟩
            | ((repeat apply Exists.intro); refine ⟨?_, rfl⟩; exact ⟨k + 1, _, by omega, by go_num, HN.out⟩)
        case measure => (first | (simp [intOf]; done) | (simp [intOf]; omega))
      · obtain rfl : k = q := by omega
        by_cases hkn : k < nx
        · have d1 : decide (k < nx) = true := decide_eq_true hkn
          have h20 : k = 20 := by have := HQ.out; omega
          have d2 : decide ((k : Int) < 20) = false := by rw [decide_eq_false_iff_not]; omega
          have d3 : decide ((k : Int) < (nx : Int)) = true := by rw [decide_eq_true_iff]; omega
          go_wp2_with fail
          go_meet
          exact ⟨vs, HM.out⟩
        · have d1 : decide (k < nx) = false := decide_eq_false hkn
          have d3 : decide ((k : Int) < (nx : Int)) = false := by rw [decide_eq_false_iff_not]; omega
          go_wp2_with fail
          go_meet
          exact ⟨vs, HM.out⟩
  case rest =>
    obtain ⟨vs, hmw⟩ := hcut
    go_upto_region 8 with (fail)
    obtain ⟨B1, l1, hvs, hl1, hrd⟩ := rd_own (hmw.own 2 rfl)
    obtain ⟨c, hcc⟩ : ∃ c : Cm, c = ⟨sW.data.toList, (xs.take q).map (fun s => (cut70 s).data.toList), ys.take ku, sT.data.toList⟩ := ⟨_, rfl⟩
    have en : c.names.map encS = (xs.take q).map (fun s => Value.string (cut70 s)) := by rw [hcc]; exact (List.map_map ..).trans rfl
    have eW : sW = strB c.word := by rw [hcc]; rfl
    have eT : sT = strB c.text := by rw [hcc]; rfl
    have ek : ku = c.nums.length := by have h1 := HKU.out; have h2 := HNY.out; rw [hcc]; simp; omega
    have en2 : ((xs.take q).map (fun s => Value.string (cut70 s))).length = c.names.length := by rw [← en, List.length_map]
    have e20 : c.names.length ≤ 20 := by rw [← en2]; simp; omega
    have eky : c.nums.map (Value.int .i64) = (ys.map (Value.int .i64)).take ku := by rw [hcc]; simp
    have ens : ∀ x ∈ c.names, x.length ≤ 100000 := by
      rw [hcc]; intro x hx
      obtain ⟨y, _, rfl⟩ := List.mem_map.1 hx
      have h1 : (cut70 y).data.toList.length = (cut70 y).size := Array.length_toList
      have h2 : (cut70 y).size ≤ 70 := by unfold cut70; simp; omega
      omega
    have eks : ∀ k ∈ c.nums, -9223372036854775808 ≤ k ∧ k ≤ 9223372036854775807 := by
      rw [hcc]; intro k hk
      have h1 := HWF.out k (List.mem_of_mem_take hk)
      simp only [Lit.wf, Bool.and_eq_true, decide_eq_true_eq] at h1
      exact ⟨h1.1, h1.2⟩
    have ews : c.word.length ≤ 100000 := by have h1 := congrArg ByteArray.size eW; rw [strB_size] at h1; omega
    have ets : c.text.length ≤ 100000 := by have h1 := congrArg ByteArray.size eT; rw [strB_size] at h1; omega
    have ek9 : c.nums.length ≤ 100000 := by have h1 := HKU.out; omega
    have ekc : c.nums.length ≤ cy := by have h1 := HKU.out; omega
    rw [en2] at hvs hl1
    rw [← en] at hrd
    have hkd : Rd wc A2 (c.nums.map (Value.int .i64)) := by rw [eky]; exact (rd_take HRY.out ku).below hmw.bel
    have HCV := Lib.hid (show CVal wc c B1 l1 A2 cy from ⟨hrd, hkd, hl1, ekc, by omega, ek9, ens, ews, ets, eks⟩)
    have HBW := Lib.hid hmw.bel
    have HKY0 := Lib.hid (hmw.blk 1 rfl)
    clear hcc hmw hrd hkd en eky ens eks ews ets ek9 ekc HRX HRY HWF HQ HKU HV HCW HCT HC1 HNX HNY
    clear en2 hl1
    subst eW eT ek hvs
    have HKY := HKY0
    obtain ⟨T, hT⟩ : ∃ T, T = strB (line c) := ⟨_, rfl⟩
    obtain ⟨g, hg⟩ : ∃ g, g = chk c := ⟨_, rfl⟩
    have hgl : g ≤ 20 := by
      rw [hg]; unfold chk
      split
      · exact Nat.le_refl _
      · split <;> decide
    have HRL := Lib.hid (show ∀ W, Below w.heap.size w W → CVal W c B1 l1 A2 cy → Calls Tryd.prog 15 #[.agg #[.string (strB c.word), .slice B1 c.names.length l1, .slice A2 c.nums.length cy, .string (strB c.text)]] W fun e w' => e = .returned (.tuple #[.string T, .int .i64 g]) ∧ Below W.heap.size W w' from fun W hW hc => by
      have h := RefLine_any W a (HX.out.below hW) c B1 A2 l1 cy hc
      rw [← hg, ← hT] at h
      exact h)
    have HLI := Lib.hid (show ∀ W, Below w.heap.size w W → CVal W c B1 l1 A2 cy → Calls Tryd.prog 14 #[.agg #[.string (strB c.word), .slice B1 c.names.length l1, .slice A2 c.nums.length cy, .string (strB c.text)]] W fun e w' => e = .returned (.string T) ∧ Below W.heap.size W w' from fun W hW hc => by
      have h := Line_any W a (HX.out.below hW) c B1 A2 l1 cy hc
      rw [← hT] at h
      exact h)
    have HCK := Lib.hid (show ∀ W, Below w.heap.size w W → CVal W c B1 l1 A2 cy → Calls Tryd.prog 13 #[.agg #[.string (strB c.word), .slice B1 c.names.length l1, .slice A2 c.nums.length cy, .string (strB c.text)]] W fun e w' => e = .returned (Ei.evA a g) ∧ Below W.heap.size W w' from fun W hW hc => by
      have h := Check_any W a (HX.out.below hW) c B1 A2 l1 cy hc
      rw [← hg] at h
      exact h)
    have HCG := Lib.hid (show ∀ W, Below w.heap.size w W → Calls Tryd.prog 11 #[Ei.evA a g] W fun e w' => e = .returned (.int .i64 g) ∧ W = w' from fun W hW => (Code_at W a (HX.out.below hW) g hgl))
    have HPT := Lib.hid (show g = 0 → ∀ W, Below w.heap.size w W → Calls Tryd.prog 9 #[.string T] W fun e w' => ∃ D1 m1 D2 m2, e = .returned (.tuple #[.agg #[.string (strB c.word), .slice D1 c.names.length m1, .slice D2 c.nums.length m2, .string (strB c.text)], .nilIface]) ∧ CVal w' c D1 m1 D2 m2 ∧ Below W.heap.size W w' from fun h0 W hW => by
      have hch : chk c = 0 := hg ▸ h0
      have hTs : T.size ≤ 1000000 := by have := (back hch).2; rw [hT, strB_size]; omega
      refine (Parse_any W a (HX.out.below hW) T hTs).mono ?_
      intro e w' h
      have := h.both
      rw [hT, show (strB (line c)).data.toList = line c from rfl, rd_line hch] at this
      exact this)
    have tt : (T.toList == T.toList) = true := beq_self_eq_true _
    have ttn : (T.toList != T.toList) = false := by rw [bne, tt]; rfl
    have gg : ((g : Int) == (g : Int)) = true := beq_self_eq_true _
    have ggn : ((g : Int) != (g : Int)) = false := by rw [bne, gg]; rfl
    have gn : (g == g) = true := beq_self_eq_true _
    have gnn : (g != g) = false := by rw [bne, gn]; rfl
    clear hT hg
    have p0 := HKY.out.cell 0 (v := .string (strB c.word)) rfl
    have p1 := HKY.out.cell 1 (v := .slice B1 c.names.length l1) rfl
    have p2 := HKY.out.cell 2 (v := .slice A2 c.nums.length cy) rfl
    have p3 := HKY.out.cell 3 (v := .string (strB c.text)) rfl
    have HBZ := Lib.hid (show Below w.heap.size w (wc.alloc (.cells #[.string (strB c.word), .slice B1 c.names.length l1, .slice A2 c.nums.length cy, .string (strB c.text)] 27)) from HBW.out.trans ((Below.refl _ _).alloc HBW.out.size _))
    have HKC := Lib.hid (Rg.Blk.new wc #[.string (strB c.word), .slice B1 c.names.length l1, .slice A2 c.nums.length cy, .string (strB c.text)] 27)
    have HKB := Lib.hid (HKY.out.alloc (.cells #[.string (strB c.word), .slice B1 c.names.length l1, .slice A2 c.nums.length cy, .string (strB c.text)] 27))
    have HCZ := Lib.hid (HCV.out.below (show Below wc.heap.size wc (wc.alloc (.cells #[.string (strB c.word), .slice B1 c.names.length l1, .slice A2 c.nums.length cy, .string (strB c.text)] 27)) from (Below.refl _ _).alloc (Nat.le_refl _) _))
    go_upto_region 9 with (fail)
    generalize wc.alloc (.cells #[.string (strB c.word), .slice B1 c.names.length l1, .slice A2 c.nums.length cy, .string (strB c.text)] 27) = Z at *
    clear p0 p1 p2 p3
    have q0 := HKB.out.cell 0 (v := .string (strB c.word)) rfl
    have q1 := HKB.out.cell 1 (v := .slice B1 c.names.length l1) rfl
    have q2 := HKB.out.cell 2 (v := .slice A2 c.nums.length cy) rfl
    have q3 := HKB.out.cell 3 (v := .string (strB c.text)) rfl
    go_upto_region 10 with (go_at_call 15; refine (HRL.out _ HBZ.out HCZ.out).mono ?_; rintro e w5 ⟨rfl, hb⟩; skip; have HB5 := Lib.hid (HBZ.out.trans (hb.mono HBZ.out.size)); have HC5 := Lib.hid (HCZ.out.below hb); have HKB5 := Lib.hid (HKB.out.below hb HKB.out.lt); have HKC5 := Lib.hid (HKC.out.below hb HKC.out.lt); clear hb)
    have r0 := HKC5.out.cell 0 (v := .string (strB c.word)) rfl
    have r1 := HKC5.out.cell 1 (v := .slice B1 c.names.length l1) rfl
    have r2 := HKC5.out.cell 2 (v := .slice A2 c.nums.length cy) rfl
    have r3 := HKC5.out.cell 3 (v := .string (strB c.text)) rfl
    by_cases h0 : g = 0
    · have HPG := Lib.hid (HPT.out h0)
      subst h0
      go_upto_region 15 with (first
        | (go_at_call 13; refine (HCK.out _ HB5.out HC5.out).mono ?_; rintro e w6 ⟨rfl, hb⟩; skip; have HB6 := Lib.hid (HB5.out.trans (hb.mono HB5.out.size)); have HC6 := Lib.hid (HC5.out.below hb); have HKB6 := Lib.hid (HKB5.out.below hb HKB5.out.lt); have HKC6 := Lib.hid (HKC5.out.below hb HKC5.out.lt); have s0 := HKC6.out.cell 0 (v := .string (strB c.word)) rfl; have s1 := HKC6.out.cell 1 (v := .slice B1 c.names.length l1) rfl; have s2 := HKC6.out.cell 2 (v := .slice A2 c.nums.length cy) rfl; have s3 := HKC6.out.cell 3 (v := .string (strB c.text)) rfl; clear hb)
        | (go_at_call 11; refine (HCG.out _ HB6.out).mono ?_; rintro e w' ⟨rfl, rfl⟩)
        | (go_at_call 14; refine (HLI.out _ HB6.out HC6.out).mono ?_; rintro e w7 ⟨rfl, hb⟩; skip; have HB7 := Lib.hid (HB6.out.trans (hb.mono HB6.out.size)); have HC7 := Lib.hid (HC6.out.below hb); have HKB7 := Lib.hid (HKB6.out.below hb HKB6.out.lt); clear hb)
        | (go_at_call 9; refine (HPG.out _ HB7.out).mono ?_; rintro e w8 ⟨D1, m1, D2, m2, rfl, hcv, hb⟩; skip; have HCD := Lib.hid hcv; have HB8 := Lib.hid (HB7.out.trans (hb.mono HB7.out.size)); have HC8 := Lib.hid (HC7.out.below hb); have HKB8 := Lib.hid (HKB7.out.below hb HKB7.out.lt); clear hcv hb))
      have hyz := show Below w8.heap.size w8 (w8.alloc (.cells #[.string (strB c.word), .slice D1 c.names.length m1, .slice D2 c.nums.length m2, .string (strB c.text)] 27)) from (Below.refl _ _).alloc (Nat.le_refl _) _
      have HBV := Lib.hid (HB8.out.trans (hyz.mono HB8.out.size))
      have HKD := Lib.hid (Rg.Blk.new w8 #[.string (strB c.word), .slice D1 c.names.length m1, .slice D2 c.nums.length m2, .string (strB c.text)] 27)
      have HKB9 := Lib.hid (HKB8.out.alloc (.cells #[.string (strB c.word), .slice D1 c.names.length m1, .slice D2 c.nums.length m2, .string (strB c.text)] 27))
      have HC9 := Lib.hid (HC8.out.below hyz)
      have HCD9 := Lib.hid (HCD.out.below hyz)
      clear hyz
      generalize w8.alloc (.cells #[.string (strB c.word), .slice D1 c.names.length m1, .slice D2 c.nums.length m2, .string (strB c.text)] 27) = V9 at *
      have u0 := HKD.out.cell 0 (v := .string (strB c.word)) rfl
      have u1 := HKD.out.cell 1 (v := .slice D1 c.names.length m1) rfl
      have u2 := HKD.out.cell 2 (v := .slice D2 c.nums.length m2) rfl
      have u3 := HKD.out.cell 3 (v := .string (strB c.text)) rfl
      have v0 := HKB9.out.cell 0 (v := .string (strB c.word)) rfl
      have v1 := HKB9.out.cell 1 (v := .slice B1 c.names.length l1) rfl
      have v2 := HKB9.out.cell 2 (v := .slice A2 c.nums.length cy) rfl
      have v3 := HKB9.out.cell 3 (v := .string (strB c.text)) rfl
      go_wp2_with (go_at_call 12; refine (Same_true _ c D1 D2 B1 A2 m1 m2 l1 cy HCD9.out HC9.out).mono ?_; rintro e w10 ⟨rfl, hb⟩; skip; have HB10 := Lib.hid (HBV.out.trans (hb.mono HBV.out.size)); clear hb)
      go_ret
      exact ⟨rfl, HB10.out⟩
    · have g0 : ((g : Int) == 0) = false := by rw [beq_eq_false_iff_ne]; omega
      have g1 : ((g : Int) != 0) = true := by rw [bne_iff_ne]; omega
      have g2 : (g == 0) = false := by rw [beq_eq_false_iff_ne]; omega
      clear h0
      go_wp2_with (first
        | (go_at_call 13; refine (HCK.out _ HB5.out HC5.out).mono ?_; rintro e w6 ⟨rfl, hb⟩; skip; have HB6 := Lib.hid (HB5.out.trans (hb.mono HB5.out.size)); have HC6 := Lib.hid (HC5.out.below hb); have HKB6 := Lib.hid (HKB5.out.below hb HKB5.out.lt); have HKC6 := Lib.hid (HKC5.out.below hb HKC5.out.lt); have s0 := HKC6.out.cell 0 (v := .string (strB c.word)) rfl; have s1 := HKC6.out.cell 1 (v := .slice B1 c.names.length l1) rfl; have s2 := HKC6.out.cell 2 (v := .slice A2 c.nums.length cy) rfl; have s3 := HKC6.out.cell 3 (v := .string (strB c.text)) rfl; clear hb)
        | (go_at_call 11; refine (HCG.out _ HB6.out).mono ?_; rintro e w' ⟨rfl, rfl⟩)
        | (go_at_call 14; refine (HLI.out _ HB6.out HC6.out).mono ?_; rintro e w7 ⟨rfl, hb⟩; skip; have HB7 := Lib.hid (HB6.out.trans (hb.mono HB6.out.size)); have HC7 := Lib.hid (HC6.out.below hb); have HKB7 := Lib.hid (HKB6.out.below hb HKB6.out.lt); clear hb))
      go_ret
      exact ⟨rfl, HB7.out⟩
end Go.Proofs.YtonjgfbefhefjaaDoor.Ln
