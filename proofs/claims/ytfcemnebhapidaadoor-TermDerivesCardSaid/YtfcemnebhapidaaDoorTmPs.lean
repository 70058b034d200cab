/- Parse; what a term tells. -/
import Derived.Test.YtfcemnebhapidaaDoorTmPar
import Derived.Test.YtfcemnebhapidaaDoorErrIn
set_option linter.unusedVariables false
set_option linter.unusedSimpArgs false
namespace Go.Proofs.YtfcemnebhapidaaDoor.Te
open Go.RowKit Go.Proofs.YtfcemnebhapidaaDoor.Ow
/-- the errors that terms are refused with -/
abbrev ErrsT : World → (Nat → Addr) → Prop := Ei.ErrsIn [2, 3, 6]
attribute [local irreducible] pT
theorem store_blk_op {P : Program} {o : Oper} {a : Act} {w : World} {K : Act → World → Prop} {Q : Exit → Act → World → Prop} (ty : TypeId) (x y : Operand) (ho : o.op = .store ty x y)
    (b : Nat) (cs old : Array Value) (T : TypeId) (hx : a.eval x = .pointer (some ⟨b, 0, none⟩)) (hy : a.eval y = .agg cs) (hB : Rg.Blk w b T old)
    (hi : (P.info? ty).map (·.size) = some cs.size) (hold : old.size = cs.size) (h1 : cs.all (·.oneCell') = true)
    (h : ∀ X, Rg.Blk X b T cs → w.grownBy X (some b) → K (a.put o.dst undef) X) : Oper.wp P o a w K Q :=
  wp_store_row ty x y ho b cs hx hy T old hB hi hold h1 (h _ hB.setRow ⟨rfl, rfl, rfl, by simp, fun k _ hk => setRow_other w b k cs (fun e => hk (congrArg some e))⟩)
def RDr (w0 : World) (W : World) : Prop := Below w0.heap.size w0 W
theorem RDr.lat {w0 W W' : World} (h : RDr w0 W) (hb : Below W.heap.size W W') : RDr w0 W' := Below.trans h (Below.mono hb h.size)
set_option maxRecDepth 20000 in
set_option maxHeartbeats 8000000 in
theorem Parse_some (w : World) (s : List UInt8) (t : Tm) (hs : s.length ≤ 1000) (h : parse s = some t) :
    Calls Tryd.prog 24 #[.string (strB s)] w fun e w' => ∃ p, e = .returned (.tuple #[.agg (tv t p), .nilIface]) ∧ FT w.heap.size w' t p ∧ Below w.heap.size w w' := by
  have hp : pT (s.length + 1) s = some (t, []) := by
    unfold parse at h
    split at h
    · rename_i t' e
      rw [e]
      rw [Option.some.inj h]
    · cases h
  have HTM := Lib.hid (show ∀ W b, Rg.Blk W b 74 #[.string (strB s)] → Calls Tryd.prog 40 #[.pointer (some ⟨b, 0, none⟩)] W fun e w' => ∃ p, e = .returned (.tuple #[.agg (tv t p), .bool true]) ∧ FT W.heap.size w' t p ∧ Rg.Blk w' b 74 #[.string (strB [])] ∧ Gb W b w' from fun W b hW => by have := term_any (s.length + 1) W b s (by omega) hs hW; rw [hp] at this; exact this)
  clear h hp
  have hsz : (strB s).size = s.length := strB_size s
  have hd1 : decide ((1000 : Int) < s.length) = false := by simp; omega
  have hd2 : decide (1000 < s.length) = false := by simp; omega
  go_enter Tryd.func24, Tryd.ntmps24
  have HZ := Lib.hid (Rg.Blk.new w #[.string ⟨#[]⟩, .string ⟨#[]⟩, .slice none 0 0] 31)
  have HBW := Lib.hid (show Below w.heap.size w (w.alloc (.cells #[.string ⟨#[]⟩, .string ⟨#[]⟩, .slice none 0 0] 31)) from (Below.refl _ _).alloc (Nat.le_refl _) _)
  go_upto_region 5 with (first
    | (refine Rg.box_fresh rfl 74 _ rfl #[.string (strB s)] rfl ?_; intro X hX hbX hnX; have HB := Lib.hid (show Rg.Blk X (w.heap.size + 1) 74 #[.string (strB s)] from (by have h9 := hX; rw [World.size_alloc] at h9; exact h9)); have HZx := Lib.hid (HZ.out.below hbX HZ.out.lt); clear HZ; have HZ := HZx; clear HZx; have HBWx := Lib.hid (HBW.out.trans (Below.mono hbX HBW.out.size)); clear HBW; have HBW := HBWx; clear HBWx; clear hX hbX hnX)
    | (go_at_call 40; refine (HTM.out _ (w.heap.size + 1) HB.out).mono ?_; rintro e W2 ⟨p, rfl, htp, hb2, hg2⟩; obtain ⟨Aa, ca, rfl⟩ := htp.tp.slice; skip; have HT := Lib.hid (htp.mono HZ.out.lt); have HBWx := Lib.hid (HBW.out.grown hg2 HBW.out.size (fun j hj => by cases hj; omega)); clear HBW; have HBW := HBWx; clear HBWx; have HZx := Lib.hid (tblk_kept HZ.out hg2 (by omega)); clear HZ; have HZ := HZx; clear HZx; clear HB; have HB := Lib.hid hb2; clear htp hb2 hg2)
    | (refine Rg.store_fresh rfl 31 _ _ rfl #[.string (strB (Tm.knd t)), .string (strB (Tm.txt t)), .slice Aa (Tm.prt t).length ca] _ 31 rfl rfl (by kernel_rfl) rfl (by simp [Value.oneCell']) ?_; intro Y hY hbY; have HY := Lib.hid hY; have HZx := Lib.hid (HZ.out.below hbY HZ.out.lt); clear HZ; have HZ := HZx; clear HZx; have HBWx := Lib.hid (HBW.out.trans (Below.mono hbY HBW.out.size)); clear HBW; have HBW := HBWx; clear HBWx; have HBx := Lib.hid (HB.out.below hbY HB.out.lt); clear HB; have HB := HBx; clear HBx; have HTx := Lib.hid (HT.out.below hbY); clear HT; have HT := HTx; clear HTx; clear hY hbY))
  have c0 := HB.out.cell 0 (v := .string (strB [])) rfl
  have he : ((strB []).toList == []) = true := by rw [strB_toList]; rfl
  go_wp2_with (first
    | (refine Cv.load_cells rfl 31 _ rfl _ 0 rfl #[.string (strB (Tm.knd t)), .string (strB (Tm.txt t)), .slice Aa (Tm.prt t).length ca] _ (fun j v hv => by rw [Nat.zero_add]; exact HY.out.cell j hv) Tryd.underlying31 rfl (by kernel_rfl) ?_; skip)
    | (refine Cv.store_blk rfl 31 _ _ rfl w.heap.size #[.string (strB (Tm.knd t)), .string (strB (Tm.txt t)), .slice Aa (Tm.prt t).length ca] #[.string ⟨#[]⟩, .string ⟨#[]⟩, .slice none 0 0] 31 rfl rfl HZ.out (by kernel_rfl) rfl (by simp [Value.oneCell']) ?_; intro V hV hgV; have HV := Lib.hid hV; have HGV := Lib.hid hgV; clear hV hgV))
  have p0 := HV.out.cell 0 (v := .string (strB (Tm.knd t))) rfl
  have p1 := HV.out.cell 1 (v := .string (strB (Tm.txt t))) rfl
  have p2 := HV.out.cell 2 (v := .slice Aa (Tm.prt t).length ca) rfl
  have hz6 := HV.out.lt
  refine bodyPost_ret (v := .tuple #[.agg (tv t (.slice Aa (Tm.prt t).length ca)), .nilIface]) (by simp [tv, results, Tryd.results24, go_sem, p0, p1, p2, hz6]) rfl ?_
  exact ⟨_, rfl, (HT.out.on HGV.out.size (fun k h1 h2 => HGV.out.block k h2 (fun e => by have e := Option.some.inj e; omega))).mono (Nat.le_succ _), HBW.out.grown HGV.out HBW.out.size (fun j hj => by cases hj; exact Nat.le_refl _)⟩
set_option maxRecDepth 20000 in
set_option maxHeartbeats 8000000 in
theorem Parse_none (w : World) (s : List UInt8) (hs : s.length ≤ 1000) (h : parse s = none) (a : Nat → Addr) (hE : ErrsT w a) :
    Calls Tryd.prog 24 #[.string (strB s)] w fun e w' => e = .returned (.tuple #[.agg #[.string ⟨#[]⟩, .string ⟨#[]⟩, .slice none 0 0], .iface 137 (.pointer (some (a 3)))]) ∧ Below w.heap.size w w' := by
  obtain ⟨o, hp⟩ : ∃ o, pT (s.length + 1) s = o := ⟨_, rfl⟩
  cases o with
  | none =>
    have HTM := Lib.hid (show ∀ W b, Rg.Blk W b 74 #[.string (strB s)] → Calls Tryd.prog 40 #[.pointer (some ⟨b, 0, none⟩)] W fun e w' => ∃ x y S, e = .returned (.tuple #[.agg #[.string x, .string y, .slice none 0 0], .bool false]) ∧ Rg.Blk w' b 74 #[.string S] ∧ Gb W b w' from fun W b hW => by have := term_any (s.length + 1) W b s (by omega) hs hW; rw [hp] at this; exact this)
    clear h hp
    have HE := Lib.hid (fun W (hW : Below w.heap.size w W) => show W.cell? ⟨0, 0, none⟩ = some (.iface 137 (.pointer (some (a 3)))) from (hE.below hW).cell 2 (by decide))
    have hsz : (strB s).size = s.length := strB_size s
    have hd1 : decide ((1000 : Int) < s.length) = false := by simp; omega
    have hd2 : decide (1000 < s.length) = false := by simp; omega
    go_enter Tryd.func24, Tryd.ntmps24
    have HZ := Lib.hid (Rg.Blk.new w #[.string ⟨#[]⟩, .string ⟨#[]⟩, .slice none 0 0] 31)
    have HBW := Lib.hid (show Below w.heap.size w (w.alloc (.cells #[.string ⟨#[]⟩, .string ⟨#[]⟩, .slice none 0 0] 31)) from (Below.refl _ _).alloc (Nat.le_refl _) _)
    go_upto_region 5 with (first
      | (refine Rg.box_fresh rfl 74 _ rfl #[.string (strB s)] rfl ?_; intro X hX hbX hnX; have HB := Lib.hid (show Rg.Blk X (w.heap.size + 1) 74 #[.string (strB s)] from (by have h9 := hX; rw [World.size_alloc] at h9; exact h9)); have HZx := Lib.hid (HZ.out.below hbX HZ.out.lt); clear HZ; have HZ := HZx; clear HZx; have HBWx := Lib.hid (HBW.out.trans (Below.mono hbX HBW.out.size)); clear HBW; have HBW := HBWx; clear HBWx; clear hX hbX hnX)
      | (go_at_call 40; refine (HTM.out _ (w.heap.size + 1) HB.out).mono ?_; rintro e W2 ⟨xn, yn, Sn, rfl, hb2, hg2⟩; skip; have HBWx := Lib.hid (HBW.out.grown hg2 HBW.out.size (fun j hj => by cases hj; omega)); clear HBW; have HBW := HBWx; clear HBWx; have HZx := Lib.hid (tblk_kept HZ.out hg2 (by omega)); clear HZ; have HZ := HZx; clear HZx; clear HB; have HB := Lib.hid hb2; clear hb2 hg2)
      | (refine Rg.store_fresh rfl 31 _ _ rfl #[.string xn, .string yn, .slice none 0 0] _ 31 rfl rfl (by kernel_rfl) rfl (by simp [Value.oneCell']) ?_; intro Y hY hbY; have HY := Lib.hid hY; have HZx := Lib.hid (HZ.out.below hbY HZ.out.lt); clear HZ; have HZ := HZx; clear HZx; have HBWx := Lib.hid (HBW.out.trans (Below.mono hbY HBW.out.size)); clear HBW; have HBW := HBWx; clear HBWx; have HBx := Lib.hid (HB.out.below hbY HB.out.lt); clear HB; have HB := HBx; clear HBx; clear hY hbY))
    have c0 := HB.out.cell 0 (v := .string Sn) rfl
    go_upto_region 6 with fail
    clear c0
    have _zz := True.intro
    refine wp_name (fun Zw hZw => ?_)
    have HZz := Lib.hid (show Rg.Blk Zw w.heap.size 31 #[.string ⟨#[]⟩, .string ⟨#[]⟩, .slice none 0 0] by rw [hZw]; first | exact HZ.out | exact HZ.out.below (bdN (Below.refl _ _) _) HZ.out.lt)
    have HBz := Lib.hid (show RDr w Zw by rw [hZw]; first | exact HBW.out | exact bdN HBW.out _)
    clear hZw
    refine RL.start (RDr w) (by kernel_rfl) (HBz.out.lat (Below.drew (Below.refl _ _))) ?_
    refine' RL.takeV (i := 0) (v := _) rfl (by kernel_rfl) (by kernel_rfl) (by kernel_rfl) (fun _ _ _ h => h) (by rfl) ?hk1 ?_
    case hk1 => (intro W hSW; go_simp; try with_reducible rfl)
    (try simp only [Act.put, List.setIfInBounds_toArray, List.set_cons_zero, List.set_cons_succ])
    refine' RL.takeV (i := 1) (v := _) rfl (by kernel_rfl) (by kernel_rfl) (by kernel_rfl) (fun _ _ _ h => h) (by rfl) ?hk2 ?_
    case hk2 => (intro W hSW; have e3 := HE.out W hSW; go_simp; try with_reducible rfl)
    (try simp only [Act.put, List.setIfInBounds_toArray, List.set_cons_zero, List.set_cons_succ])
    refine RL.stepK (i := 2) rfl (by kernel_rfl) (by rfl) (fun wa hlwa hswa K hK => ?_)
    have HZa := Lib.hid ((HZz.out.below (Below.drew (Below.refl _ _)) HZz.out.lt).below hlwa HZz.out.lt)
    refine store_blk_op 31 _ _ rfl w.heap.size #[.string ⟨#[]⟩, .string ⟨#[]⟩, .slice none 0 0] #[.string ⟨#[]⟩, .string ⟨#[]⟩, .slice none 0 0] 31 rfl rfl HZa.out (by kernel_rfl) rfl (by simp [Value.oneCell']) ?_
    intro V hV hgV
    have HV := Lib.hid hV
    refine hK.out _ _ (show RDr w V from Below.grown hswa hgV (Below.size hswa) (fun j hj => by cases hj; exact Nat.le_refl _)) ?_
    clear hK hgV hV
    (try simp only [Act.put, List.setIfInBounds_toArray, List.set_cons_zero, List.set_cons_succ])
    refine' RL.takeV (i := 3) (v := _) rfl (by kernel_rfl) (by kernel_rfl) (by kernel_rfl) (fun _ _ _ h => h) (by rfl) ?hk3 ?_
    case hk3 => (intro W hSW; go_simp; try with_reducible rfl)
    (try simp only [Act.put, List.setIfInBounds_toArray, List.set_cons_zero, List.set_cons_succ])
    refine RL.done (by kernel_rfl) (fun wd hlwd hswd => ?_)
    have HVd := Lib.hid (HV.out.below hlwd HV.out.lt)
    have HBd := Lib.hid (show Below w.heap.size w wd from hswd)
    clear hlwd hswd
    have p0 := HVd.out.cell 0 (v := .string ⟨#[]⟩) rfl
    have p1 := HVd.out.cell 1 (v := .string ⟨#[]⟩) rfl
    have p2 := HVd.out.cell 2 (v := .slice none 0 0) rfl
    have hz6 := HVd.out.lt
    go_wp2
    refine bodyPost_ret (v := .tuple #[.agg #[.string ⟨#[]⟩, .string ⟨#[]⟩, .slice none 0 0], .iface 137 (.pointer (some (a 3)))]) (by simp [results, Tryd.results24, go_sem, p0, p1, p2, hz6]) rfl ?_
    exact ⟨rfl, HBd.out⟩
  | some y =>
    obtain ⟨t, r⟩ := y
    have hr : r ≠ [] := by
      rintro rfl
      unfold parse at h
      rw [hp] at h
      cases h
    have HTM := Lib.hid (show ∀ W b, Rg.Blk W b 74 #[.string (strB s)] → Calls Tryd.prog 40 #[.pointer (some ⟨b, 0, none⟩)] W fun e w' => ∃ p, e = .returned (.tuple #[.agg (tv t p), .bool true]) ∧ FT W.heap.size w' t p ∧ Rg.Blk w' b 74 #[.string (strB r)] ∧ Gb W b w' from fun W b hW => by have := term_any (s.length + 1) W b s (by omega) hs hW; rw [hp] at this; exact this)
    clear h hp
    have HE := Lib.hid (fun W (hW : Below w.heap.size w W) => show W.cell? ⟨0, 0, none⟩ = some (.iface 137 (.pointer (some (a 3)))) from (hE.below hW).cell 2 (by decide))
    have hsz : (strB s).size = s.length := strB_size s
    have hd1 : decide ((1000 : Int) < s.length) = false := by simp; omega
    have hd2 : decide (1000 < s.length) = false := by simp; omega
    go_enter Tryd.func24, Tryd.ntmps24
    have HZ := Lib.hid (Rg.Blk.new w #[.string ⟨#[]⟩, .string ⟨#[]⟩, .slice none 0 0] 31)
    have HBW := Lib.hid (show Below w.heap.size w (w.alloc (.cells #[.string ⟨#[]⟩, .string ⟨#[]⟩, .slice none 0 0] 31)) from (Below.refl _ _).alloc (Nat.le_refl _) _)
    go_upto_region 5 with (first
      | (refine Rg.box_fresh rfl 74 _ rfl #[.string (strB s)] rfl ?_; intro X hX hbX hnX; have HB := Lib.hid (show Rg.Blk X (w.heap.size + 1) 74 #[.string (strB s)] from (by have h9 := hX; rw [World.size_alloc] at h9; exact h9)); have HZx := Lib.hid (HZ.out.below hbX HZ.out.lt); clear HZ; have HZ := HZx; clear HZx; have HBWx := Lib.hid (HBW.out.trans (Below.mono hbX HBW.out.size)); clear HBW; have HBW := HBWx; clear HBWx; clear hX hbX hnX)
      | (go_at_call 40; refine (HTM.out _ (w.heap.size + 1) HB.out).mono ?_; rintro e W2 ⟨p, rfl, htp, hb2, hg2⟩; obtain ⟨Aa, ca, rfl⟩ := htp.tp.slice; skip; have HT := Lib.hid (htp.mono HZ.out.lt); have HBWx := Lib.hid (HBW.out.grown hg2 HBW.out.size (fun j hj => by cases hj; omega)); clear HBW; have HBW := HBWx; clear HBWx; have HZx := Lib.hid (tblk_kept HZ.out hg2 (by omega)); clear HZ; have HZ := HZx; clear HZx; clear HB; have HB := Lib.hid hb2; clear htp hb2 hg2)
      | (refine Rg.store_fresh rfl 31 _ _ rfl #[.string (strB (Tm.knd t)), .string (strB (Tm.txt t)), .slice Aa (Tm.prt t).length ca] _ 31 rfl rfl (by kernel_rfl) rfl (by simp [Value.oneCell']) ?_; intro Y hY hbY; have HY := Lib.hid hY; have HZx := Lib.hid (HZ.out.below hbY HZ.out.lt); clear HZ; have HZ := HZx; clear HZx; have HBWx := Lib.hid (HBW.out.trans (Below.mono hbY HBW.out.size)); clear HBW; have HBW := HBWx; clear HBWx; have HBx := Lib.hid (HB.out.below hbY HB.out.lt); clear HB; have HB := HBx; clear HBx; have HTx := Lib.hid (HT.out.below hbY); clear HT; have HT := HTx; clear HTx; clear hY hbY))
    have c0 := HB.out.cell 0 (v := .string (strB r)) rfl
    have he : ((strB r).toList == []) = false := by rw [strB_toList, beq_eq_false_iff_ne]; exact hr
    go_upto_region 6 with fail
    clear c0 he
    have _zz := True.intro
    refine wp_name (fun Zw hZw => ?_)
    have HZz := Lib.hid (show Rg.Blk Zw w.heap.size 31 #[.string ⟨#[]⟩, .string ⟨#[]⟩, .slice none 0 0] by rw [hZw]; first | exact HZ.out | exact HZ.out.below (bdN (Below.refl _ _) _) HZ.out.lt)
    have HBz := Lib.hid (show RDr w Zw by rw [hZw]; first | exact HBW.out | exact bdN HBW.out _)
    clear hZw
    refine RL.start (RDr w) (by kernel_rfl) (HBz.out.lat (Below.drew (Below.refl _ _))) ?_
    refine' RL.takeV (i := 0) (v := _) rfl (by kernel_rfl) (by kernel_rfl) (by kernel_rfl) (fun _ _ _ h => h) (by rfl) ?hk4 ?_
    case hk4 => (intro W hSW; go_simp; try with_reducible rfl)
    (try simp only [Act.put, List.setIfInBounds_toArray, List.set_cons_zero, List.set_cons_succ])
    refine' RL.takeV (i := 1) (v := _) rfl (by kernel_rfl) (by kernel_rfl) (by kernel_rfl) (fun _ _ _ h => h) (by rfl) ?hk5 ?_
    case hk5 => (intro W hSW; have e3 := HE.out W hSW; go_simp; try with_reducible rfl)
    (try simp only [Act.put, List.setIfInBounds_toArray, List.set_cons_zero, List.set_cons_succ])
    refine RL.stepK (i := 2) rfl (by kernel_rfl) (by rfl) (fun wa hlwa hswa K hK => ?_)
    have HZa := Lib.hid ((HZz.out.below (Below.drew (Below.refl _ _)) HZz.out.lt).below hlwa HZz.out.lt)
    refine store_blk_op 31 _ _ rfl w.heap.size #[.string ⟨#[]⟩, .string ⟨#[]⟩, .slice none 0 0] #[.string ⟨#[]⟩, .string ⟨#[]⟩, .slice none 0 0] 31 rfl rfl HZa.out (by kernel_rfl) rfl (by simp [Value.oneCell']) ?_
    intro V hV hgV
    have HV := Lib.hid hV
    refine hK.out _ _ (show RDr w V from Below.grown hswa hgV (Below.size hswa) (fun j hj => by cases hj; exact Nat.le_refl _)) ?_
    clear hK hgV hV
    (try simp only [Act.put, List.setIfInBounds_toArray, List.set_cons_zero, List.set_cons_succ])
    refine' RL.takeV (i := 3) (v := _) rfl (by kernel_rfl) (by kernel_rfl) (by kernel_rfl) (fun _ _ _ h => h) (by rfl) ?hk6 ?_
    case hk6 => (intro W hSW; go_simp; try with_reducible rfl)
    (try simp only [Act.put, List.setIfInBounds_toArray, List.set_cons_zero, List.set_cons_succ])
    refine RL.done (by kernel_rfl) (fun wd hlwd hswd => ?_)
    have HVd := Lib.hid (HV.out.below hlwd HV.out.lt)
    have HBd := Lib.hid (show Below w.heap.size w wd from hswd)
    clear hlwd hswd
    have p0 := HVd.out.cell 0 (v := .string ⟨#[]⟩) rfl
    have p1 := HVd.out.cell 1 (v := .string ⟨#[]⟩) rfl
    have p2 := HVd.out.cell 2 (v := .slice none 0 0) rfl
    have hz6 := HVd.out.lt
    go_wp2
    refine bodyPost_ret (v := .tuple #[.agg #[.string ⟨#[]⟩, .string ⟨#[]⟩, .slice none 0 0], .iface 137 (.pointer (some (a 3)))]) (by simp [results, Tryd.results24, go_sem, p0, p1, p2, hz6]) rfl ?_
    exact ⟨rfl, HBd.out⟩
end Go.Proofs.YtfcemnebhapidaaDoor.Te
