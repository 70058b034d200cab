/- Lookup: whose is a key? -/
import Derived.Test.YtgdbplciepiinaaDoorStSt
import Derived.Test.YtgdbplciepiinaaDoorErrA
set_option linter.unusedVariables false
set_option linter.unusedSimpArgs false
namespace Go.Proofs.YtgdbplciepiinaaDoor.St
open Go.RowKit Go.Proofs.YtgdbplciepiinaaDoor.Ow Go.Proofs.YtgdbplciepiinaaDoor.Mp Go.Maps
theorem store_blk_op {P : Program} {o : Oper} {a : Act} {w : World} {K : Act → World → Prop} {Q : Exit → Act → World → Prop} (ty : TypeId) (x y : Operand) (ho : o.op = .store ty x y)
    (b : Nat) (cs old : Array Value) (T : TypeId) (hx : a.eval x = .pointer (some ⟨b, 0, none⟩)) (hy : a.eval y = .agg cs) (hB : Rg.Blk w b T old)
    (hi : (P.info? ty).map (·.size) = some cs.size) (hold : old.size = cs.size) (h1 : cs.all (·.oneCell') = true)
    (h : ∀ X, Rg.Blk X b T cs → w.grownBy X (some b) → K (a.put o.dst undef) X) : Oper.wp P o a w K Q :=
  wp_store_row ty x y ho b cs hx hy T old hB hi hold h1 (h _ hB.setRow ⟨rfl, rfl, rfl, by simp, fun k _ hk => setRow_other w b k cs (fun e => hk (congrArg some e))⟩)
theorem bdN {B : Nat} {w w' : World} (h : Below B w w') (n : Nat) : Below B w (w'.drewN n) := ⟨h.os, h.tape, h.output, h.size, h.block⟩
theorem look_who {w : World} {sb bo bw T K N : Nat} {L : List Pr} (h : IsSt w sb bo bw T K N L) (k : List UInt8) (hk : k.length = 32) :
    (Instr.lookup 56 (.map (some bw)) (.agg (Cv.bytesV k)) true).run Tryd.prog w = .ok (.tuple #[((whoOf L k).map fun t => Value.agg #[.string (strB t)]).getD (.agg #[.string ⟨#[]⟩]), .bool (whoOf L k).isSome]) w := by
  obtain ⟨_, _, _, _, g, s, hg, hgx⟩ := h
  have hz : (zeroValue 62).run Tryd.prog w = .ok (.agg #[.string ⟨#[]⟩]) w := by kernel_rfl
  have := hg.lookOk keyed_key Tryd.underlying56 hz (key32 k hk)
  rw [hgx] at this
  rw [this]
  cases whoOf L k <;> rfl
set_option maxRecDepth 20000 in
set_option maxHeartbeats 4000000 in
theorem Lookup_some (w : World) (sb bo bw T K N : Nat) (L : List Pr) (h : IsSt w sb bo bw T K N L) (k : List UInt8) (hk : k.length = 32) (t : List UInt8) (hw : whoOf L k = some t) :
    Calls Tryd.prog 13 #[.pointer (some ⟨sb, 0, none⟩), .agg (Cv.bytesV k)] w fun e w' => e = .returned (.tuple #[.string (strB t), .nilIface]) ∧ Below w.heap.size w w' := by
  have HS := Lib.hid h
  have HK := Lib.hid hk
  have HV := Lib.hid (show (Cv.bytesV k).size = 32 by rw [Cv.bytesV_size, hk])
  have HW := Lib.hid hw
  clear h hk hw
  go_enter Tryd.func13, Tryd.ntmps13
  go_upto_region 1 with (refine Rg.box_fresh rfl 34 _ rfl (Cv.bytesV k) rfl ?_; intro X hX hbX hnX; have HX := Lib.hid hX; have HBX := Lib.hid hbX; clear hX hbX hnX)
  have HSX := Lib.hid (HS.out.below HBX.out)
  refine RL.start (RL.Aft X) (by kernel_rfl) (RL.Aft.drew (RL.Aft.refl X)) ?_
  refine' RL.takeV (i := 0) (v := _) rfl (by kernel_rfl) (by kernel_rfl) (by kernel_rfl) (fun _ _ _ h => h) (by rfl) ?hk1 ?_
  case hk1 => (intro W hSW; go_simp; try with_reducible rfl)
  (try simp only [Act.put, List.setIfInBounds_toArray, List.set_cons_zero, List.set_cons_succ])
  refine' RL.takeV (i := 1) (v := _) rfl (by kernel_rfl) (by kernel_rfl) (by kernel_rfl) (fun _ _ _ h => h) (by rfl) ?hk2 ?_
  case hk2 => (intro W hSW; go_simp; try with_reducible rfl)
  (try simp only [Act.put, List.setIfInBounds_toArray, List.set_cons_zero, List.set_cons_succ])
  refine' RL.takeV (i := 2) (v := _) rfl (by kernel_rfl) (by kernel_rfl) (by kernel_rfl) (fun _ _ _ h => h) (by rfl) ?hk3 ?_
  case hk3 => (intro W hSW; go_simp; try with_reducible rfl)
  (try simp only [Act.put, List.setIfInBounds_toArray, List.set_cons_zero, List.set_cons_succ])
  refine' RL.takeV (i := 3) (v := _) rfl (by kernel_rfl) (by kernel_rfl) (by kernel_rfl) (fun _ _ _ h => h) (by rfl) ?hk4 ?_
  case hk4 => (intro W hSW; have c3 := (HSX.out.below hSW).1.cell 3 (v := .map (some bw)) rfl; go_simp; try with_reducible rfl)
  (try simp only [Act.put, List.setIfInBounds_toArray, List.set_cons_zero, List.set_cons_succ])
  refine RL.takeV (i := 4) (v := .agg (Cv.bytesV k)) rfl (by kernel_rfl) (by kernel_rfl) (by kernel_rfl) (fun _ _ _ h => h) (by rfl) (fun W hSW => RT.run_row 34 _ rfl _ rfl _ _ (HX.out.below hSW HX.out.lt) Tryd.underlying34 rfl (by rw [HV.out]; kernel_rfl)) ?_
  (try simp only [Act.put, List.setIfInBounds_toArray, List.set_cons_zero, List.set_cons_succ])
  refine' RL.takeV (i := 5) (v := .tuple #[.agg #[.string (strB t)], .bool true]) rfl (by kernel_rfl) (by kernel_rfl) (by kernel_rfl) (fun _ _ _ h => h) (by rfl) ?hk5True ?_
  case hk5True => (intro W hSW; have hl := look_who (HSX.out.below hSW) k HK.out; rw [HW.out] at hl; simp only [Option.map_some, Option.map_none, Option.getD_some, Option.getD_none, Option.isSome_some, Option.isSome_none] at hl; go_simp; try with_reducible rfl)
  (try simp only [Act.put, List.setIfInBounds_toArray, List.set_cons_zero, List.set_cons_succ])
  refine' RL.takeV (i := 6) (v := _) rfl (by kernel_rfl) (by kernel_rfl) (by kernel_rfl) (fun _ _ _ h => h) (by rfl) ?hk5 ?_
  case hk5 => (intro W hSW; go_simp; try with_reducible rfl)
  (try simp only [Act.put, List.setIfInBounds_toArray, List.set_cons_zero, List.set_cons_succ])
  refine' RL.takeV (i := 7) (v := _) rfl (by kernel_rfl) (by kernel_rfl) (by kernel_rfl) (fun _ _ _ h => h) (by rfl) ?hk6 ?_
  case hk6 => (intro W hSW; go_simp; try with_reducible rfl)
  (try simp only [Act.put, List.setIfInBounds_toArray, List.set_cons_zero, List.set_cons_succ])
  refine' RL.takeV (i := 8) (v := _) rfl (by kernel_rfl) (by kernel_rfl) (by kernel_rfl) (fun _ _ _ h => h) (by rfl) ?hk7 ?_
  case hk7 => (intro W hSW; go_simp; try with_reducible rfl)
  (try simp only [Act.put, List.setIfInBounds_toArray, List.set_cons_zero, List.set_cons_succ])
  refine RL.stepK (i := 9) rfl (by kernel_rfl) (by rfl) (fun wa hlwa hswa K hK => ?_)
  go_simp
  have HLA := Lib.hid hswa
  refine hK.out _ _ (RL.Aft.alloc hswa _) ?_
  clear hK
  (try simp only [Act.put, List.setIfInBounds_toArray, List.set_cons_zero, List.set_cons_succ])
  refine RL.stepK (i := 10) rfl (by kernel_rfl) (by rfl) (fun wb hlwb hswb K hK => ?_)
  have hba := (Rg.Blk.new wa #[.string ⟨#[]⟩] 62).below hlwb (by simp)
  refine store_blk_op 62 _ _ rfl wa.heap.size #[.string (strB t)] #[.string ⟨#[]⟩] 62 rfl rfl hba (by kernel_rfl) rfl (by simp [Value.oneCell']) ?_
  intro Y hY hgY
  have HY := Lib.hid hY
  have HAY := Lib.hid (show RL.Aft X Y from Below.grown hswb hgY hswb.size (fun k hk => by cases hk; exact HLA.out.size))
  refine hK.out _ _ HAY.out ?_
  clear hK
  (try simp only [Act.put, List.setIfInBounds_toArray, List.set_cons_zero, List.set_cons_succ])
  refine' RL.takeV (i := 11) (v := _) rfl (by kernel_rfl) (by kernel_rfl) (by kernel_rfl) (fun _ _ _ h => h) (by rfl) ?hk8 ?_
  case hk8 => (intro W hSW; go_simp; try with_reducible rfl)
  (try simp only [Act.put, List.setIfInBounds_toArray, List.set_cons_zero, List.set_cons_succ])
  refine RL.done (by kernel_rfl) (fun wd hlwd hswd => ?_)
  have hd0 := (HY.out.below hlwd HY.out.lt).cell 0 (v := .string (strB t)) rfl
  have HBD := Lib.hid (HBX.out.trans (Below.mono hswd HBX.out.size))
  clear hlwd hswd
  go_wp2
  go_ret2
  exact ⟨rfl, HBD.out⟩
set_option maxRecDepth 20000 in
set_option maxHeartbeats 4000000 in
theorem Lookup_none (w : World) (sb bo bw T K N : Nat) (L : List Pr) (h : IsSt w sb bo bw T K N L) (k : List UInt8) (hk : k.length = 32) (a : Nat → Addr) (hE : Ei.ErrsAll w a) (hw : whoOf L k = none) :
    Calls Tryd.prog 13 #[.pointer (some ⟨sb, 0, none⟩), .agg (Cv.bytesV k)] w fun e w' => e = .returned (.tuple #[.string ⟨#[]⟩, .iface 119 (.pointer (some (a 8)))]) ∧ Below w.heap.size w w' := by
  have HS := Lib.hid h
  have HK := Lib.hid hk
  have HV := Lib.hid (show (Cv.bytesV k).size = 32 by rw [Cv.bytesV_size, hk])
  have HW := Lib.hid hw
  have HE := Lib.hid (fun W (hW : Below w.heap.size w W) => show W.cell? ⟨0, 0, none⟩ = some (.iface 119 (.pointer (some (a 8)))) from (hE.below hW).cell 7 (by decide))
  clear hE
  clear h hk hw
  go_enter Tryd.func13, Tryd.ntmps13
  go_upto_region 1 with (refine Rg.box_fresh rfl 34 _ rfl (Cv.bytesV k) rfl ?_; intro X hX hbX hnX; have HX := Lib.hid hX; have HBX := Lib.hid hbX; clear hX hbX hnX)
  have HSX := Lib.hid (HS.out.below HBX.out)
  refine RL.start (RL.Aft X) (by kernel_rfl) (RL.Aft.drew (RL.Aft.refl X)) ?_
  refine' RL.takeV (i := 0) (v := _) rfl (by kernel_rfl) (by kernel_rfl) (by kernel_rfl) (fun _ _ _ h => h) (by rfl) ?hk9 ?_
  case hk9 => (intro W hSW; go_simp; try with_reducible rfl)
  (try simp only [Act.put, List.setIfInBounds_toArray, List.set_cons_zero, List.set_cons_succ])
  refine' RL.takeV (i := 1) (v := _) rfl (by kernel_rfl) (by kernel_rfl) (by kernel_rfl) (fun _ _ _ h => h) (by rfl) ?hk10 ?_
  case hk10 => (intro W hSW; go_simp; try with_reducible rfl)
  (try simp only [Act.put, List.setIfInBounds_toArray, List.set_cons_zero, List.set_cons_succ])
  refine' RL.takeV (i := 2) (v := _) rfl (by kernel_rfl) (by kernel_rfl) (by kernel_rfl) (fun _ _ _ h => h) (by rfl) ?hk11 ?_
  case hk11 => (intro W hSW; go_simp; try with_reducible rfl)
  (try simp only [Act.put, List.setIfInBounds_toArray, List.set_cons_zero, List.set_cons_succ])
  refine' RL.takeV (i := 3) (v := _) rfl (by kernel_rfl) (by kernel_rfl) (by kernel_rfl) (fun _ _ _ h => h) (by rfl) ?hk12 ?_
  case hk12 => (intro W hSW; have c3 := (HSX.out.below hSW).1.cell 3 (v := .map (some bw)) rfl; go_simp; try with_reducible rfl)
  (try simp only [Act.put, List.setIfInBounds_toArray, List.set_cons_zero, List.set_cons_succ])
  refine RL.takeV (i := 4) (v := .agg (Cv.bytesV k)) rfl (by kernel_rfl) (by kernel_rfl) (by kernel_rfl) (fun _ _ _ h => h) (by rfl) (fun W hSW => RT.run_row 34 _ rfl _ rfl _ _ (HX.out.below hSW HX.out.lt) Tryd.underlying34 rfl (by rw [HV.out]; kernel_rfl)) ?_
  (try simp only [Act.put, List.setIfInBounds_toArray, List.set_cons_zero, List.set_cons_succ])
  refine' RL.takeV (i := 5) (v := .tuple #[.agg #[.string ⟨#[]⟩], .bool false]) rfl (by kernel_rfl) (by kernel_rfl) (by kernel_rfl) (fun _ _ _ h => h) (by rfl) ?hk5False ?_
  case hk5False => (intro W hSW; have hl := look_who (HSX.out.below hSW) k HK.out; rw [HW.out] at hl; simp only [Option.map_some, Option.map_none, Option.getD_some, Option.getD_none, Option.isSome_some, Option.isSome_none] at hl; go_simp; try with_reducible rfl)
  (try simp only [Act.put, List.setIfInBounds_toArray, List.set_cons_zero, List.set_cons_succ])
  refine' RL.takeV (i := 6) (v := _) rfl (by kernel_rfl) (by kernel_rfl) (by kernel_rfl) (fun _ _ _ h => h) (by rfl) ?hk13 ?_
  case hk13 => (intro W hSW; go_simp; try with_reducible rfl)
  (try simp only [Act.put, List.setIfInBounds_toArray, List.set_cons_zero, List.set_cons_succ])
  refine' RL.takeV (i := 7) (v := _) rfl (by kernel_rfl) (by kernel_rfl) (by kernel_rfl) (fun _ _ _ h => h) (by rfl) ?hk14 ?_
  case hk14 => (intro W hSW; go_simp; try with_reducible rfl)
  (try simp only [Act.put, List.setIfInBounds_toArray, List.set_cons_zero, List.set_cons_succ])
  refine' RL.takeV (i := 8) (v := _) rfl (by kernel_rfl) (by kernel_rfl) (by kernel_rfl) (fun _ _ _ h => h) (by rfl) ?hk15 ?_
  case hk15 => (intro W hSW; go_simp; try with_reducible rfl)
  (try simp only [Act.put, List.setIfInBounds_toArray, List.set_cons_zero, List.set_cons_succ])
  refine RL.stepK (i := 9) rfl (by kernel_rfl) (by rfl) (fun wa hlwa hswa K hK => ?_)
  go_simp
  have HLA := Lib.hid hswa
  refine hK.out _ _ (RL.Aft.alloc hswa _) ?_
  clear hK
  (try simp only [Act.put, List.setIfInBounds_toArray, List.set_cons_zero, List.set_cons_succ])
  refine RL.stepK (i := 10) rfl (by kernel_rfl) (by rfl) (fun wb hlwb hswb K hK => ?_)
  have hba := (Rg.Blk.new wa #[.string ⟨#[]⟩] 62).below hlwb (by simp)
  refine store_blk_op 62 _ _ rfl wa.heap.size #[.string ⟨#[]⟩] #[.string ⟨#[]⟩] 62 rfl rfl hba (by kernel_rfl) rfl (by simp [Value.oneCell']) ?_
  intro Y hY hgY
  have HY := Lib.hid hY
  have HAY := Lib.hid (show RL.Aft X Y from Below.grown hswb hgY hswb.size (fun k hk => by cases hk; exact HLA.out.size))
  refine hK.out _ _ HAY.out ?_
  clear hK
  (try simp only [Act.put, List.setIfInBounds_toArray, List.set_cons_zero, List.set_cons_succ])
  refine' RL.takeV (i := 11) (v := _) rfl (by kernel_rfl) (by kernel_rfl) (by kernel_rfl) (fun _ _ _ h => h) (by rfl) ?hk16 ?_
  case hk16 => (intro W hSW; go_simp; try with_reducible rfl)
  (try simp only [Act.put, List.setIfInBounds_toArray, List.set_cons_zero, List.set_cons_succ])
  refine RL.done (by kernel_rfl) (fun wd hlwd hswd => ?_)
  have hd0 := (HY.out.below hlwd HY.out.lt).cell 0 (v := .string ⟨#[]⟩) rfl
  have HBD := Lib.hid (HBX.out.trans (Below.mono hswd HBX.out.size))
  have hd1 := HE.out wd HBD.out
  clear hlwd hswd
  go_wp2
  go_quiet (fail)
  go_wp2
  go_ret2
  exact ⟨rfl, bdN HBD.out _⟩
end Go.Proofs.YtgdbplciepiinaaDoor.St
