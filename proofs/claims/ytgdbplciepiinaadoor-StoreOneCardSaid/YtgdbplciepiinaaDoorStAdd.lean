/- Add: a key more. -/
import Derived.Test.YtgdbplciepiinaaDoorStLk
import Derived.Test.YtgdbplciepiinaaDoorStNext
set_option linter.unusedVariables false
set_option linter.unusedSimpArgs false
namespace Go.Proofs.YtgdbplciepiinaaDoor.RL
open Go.RowKit
/-- two that may come up, whichever first -/
theorem step2 {P : Program} {md : Region.Mode} {ops : Array Oper} {Q : Exit → Act → World → Prop} {S : World → Prop} {i j : Nat} {oi oj : Oper} {fuel : Nat} {listed : Array Bool} {a : Act} {w : World} (hoi : ops.toList[i]? = some oi) (hoj : ops.toList[j]? = some oj) (hr : Region.ready md ops listed = [i, j]) (hwi : Region.wanted oi (yielded ops a.tmps) = true) (hwj : Region.wanted oj (yielded ops a.tmps) = true)
    (hi : ∀ w', Lat w w' → S w' → ∀ K : Act → World → Prop, Shut (∀ a' w'', S w'' → H P md ops Q S w'' fuel (listed.setIfInBounds i true) a' → K a' w'') → Oper.wp P oi a w' K Q)
    (hj : ∀ w', Lat w w' → S w' → ∀ K : Act → World → Prop, Shut (∀ a' w'', S w'' → H P md ops Q S w'' fuel (listed.setIfInBounds j true) a' → K a' w'') → Oper.wp P oj a w' K Q) : H P md ops Q S w (fuel + 1) listed a := by
  intro w' hl hS
  refine ⟨fun h0 => ?_, fun k hk => ?_⟩
  · rw [h0] at hr
    cases hr
  · rw [hr] at hk
    rcases List.mem_cons.1 hk with rfl | hk
    · exact wpOp_step (by simpa using hoi) fun K hK => by
        rw [if_pos hwi]
        exact hi w' hl hS K (fun a' w'' hs hh => hK a' w'' ⟨hs, hh⟩)
    · rw [List.mem_singleton.1 hk]
      exact wpOp_step (by simpa using hoj) fun K hK => by
        rw [if_pos hwj]
        exact hj w' hl hS K (fun a' w'' hs hh => hK a' w'' ⟨hs, hh⟩)
end Go.Proofs.YtgdbplciepiinaaDoor.RL
namespace Go.Proofs.YtgdbplciepiinaaDoor.St
open Go.RowKit Go.Proofs.YtgdbplciepiinaaDoor.Ow Go.Proofs.YtgdbplciepiinaaDoor.Mp Go.Maps
theorem appN_op {P : Program} {o : Oper} {a : Act} {w : World} {Kc : Act → World → Prop} {Q : Exit → Act → World → Prop} (s x : Operand) (t : TypeId)
    (ho : o.op = .call { callee := .builtin .append, args := #[s, x], argTypes := #[t, t] }) {E : TypeId} {z : Value} {sz by' : Nat} (ht : P.underlying t = some (.slice E))
    (hI : (P.info? E).map (fun i => (i.zero, i.size, i.bytes)) = some (some z, sz, by')) (hz : z.cells.size = sz) (hsz : 0 < sz) (hby : 0 < by')
    {B n : Nat} {v : Value} {xs : List Value} (hO : w.ownsRow B E sz v n xs) (hs : a.eval s = v) {ad : Addr} {m c : Nat} {ys : List Value} (hx : a.eval x = .slice (some ad) m c) (hm : ys.length = m * sz) (hR : Rd w (some ad) ys) (h1 : ∀ u ∈ ys, u.oneCell' = true)
    (hb : (n + m) * by' ≤ 140737488355328) (hB : B ≤ w.heap.size)
    (h : ∀ v' w', w'.ownsRow B E sz v' (n + m) (xs ++ ys) → w.grownBy w' v.ownBlock → Kc (a.put o.dst v') w') : Oper.wp P o a w Kc Q := by
  obtain ⟨v', w', hr, h2, h3, h4⟩ := run_appN (P := P) w t o.type ht hI hz hsz hby hO (c := c) hm hR h1 hb hB
  unfold Oper.wp execOp
  simp only [ho, resolve, invoke, builtin, Sem.run_bind, Sem.run_pure, Result.andThen_ok, List.map_toArray, List.map_cons, List.map_nil, hs, hx, hr]
  exact h v' w' h2 h3
theorem mapUpdate_op {P : Program} {o : Oper} {a : Act} {w : World} {Kc : Act → World → Prop} {Q : Exit → Act → World → Prop} (m x v : Operand) (t : TypeId) (hop : o.op = Op.mapUpdate t m x v) (k e : TypeId) (K : Keyed P k) (ht : P.underlying t = some (.map k e)) (b n s : Nat) (f : Lit → Option Value)
    (hm : a.eval m = .map (some b)) (h : RMap P w k b n f s) (hn : n < maxLen) (key val : Value) (kl : Lit) (hx : a.eval x = key) (hv : a.eval v = val) (hkey : keyOf P k key = some kl)
    (hK : ∀ w', RMap P w' k b (n + 1) (upd f kl (some val)) (if (f kl).isSome then s else s + 1) → w.grownBy w' (some b) → Kc (a.put o.dst undef) w') : Oper.wp P o a w Kc Q := by
  obtain ⟨w', hrun, r1, r2⟩ := h.store (val := val) K ht hn hkey
  unfold Oper.wp
  simp [execOp, hop, hm, hx, hv, hrun, Result.andThen]
  exact hK _ r1 r2
/-- the error of Add, by its number; 0: none -/
def addC (T K : Nat) (L : List Pr) (t k : List UInt8) : Nat :=
  if validB t = false then 17 else if (whoOf L k).isSome then 9 else if keysOf L t = [] ∧ T ≤ (tens L).length then 7 else if K ≤ (keysOf L t).length then 16 else 0
theorem look_of {w : World} {sb bo bw T K N : Nat} {L : List Pr} (h : IsSt w sb bo bw T K N L) (t : ByteArray) (ht : t.size ≤ maxLen) :
    ∃ A c, KS w (.slice A (keysOf L t.data.toList).length c) (keysOf L t.data.toList) ∧ ∀ W, Below w.heap.size w W → (Instr.lookup 55 (.map (some bo)) (.string t) true).run Tryd.prog W = .ok (.tuple #[.slice A (keysOf L t.data.toList).length c, .bool (!(keysOf L t.data.toList).isEmpty)]) W := by
  obtain ⟨_, _, _, ⟨f, hf, hfx⟩, _⟩ := h
  have hlk : ∀ W, Below w.heap.size w W → (Instr.lookup 55 (.map (some bo)) (.string t) true).run Tryd.prog W = .ok (.tuple #[(f (.string t.data.toList)).getD (.slice none 0 0), .bool (f (.string t.data.toList)).isSome]) W := fun W hW =>
    (hf.below hW hf.lt).lookOk keyed_str Tryd.underlying55 (show (zeroValue 50).run Tryd.prog W = .ok (.slice none 0 0) W by kernel_rfl) (key_str Tryd.underlying9 t ht)
  rcases hfx t.data.toList with ⟨h1, h2⟩ | ⟨h1, v, h2, h3⟩
  · rw [h2] at hlk
    rw [h1]
    exact ⟨none, 0, KS.nil w, hlk⟩
  · obtain ⟨A, c, rfl, _⟩ := id h3
    rw [h2] at hlk
    refine ⟨A, c, h3, fun W hW => ?_⟩
    rw [hlk W hW]
    cases hk : keysOf L t.data.toList with
    | nil => exact absurd hk h1
    | cons x l => rfl
theorem wp_name3 {P : Program} {c : Code} {Q : Exit → Act → World → Prop} {a : Act} {W : World} (h : ∀ X, X = W → c.wp P Q a X) : c.wp P Q a W := h W rfl
theorem ownsBelow {w w' : World} {B sz n : Nat} {E : TypeId} {v : Value} {xs : List Value} (h : w.ownsRow B E sz v n xs) (hb : Below w.heap.size w w') : w'.ownsRow B E sz v n xs :=
  World.ownsRow.kept h (row := none) ⟨hb.os, hb.tape, hb.output, hb.size, fun k hk _ => hb.block k hk⟩ (by cases hv : v.ownBlock <;> simp)
/-- only block b of Z may have turned -/
def Only (Z : World) (b : Nat) (W : World) : Prop := Sp.Upd Z W [b]
theorem Only.refl (Z : World) (b : Nat) : Only Z b Z := Sp.Upd.refl Z [b]
theorem Only.lat {Z W W' : World} {b : Nat} (h : Only Z b W) (hb : Below W.heap.size W W') : Only Z b W' := Sp.Upd.trans h (Sp.Upd.of_below hb) (by simp)
theorem Only.drew {Z W : World} {b : Nat} (h : Only Z b W) : Only Z b W.drew := h.lat (Below.drew (Below.refl _ _))
theorem Only.alloc {Z W : World} {b : Nat} (h : Only Z b W) (o : Obj) : Only Z b (W.alloc o) := h.lat ((Below.refl _ _).alloc (Nat.le_refl _) _)
theorem Only.blk {Z W : World} {b g T : Nat} {cs : Array Value} (h : Only Z b W) (hB : Rg.Blk Z g T cs) (hn : g ≠ b) : Rg.Blk W g T cs := by
  unfold Rg.Blk at *
  rw [h.block g (Array.getElem?_eq_some_iff.1 hB).1 (by simpa using hn)]
  exact hB
theorem Only.grown {Z W W' : World} {b : Nat} {row : Option Nat} (h : Only Z b W) (hg : W.grownBy W' row) (hr : ∀ j, row = some j → j = b ∨ Z.heap.size ≤ j) : Only Z b W' :=
  Sp.Upd.trans h (Sp.Upd.of_grown hg) (fun x hx => by
    have : row = some x := by cases row <;> simp_all
    rcases hr x this with h1 | h1
    · exact .inl (by simp [h1])
    · exact .inr h1)
set_option maxRecDepth 20000 in
set_option maxHeartbeats 8000000 in
theorem Add_ok_true (w : World) (sb bo bw T M N : Nat) (L : List Pr) (h : IsSt w sb bo bw T M N L) (t : ByteArray) (ht : t.size ≤ 1000) (k : List UInt8) (hk : k.length = 32) (hv : validB t.data.toList = true) (hw : whoOf L k = none)
    (hb : (keysOf L t.data.toList).isEmpty = false) (hT : True) (hK : (keysOf L t.data.toList).length < M) (hN : N ≤ 1000) (hm : M ≤ 64 ∧ T ≤ 64) :
    Calls Tryd.prog 18 #[.pointer (some ⟨sb, 0, none⟩), .string t, .agg (Cv.bytesV k)] w fun e w' => e = .returned .nilIface ∧ IsSt w' sb bo bw T M (N + 1) (L ++ [(t.data.toList, k)]) ∧ Sp.Upd w w' [bo, bw] := by
  have HS := Lib.hid h
  have HK := Lib.hid hk
  have HV := Lib.hid (show (Cv.bytesV k).size = 32 by rw [Cv.bytesV_size, hk])
  have HW := Lib.hid hw
  obtain ⟨A, c, hks, hlo⟩ := look_of h t (by unfold maxLen; omega)
  have HKS := Lib.hid hks
  have HLO := Lib.hid hlo
  have HVA := Lib.hid (show ∀ W : World, Calls Tryd.prog 8 #[.string t] W fun e w' => e = .returned (.bool true) ∧ W = w' from fun W => by have := Valid_any W t (by omega); rw [hv] at this; exact this)
  have hlo2 : ∀ W, Below w.heap.size w W → (Instr.lookup 55 (.map (some bo)) (.string t) true).run Tryd.prog W = .ok (.tuple #[.slice A (keysOf L t.data.toList).length c, .bool true]) W := fun W hW => by
    rw [hlo W hW, hb]; rfl
  have HLO2 := Lib.hid hlo2
  have HTT := Lib.hid hT
  have HKK := Lib.hid hK
  have HM := Lib.hid hm
  have HNN := Lib.hid hN
  have HT0 := Lib.hid ht
  have HVV := Lib.hid hv
  have HBB := Lib.hid hb
  have HLEN := Lib.hid (show ∀ W, Below w.heap.size w W → ∀ ty, (Builtin.len_ #[55] ty #[.map (some bo)]).run Tryd.prog W = .ok (.int .i64 ((tens L).length : Nat)) W from fun W hW ty => by
    obtain ⟨_, _, _, ⟨f, hf, _⟩, _⟩ := h.below hW
    exact hf.len Tryd.underlying55 ty)
  have HKL32 := Lib.hid (show ∀ x ∈ keysOf L t.data.toList, x.length = 32 from fun x hx => by obtain ⟨p, hp, rfl⟩ := List.mem_map.1 hx; exact h.2.2.1.key p (List.mem_filter.1 hp).1)
  clear h hk hw hv hb hT hK hm hN ht hks hlo hlo2 HLO
  generalize hKL : keysOf L t.data.toList = kl at *
  generalize hnn : kl.length = nn at *
  go_enter Tryd.func18, Tryd.ntmps18
  go_upto_region 1 with (refine Rg.box_fresh rfl 34 _ rfl (Cv.bytesV k) rfl ?_; intro X hX hbX hnX; have HX := Lib.hid hX; have HBX := Lib.hid hbX; clear hX hbX hnX)
  have HSX := Lib.hid (HS.out.below HBX.out)
  refine RL.start (RL.Aft X) (by kernel_rfl) (RL.Aft.drew (RL.Aft.refl X)) ?_
  refine' RL.takeV (i := 0) (v := _) rfl (by kernel_rfl) (by kernel_rfl) (by kernel_rfl) (fun _ _ _ h => h) (by rfl) ?hk1 ?_
  case hk1 => (intro W hSW; go_simp; try with_reducible rfl)
  (try simp only [Act.put, List.setIfInBounds_toArray, List.set_cons_zero, List.set_cons_succ])
  refine' RL.takeV (i := 1) (v := _) rfl (by kernel_rfl) (by kernel_rfl) (by kernel_rfl) (fun _ _ _ h => h) (by rfl) ?hk2 ?_
  case hk2 => (intro W hSW; go_simp; try with_reducible rfl)
  (try simp only [Act.put, List.setIfInBounds_toArray, List.set_cons_zero, List.set_cons_succ])
  refine' RL.takeV (i := 2) (v := _) rfl (by kernel_rfl) (by kernel_rfl) (by kernel_rfl) (fun _ _ _ h => h) (by rfl) ?hk3 ?_
  case hk3 => (intro W hSW; go_simp; try with_reducible rfl)
  (try simp only [Act.put, List.setIfInBounds_toArray, List.set_cons_zero, List.set_cons_succ])
  refine' RL.takeV (i := 3) (v := _) rfl (by kernel_rfl) (by kernel_rfl) (by kernel_rfl) (fun _ _ _ h => h) (by rfl) ?hk4 ?_
  case hk4 => (intro W hSW; have c3 := (HSX.out.below hSW).1.cell 3 (v := .map (some bw)) rfl; go_simp; try with_reducible rfl)
  (try simp only [Act.put, List.setIfInBounds_toArray, List.set_cons_zero, List.set_cons_succ])
  refine RL.takeV (i := 4) (v := .agg (Cv.bytesV k)) rfl (by kernel_rfl) (by kernel_rfl) (by kernel_rfl) (fun _ _ _ h => h) (by rfl) (fun W hSW => RT.run_row 34 _ rfl _ rfl _ _ (HX.out.below hSW HX.out.lt) Tryd.underlying34 rfl (by rw [HV.out]; kernel_rfl)) ?_
  (try simp only [Act.put, List.setIfInBounds_toArray, List.set_cons_zero, List.set_cons_succ])
  refine' RL.takeV (i := 5) (v := .tuple #[.agg #[.string ⟨#[]⟩], .bool false]) rfl (by kernel_rfl) (by kernel_rfl) (by kernel_rfl) (fun _ _ _ h => h) (by rfl) ?hk5 ?_
  case hk5 => (intro W hSW; have hl := look_who (HSX.out.below hSW) k HK.out; rw [HW.out] at hl; simp only [Option.map_some, Option.map_none, Option.getD_some, Option.getD_none, Option.isSome_some, Option.isSome_none] at hl; go_simp; try with_reducible rfl)
  (try simp only [Act.put, List.setIfInBounds_toArray, List.set_cons_zero, List.set_cons_succ])
  refine' RL.takeV (i := 6) (v := _) rfl (by kernel_rfl) (by kernel_rfl) (by kernel_rfl) (fun _ _ _ h => h) (by rfl) ?hk5 ?_
  case hk5 => (intro W hSW; go_simp; try with_reducible rfl)
  (try simp only [Act.put, List.setIfInBounds_toArray, List.set_cons_zero, List.set_cons_succ])
  refine' RL.takeV (i := 7) (v := _) rfl (by kernel_rfl) (by kernel_rfl) (by kernel_rfl) (fun _ _ _ h => h) (by rfl) ?hk6 ?_
  case hk6 => (intro W hSW; go_simp; try with_reducible rfl)
  (try simp only [Act.put, List.setIfInBounds_toArray, List.set_cons_zero, List.set_cons_succ])
  refine' RL.takeV (i := 8) (v := _) rfl (by kernel_rfl) (by kernel_rfl) (by kernel_rfl) (fun _ _ _ h => h) (by rfl) ?hk7 ?_
  case hk7 => (intro W hSW; go_simp; try with_reducible rfl)
  (try simp only [Act.put, List.setIfInBounds_toArray, List.set_cons_zero, List.set_cons_succ])
  refine RL.stepK (i := 9) rfl (by kernel_rfl) (by rfl) (fun wa hlwa hswa K hK => ?_)
  go_simp
  have HLA := Lib.hid hswa
  refine hK.out _ _ (RL.Aft.alloc hswa _) ?_
  clear hK
  (try simp only [Act.put, List.setIfInBounds_toArray, List.set_cons_zero, List.set_cons_succ])
  refine RL.stepK (i := 10) rfl (by kernel_rfl) (by rfl) (fun wb hlwb hswb K hK => ?_)
  have hba := (Rg.Blk.new wa #[.string ⟨#[]⟩] 62).below hlwb (by simp)
  refine store_blk_op 62 _ _ rfl wa.heap.size #[.string ⟨#[]⟩] #[.string ⟨#[]⟩] 62 rfl rfl hba (by kernel_rfl) rfl (by simp [Value.oneCell']) ?_
  intro Y hY hgY
  have HY := Lib.hid hY
  have HAY := Lib.hid (show RL.Aft X Y from Below.grown hswb hgY hswb.size (fun k hk => by cases hk; exact HLA.out.size))
  refine hK.out _ _ HAY.out ?_
  clear hK hlwb hswb hba hY hgY hlwa hswa
  (try simp only [Act.put, List.setIfInBounds_toArray, List.set_cons_zero, List.set_cons_succ])
  refine' RL.takeV (i := 11) (v := _) rfl (by kernel_rfl) (by kernel_rfl) (by kernel_rfl) (fun _ _ _ h => h) (by rfl) ?hk8 ?_
  case hk8 => (intro W hSW; go_simp; try with_reducible rfl)
  (try simp only [Act.put, List.setIfInBounds_toArray, List.set_cons_zero, List.set_cons_succ])
  refine RL.done (by kernel_rfl) (fun wd hlwd hswd => ?_)
  have HWD := Lib.hid (show RL.Aft X wd from hswd)
  clear hlwd hswd
  have HBD := Lib.hid (show Below w.heap.size w wd from HBX.out.trans (Below.mono HWD.out HBX.out.size))
  have hst := (HS.out.below HBD.out).1
  have c0 := hst.cell 0 (v := .int .i64 (T : Int)) rfl
  have c1 := hst.cell 1 (v := .int .i64 (M : Int)) rfl
  have c2 := hst.cell 2 (v := .map (some bo)) rfl
  have hl2 := HLO2.out wd HBD.out
  have hle := HLEN.out wd HBD.out
  have hleN := fun n => HLEN.out (wd.drewN n) (bdN HBD.out n)
  have hd1 : decide (M ≤ nn) = false := by rw [decide_eq_false_iff_not]; have := HKK.out; omega
  have hd1b : decide ((M : Int) ≤ (nn : Int)) = false := by rw [decide_eq_false_iff_not]; have := HKK.out; omega
  clear hst
  go_upto_region 7 with (go_at_call 8; refine (HVA.out _).mono ?_; rintro e w1 ⟨rfl, rfl⟩; skip)
  go_quiet (fail)
  go_upto_region 11 with fail
  refine wp_name3 (fun Z hZ => ?_)
  have HZB := Lib.hid (show Below w.heap.size w Z by rw [hZ]; exact bdN HBD.out _)
  have HSZ := Lib.hid (HS.out.below HZB.out)
  have HXZ := Lib.hid (show Rg.Blk Z w.heap.size 34 (Cv.bytesV k) by rw [hZ]; exact (show Rg.Blk wd w.heap.size 34 (Cv.bytesV k) from HX.out.below HWD.out HX.out.lt))
  have HKZ := Lib.hid (HKS.out.below HZB.out)
  have HBO := Lib.hid (show bo < w.heap.size by obtain ⟨_, _, _, ⟨f, hf, _⟩, _⟩ := HS.out; exact hf.lt)
  have HBW := Lib.hid (show bw < w.heap.size by obtain ⟨_, _, _, _, ⟨g, s, hg, _⟩⟩ := HS.out; exact hg.lt)
  have HNE := Lib.hid (show sb ≠ bo by obtain ⟨h1, _, _, ⟨f, hf, _⟩, _⟩ := HS.out; exact hf.ne h1)
  have HNW := Lib.hid (show sb ≠ bw by obtain ⟨h1, _, _, _, ⟨g, s, hg, _⟩⟩ := HS.out; exact hg.ne h1)
  clear hZ c0 c1 c2 hl2 hle hleN hd1 hd1b
  refine RL.start (Only Z bo) (by kernel_rfl) ((Only.refl Z bo).drew) ?_
  refine' RL.takeV (i := 0) (v := _) rfl (by kernel_rfl) (by kernel_rfl) (by kernel_rfl) (fun _ _ _ h => h) (by rfl) ?hk17 ?_
  case hk17 => (intro W hSW; go_simp; try with_reducible rfl)
  (try simp only [Act.put, List.setIfInBounds_toArray, List.set_cons_zero, List.set_cons_succ])
  refine' RL.takeV (i := 1) (v := _) rfl (by kernel_rfl) (by kernel_rfl) (by kernel_rfl) (fun _ _ _ h => h) (by rfl) ?hk18 ?_
  case hk18 => (intro W hSW; go_simp; try with_reducible rfl)
  (try simp only [Act.put, List.setIfInBounds_toArray, List.set_cons_zero, List.set_cons_succ])
  refine' RL.takeV (i := 2) (v := _) rfl (by kernel_rfl) (by kernel_rfl) (by kernel_rfl) (fun _ _ _ h => h) (by rfl) ?hk19 ?_
  case hk19 => (intro W hSW; go_simp; try with_reducible rfl)
  (try simp only [Act.put, List.setIfInBounds_toArray, List.set_cons_zero, List.set_cons_succ])
  refine' RL.takeV (i := 3) (v := _) rfl (by kernel_rfl) (by kernel_rfl) (by kernel_rfl) (fun _ _ _ h => h) (by rfl) ?hk20 ?_
  case hk20 => (intro W hSW; have c2 := (hSW.blk HSZ.out.1 HNE.out).cell 2 (v := .map (some bo)) rfl; go_simp; try with_reducible rfl)
  (try simp only [Act.put, List.setIfInBounds_toArray, List.set_cons_zero, List.set_cons_succ])
  refine' RL.takeV (i := 4) (v := _) rfl (by kernel_rfl) (by kernel_rfl) (by kernel_rfl) (fun _ _ _ h => h) (by rfl) ?hk21 ?_
  case hk21 => (intro W hSW; go_simp; try with_reducible rfl)
  (try simp only [Act.put, List.setIfInBounds_toArray, List.set_cons_zero, List.set_cons_succ])
  refine' RL.takeV (i := 5) (v := _) rfl (by kernel_rfl) (by kernel_rfl) (by kernel_rfl) (fun _ _ _ h => h) (by rfl) ?hk22 ?_
  case hk22 => (intro W hSW; go_simp; try with_reducible rfl)
  (try simp only [Act.put, List.setIfInBounds_toArray, List.set_cons_zero, List.set_cons_succ])
  refine RL.takeV (i := 7) (v := .agg (Cv.bytesV k)) rfl (by kernel_rfl) (by kernel_rfl) (by kernel_rfl) (fun _ _ _ h => h) (by rfl) (fun W hSW => RT.run_row 34 _ rfl _ rfl _ _ (hSW.blk HXZ.out (by have := HBO.out; omega)) Tryd.underlying34 rfl (by rw [HV.out]; kernel_rfl)) ?_
  (try simp only [Act.put, List.setIfInBounds_toArray, List.set_cons_zero, List.set_cons_succ])
  refine RL.step2 (i := 6) (j := 8) rfl rfl (by kernel_rfl) (by rfl) (by rfl) (fun wa hlwa hswa K hK => ?_) (fun wa hlwa hswa K hK => ?_)
  · have HZwa := Lib.hid (show Below Z.heap.size Z wa from (Below.drew (Below.refl _ _)).trans hlwa)
    have HZA := Lib.hid (show Z.heap.size ≤ wa.heap.size from HZwa.out.size)
    have hc := Clone_any wa (.slice A nn c) kl (HKZ.out.below HZwa.out) (by have := HKK.out; have := HM.out; omega)
    go_simp
    refine hc.mono ?_
    rintro e wb ⟨v6, rfl, ho, hb⟩
    have HO := Lib.hid ho
    have HZwb := Lib.hid (HZwa.out.trans (hb.mono HZwa.out.size))
    refine hK.out _ _ (Only.lat hswa hb) ?_
    clear hK hc
    (try simp only [Act.put, List.setIfInBounds_toArray, List.set_cons_zero, List.set_cons_succ])
    refine RL.stepK (i := 8) rfl (by kernel_rfl) (by rfl) (fun wc hlwc hswc K hK => ?_)
    have HZwc := Lib.hid (HZwb.out.trans (Below.mono hlwc HZwb.out.size)); have HOc := Lib.hid (ownsBelow HO.out hlwc)
    have hsz := HV.out
    have hfold := fold_cells (Cv.bytesV k) #[.int .u8 0, .int .u8 0, .int .u8 0, .int .u8 0, .int .u8 0, .int .u8 0, .int .u8 0, .int .u8 0, .int .u8 0, .int .u8 0, .int .u8 0, .int .u8 0, .int .u8 0, .int .u8 0, .int .u8 0, .int .u8 0, .int .u8 0, .int .u8 0, .int .u8 0, .int .u8 0, .int .u8 0, .int .u8 0, .int .u8 0, .int .u8 0, .int .u8 0, .int .u8 0, .int .u8 0, .int .u8 0, .int .u8 0, .int .u8 0, .int .u8 0, .int .u8 0] (by rw [hsz]; rfl) 32 hsz.symm
    go_simp
    clear hsz hfold
    refine hK.out _ _ (Only.alloc hswc _) ?_
    clear hK
    (try simp only [Act.put, List.setIfInBounds_toArray, List.set_cons_zero, List.set_cons_succ])
    refine RL.stepK (i := 9) rfl (by kernel_rfl) (by rfl) (fun we hlwe hswe K hK => ?_)
    have HZwe := Lib.hid ((HZwc.out.alloc HZwc.out.size _).trans (Below.mono hlwe (by have := HZwc.out.size; simp; omega)))
    have HOe := Lib.hid (ownsBelow (World.ownsRow.alloc HOc.out _) hlwe)
    have HRe := Lib.hid (show Rd we (some ⟨wc.heap.size, 0, none⟩) (bv k) from fun j x hx => ⟨wc.heap.size, 0, rfl, by have := Below.size hlwe; simp at this; omega, by rw [Nat.zero_add]; exact ((Rg.Blk.new wc (Cv.bytesV k) 34).below hlwe (by simp)).cell j (by unfold Cv.bytesV; rw [List.getElem?_toArray]; exact hx)⟩)
    have HBe := Lib.hid (show wa.heap.size ≤ we.heap.size by have h1 := Below.size hlwe; have h2 := Below.size hlwc; simp at h1; have h3 := HZwb.out.size; exact Nat.le_trans (show wa.heap.size ≤ wb.heap.size from hb.size) (by omega))
    refine appN_op _ _ 50 rfl Tryd.underlying50 infoK rfl (by decide) (by decide) HOe.out rfl rfl (show (bv k).length = 1 * 32 by rw [bv_length, HK.out]) HRe.out (bv_cells k) (by have := HKK.out; have := HM.out; omega) HBe.out ?_
    intro v9 wf hv9 hg9
    have HV9 := Lib.hid hv9
    have HLO9 := Lib.hid (show ∀ j, v6.ownBlock = some j → Z.heap.size ≤ j from fun j hj => Nat.le_trans HZA.out (World.ownsRow.lt HOe.out j hj).1)
    have HZwf := Lib.hid (HZwe.out.grown hg9 HZwe.out.size HLO9.out)
    refine hK.out _ _ (Only.grown hswe hg9 (fun j hj => .inr (HLO9.out j hj))) ?_
    clear hK hv9 hg9
    (try simp only [Act.put, List.setIfInBounds_toArray, List.set_cons_zero, List.set_cons_succ])
    refine RL.stepK (i := 10) rfl (by kernel_rfl) (by rfl) (fun wg hlwg hswg K hK => ?_)
    have HZwg := Lib.hid (HZwf.out.trans (Below.mono hlwg HZwf.out.size))
    obtain ⟨_, _, _, ⟨f, hf, hfx⟩, _⟩ := HSZ.out.below HZwg.out
    refine mapUpdate_op _ _ _ 55 rfl 9 50 keyed_str Tryd.underlying55 bo N _ f rfl hf (by have := HNN.out; unfold maxLen; omega) (.string t) v9 _ rfl rfl (key_str Tryd.underlying9 t (by have := HT0.out; unfold maxLen; omega)) ?_
    intro Y hY hgY
    have HKY := Lib.hid (show KS wg v9 (keysOf L t.data.toList ++ [k]) from KS.own (by have h9 := ownsBelow HV9.out hlwg; rw [hKL, cells_append, cells_one, List.length_append]; exact h9) (fun x hx => by rcases List.mem_append.1 hx with h | h; exact HKL32.out x (by rw [← hKL]; exact h); rw [List.mem_singleton.1 h]; exact HK.out))
    obtain ⟨f2, hf2, hfx2⟩ := of_next hf hfx hY hgY HKY.out
    have HF2 := Lib.hid hf2; have HFX2 := Lib.hid hfx2
    have HGY := Lib.hid hgY
    refine hK.out _ _ (Only.grown hswg hgY (fun j hj => .inl (by cases hj; rfl))) ?_
    clear hK hf hfx hY hgY hf2 hfx2
    (try simp only [Act.put, List.setIfInBounds_toArray, List.set_cons_zero, List.set_cons_succ])
    refine RL.done (by kernel_rfl) (fun wh hlwh hswh => ?_)
    have HUP := Lib.hid (show Sp.Upd Z wh [bo] from hswh)
    have HFH := Lib.hid (HF2.out.below hlwh HF2.out.lt); have HXH := Lib.hid (HFX2.out.below hlwh)
    clear hlwh hswh
    go_upto_region 12 with fail
    have HST2 := Lib.hid ((show Only Z bo wh from HUP.out).blk HSZ.out.1 HNE.out)
    have HXK2 := Lib.hid ((show Only Z bo wh from HUP.out).blk HXZ.out (by have := HBO.out; omega))
    obtain ⟨_, hne2, hgood, _, ⟨g, s, hg, hgx⟩⟩ := HSZ.out
    have HNE2 := Lib.hid hne2
    have HGOOD := Lib.hid hgood
    have HG2 := Lib.hid (hg.keep (HUP.out.block bw hg.lt (by simpa using fun e => hne2 e.symm)))
    have HGX := Lib.hid hgx
    clear hne2 hgood hg hgx
    refine RL.start (Only wh bw) (by kernel_rfl) ((Only.refl wh bw).drew) ?_
    refine' RL.takeV (i := 0) (v := _) rfl (by kernel_rfl) (by kernel_rfl) (by kernel_rfl) (fun _ _ _ h => h) (by rfl) ?hk29 ?_
    case hk29 => (intro W hSW; go_simp; try with_reducible rfl)
    (try simp only [Act.put, List.setIfInBounds_toArray, List.set_cons_zero, List.set_cons_succ])
    refine' RL.takeV (i := 1) (v := _) rfl (by kernel_rfl) (by kernel_rfl) (by kernel_rfl) (fun _ _ _ h => h) (by rfl) ?hk30 ?_
    case hk30 => (intro W hSW; go_simp; try with_reducible rfl)
    (try simp only [Act.put, List.setIfInBounds_toArray, List.set_cons_zero, List.set_cons_succ])
    refine' RL.takeV (i := 2) (v := _) rfl (by kernel_rfl) (by kernel_rfl) (by kernel_rfl) (fun _ _ _ h => h) (by rfl) ?hk31 ?_
    case hk31 => (intro W hSW; go_simp; try with_reducible rfl)
    (try simp only [Act.put, List.setIfInBounds_toArray, List.set_cons_zero, List.set_cons_succ])
    refine' RL.takeV (i := 3) (v := _) rfl (by kernel_rfl) (by kernel_rfl) (by kernel_rfl) (fun _ _ _ h => h) (by rfl) ?hk32 ?_
    case hk32 => (intro W hSW; have c3 := (hSW.blk HST2.out HNW.out).cell 3 (v := .map (some bw)) rfl; go_simp; try with_reducible rfl)
    (try simp only [Act.put, List.setIfInBounds_toArray, List.set_cons_zero, List.set_cons_succ])
    refine RL.takeV (i := 4) (v := .agg (Cv.bytesV k)) rfl (by kernel_rfl) (by kernel_rfl) (by kernel_rfl) (fun _ _ _ h => h) (by rfl) (fun W hSW => RT.run_row 34 _ rfl _ rfl _ _ (hSW.blk HXK2.out (by have := HBW.out; omega)) Tryd.underlying34 rfl (by rw [HV.out]; kernel_rfl)) ?_
    (try simp only [Act.put, List.setIfInBounds_toArray, List.set_cons_zero, List.set_cons_succ])
    refine' RL.takeV (i := 5) (v := _) rfl (by kernel_rfl) (by kernel_rfl) (by kernel_rfl) (fun _ _ _ h => h) (by rfl) ?hk33 ?_
    case hk33 => (intro W hSW; go_simp; try with_reducible rfl)
    (try simp only [Act.put, List.setIfInBounds_toArray, List.set_cons_zero, List.set_cons_succ])
    refine' RL.takeV (i := 6) (v := _) rfl (by kernel_rfl) (by kernel_rfl) (by kernel_rfl) (fun _ _ _ h => h) (by rfl) ?hk34 ?_
    case hk34 => (intro W hSW; go_simp; try with_reducible rfl)
    (try simp only [Act.put, List.setIfInBounds_toArray, List.set_cons_zero, List.set_cons_succ])
    refine RL.stepK (i := 7) rfl (by kernel_rfl) (by rfl) (fun wk hlwk hswk K hK => ?_)
    have HWK := Lib.hid (show Below wh.heap.size wh wk from (Below.drew (Below.refl _ _)).trans hlwk)
    refine mapUpdate_op _ _ _ 56 rfl 34 62 keyed_key Tryd.underlying56 bw N s g rfl (HG2.out.below HWK.out HG2.out.lt) (by have := HNN.out; unfold maxLen; omega) (.agg (Cv.bytesV k)) (.agg #[.string t]) _ rfl rfl (key32 k HK.out) ?_
    intro Y2 hY2 hgY2
    have HY2 := Lib.hid hY2; have HGY2 := Lib.hid hgY2
    refine hK.out _ _ (Only.grown hswk hgY2 (fun j hj => .inl (by cases hj; rfl))) ?_
    clear hK hY2 hgY2
    (try simp only [Act.put, List.setIfInBounds_toArray, List.set_cons_zero, List.set_cons_succ])
    refine RL.done (by kernel_rfl) (fun wl hlwl hswl => ?_)
    have HWL := Lib.hid (show Below Y2.heap.size Y2 wl from hlwl)
    have HU2 := Lib.hid (show Only wh bw wl from hswl)
    clear hlwl hswl
    go_wp2
    go_ret
    have hZw : Sp.Upd w Z [] := Sp.Upd.of_below HZB.out
    have hmap : ∃ es clock, wk.heap[bw]? = some (.map es clock) := isMap (HG2.out.below HWK.out HG2.out.lt)
    refine ⟨rfl, ⟨HU2.out.blk HST2.out HNW.out, HNE2.out, HGOOD.out.snoc HK.out HVV.out HW.out, ⟨f2, ?_, ?_⟩, ⟨_, _, (HY2.out.below HWL.out HY2.out.lt), fun x => ?_⟩⟩, ?_⟩
    · exact HFH.out.keep (HU2.out.block bo HFH.out.lt (by simpa using HNE2.out))
    · exact ((HXH.out.below HWK.out).map HGY2.out hmap).below HWL.out
    · rw [whoOf_snoc L t.data.toList k x HW.out]
      by_cases hx : x = k
      · subst hx
        rw [if_pos rfl, upd_same]
        rfl
      · rw [if_neg hx, upd_other g _ (fun e => hx (by injection e))]
        exact HGX.out x
    · exact Sp.Upd.trans (Sp.Upd.trans (Sp.Upd.trans (Sp.Upd.refl w [bo, bw]) hZw (by simp)) HUP.out (fun x hx => .inl (by simp at hx; simp [hx]))) HU2.out (fun x hx => .inl (by simp at hx; simp [hx]))
  · have HZwa := Lib.hid (show Below Z.heap.size Z wa from (Below.drew (Below.refl _ _)).trans hlwa)
    have hsz := HV.out
    have hfold := fold_cells (Cv.bytesV k) #[.int .u8 0, .int .u8 0, .int .u8 0, .int .u8 0, .int .u8 0, .int .u8 0, .int .u8 0, .int .u8 0, .int .u8 0, .int .u8 0, .int .u8 0, .int .u8 0, .int .u8 0, .int .u8 0, .int .u8 0, .int .u8 0, .int .u8 0, .int .u8 0, .int .u8 0, .int .u8 0, .int .u8 0, .int .u8 0, .int .u8 0, .int .u8 0, .int .u8 0, .int .u8 0, .int .u8 0, .int .u8 0, .int .u8 0, .int .u8 0, .int .u8 0, .int .u8 0] (by rw [hsz]; rfl) 32 hsz.symm
    go_simp
    clear hsz hfold
    refine hK.out _ _ (Only.alloc hswa _) ?_
    clear hK
    (try simp only [Act.put, List.setIfInBounds_toArray, List.set_cons_zero, List.set_cons_succ])
    refine RL.stepK (i := 6) rfl (by kernel_rfl) (by rfl) (fun wc hlwc hswc K hK => ?_)
    have HZwc := Lib.hid ((HZwa.out.alloc HZwa.out.size _).trans (Below.mono hlwc (by have := HZwa.out.size; simp; omega)))
    have HZA := Lib.hid (show Z.heap.size ≤ wc.heap.size from HZwc.out.size)
    have HRc := Lib.hid ((Rg.Blk.new wa (Cv.bytesV k) 34).below hlwc (by simp))
    have hc := Clone_any wc (.slice A nn c) kl (HKZ.out.below HZwc.out) (by have := HKK.out; have := HM.out; omega)
    go_simp
    refine hc.mono ?_
    rintro e wb ⟨v6, rfl, ho, hb⟩
    have HO := Lib.hid ho
    have HZwb := Lib.hid (HZwc.out.trans (hb.mono HZwc.out.size))
    refine hK.out _ _ (Only.lat hswc hb) ?_
    clear hK hc
    (try simp only [Act.put, List.setIfInBounds_toArray, List.set_cons_zero, List.set_cons_succ])
    have HRb := Lib.hid (HRc.out.below hb HRc.out.lt)
    refine RL.stepK (i := 9) rfl (by kernel_rfl) (by rfl) (fun we hlwe hswe K hK => ?_)
    have HZwe := Lib.hid (HZwb.out.trans (Below.mono hlwe HZwb.out.size)); have HOe := Lib.hid (ownsBelow HO.out hlwe)
    have HRe := Lib.hid (show Rd we (some ⟨wa.heap.size, 0, none⟩) (bv k) from fun j x hx => ⟨wa.heap.size, 0, rfl, (HRb.out.below hlwe HRb.out.lt).lt, by rw [Nat.zero_add]; exact (HRb.out.below hlwe HRb.out.lt).cell j (by unfold Cv.bytesV; rw [List.getElem?_toArray]; exact hx)⟩)
    have HBe := Lib.hid (show wc.heap.size ≤ we.heap.size from Nat.le_trans hb.size (Below.size hlwe))
    refine appN_op _ _ 50 rfl Tryd.underlying50 infoK rfl (by decide) (by decide) HOe.out rfl rfl (show (bv k).length = 1 * 32 by rw [bv_length, HK.out]) HRe.out (bv_cells k) (by have := HKK.out; have := HM.out; omega) HBe.out ?_
    intro v9 wf hv9 hg9
    have HV9 := Lib.hid hv9
    have HLO9 := Lib.hid (show ∀ j, v6.ownBlock = some j → Z.heap.size ≤ j from fun j hj => Nat.le_trans HZA.out (World.ownsRow.lt HOe.out j hj).1)
    have HZwf := Lib.hid (HZwe.out.grown hg9 HZwe.out.size HLO9.out)
    refine hK.out _ _ (Only.grown hswe hg9 (fun j hj => .inr (HLO9.out j hj))) ?_
    clear hK hv9 hg9
    (try simp only [Act.put, List.setIfInBounds_toArray, List.set_cons_zero, List.set_cons_succ])
    refine RL.stepK (i := 10) rfl (by kernel_rfl) (by rfl) (fun wg hlwg hswg K hK => ?_)
    have HZwg := Lib.hid (HZwf.out.trans (Below.mono hlwg HZwf.out.size))
    obtain ⟨_, _, _, ⟨f, hf, hfx⟩, _⟩ := HSZ.out.below HZwg.out
    refine mapUpdate_op _ _ _ 55 rfl 9 50 keyed_str Tryd.underlying55 bo N _ f rfl hf (by have := HNN.out; unfold maxLen; omega) (.string t) v9 _ rfl rfl (key_str Tryd.underlying9 t (by have := HT0.out; unfold maxLen; omega)) ?_
    intro Y hY hgY
    have HKY := Lib.hid (show KS wg v9 (keysOf L t.data.toList ++ [k]) from KS.own (by have h9 := ownsBelow HV9.out hlwg; rw [hKL, cells_append, cells_one, List.length_append]; exact h9) (fun x hx => by rcases List.mem_append.1 hx with h | h; exact HKL32.out x (by rw [← hKL]; exact h); rw [List.mem_singleton.1 h]; exact HK.out))
    obtain ⟨f2, hf2, hfx2⟩ := of_next hf hfx hY hgY HKY.out
    have HF2 := Lib.hid hf2; have HFX2 := Lib.hid hfx2
    have HGY := Lib.hid hgY
    refine hK.out _ _ (Only.grown hswg hgY (fun j hj => .inl (by cases hj; rfl))) ?_
    clear hK hf hfx hY hgY hf2 hfx2
    (try simp only [Act.put, List.setIfInBounds_toArray, List.set_cons_zero, List.set_cons_succ])
    refine RL.done (by kernel_rfl) (fun wh hlwh hswh => ?_)
    have HUP := Lib.hid (show Sp.Upd Z wh [bo] from hswh)
    have HFH := Lib.hid (HF2.out.below hlwh HF2.out.lt); have HXH := Lib.hid (HFX2.out.below hlwh)
    clear hlwh hswh
    go_upto_region 12 with fail
    have HST2 := Lib.hid ((show Only Z bo wh from HUP.out).blk HSZ.out.1 HNE.out)
    have HXK2 := Lib.hid ((show Only Z bo wh from HUP.out).blk HXZ.out (by have := HBO.out; omega))
    obtain ⟨_, hne2, hgood, _, ⟨g, s, hg, hgx⟩⟩ := HSZ.out
    have HNE2 := Lib.hid hne2
    have HGOOD := Lib.hid hgood
    have HG2 := Lib.hid (hg.keep (HUP.out.block bw hg.lt (by simpa using fun e => hne2 e.symm)))
    have HGX := Lib.hid hgx
    clear hne2 hgood hg hgx
    refine RL.start (Only wh bw) (by kernel_rfl) ((Only.refl wh bw).drew) ?_
    refine' RL.takeV (i := 0) (v := _) rfl (by kernel_rfl) (by kernel_rfl) (by kernel_rfl) (fun _ _ _ h => h) (by rfl) ?hk35 ?_
    case hk35 => (intro W hSW; go_simp; try with_reducible rfl)
    (try simp only [Act.put, List.setIfInBounds_toArray, List.set_cons_zero, List.set_cons_succ])
    refine' RL.takeV (i := 1) (v := _) rfl (by kernel_rfl) (by kernel_rfl) (by kernel_rfl) (fun _ _ _ h => h) (by rfl) ?hk36 ?_
    case hk36 => (intro W hSW; go_simp; try with_reducible rfl)
    (try simp only [Act.put, List.setIfInBounds_toArray, List.set_cons_zero, List.set_cons_succ])
    refine' RL.takeV (i := 2) (v := _) rfl (by kernel_rfl) (by kernel_rfl) (by kernel_rfl) (fun _ _ _ h => h) (by rfl) ?hk37 ?_
    case hk37 => (intro W hSW; go_simp; try with_reducible rfl)
    (try simp only [Act.put, List.setIfInBounds_toArray, List.set_cons_zero, List.set_cons_succ])
    refine' RL.takeV (i := 3) (v := _) rfl (by kernel_rfl) (by kernel_rfl) (by kernel_rfl) (fun _ _ _ h => h) (by rfl) ?hk38 ?_
    case hk38 => (intro W hSW; have c3 := (hSW.blk HST2.out HNW.out).cell 3 (v := .map (some bw)) rfl; go_simp; try with_reducible rfl)
    (try simp only [Act.put, List.setIfInBounds_toArray, List.set_cons_zero, List.set_cons_succ])
    refine RL.takeV (i := 4) (v := .agg (Cv.bytesV k)) rfl (by kernel_rfl) (by kernel_rfl) (by kernel_rfl) (fun _ _ _ h => h) (by rfl) (fun W hSW => RT.run_row 34 _ rfl _ rfl _ _ (hSW.blk HXK2.out (by have := HBW.out; omega)) Tryd.underlying34 rfl (by rw [HV.out]; kernel_rfl)) ?_
    (try simp only [Act.put, List.setIfInBounds_toArray, List.set_cons_zero, List.set_cons_succ])
    refine' RL.takeV (i := 5) (v := _) rfl (by kernel_rfl) (by kernel_rfl) (by kernel_rfl) (fun _ _ _ h => h) (by rfl) ?hk39 ?_
    case hk39 => (intro W hSW; go_simp; try with_reducible rfl)
    (try simp only [Act.put, List.setIfInBounds_toArray, List.set_cons_zero, List.set_cons_succ])
    refine' RL.takeV (i := 6) (v := _) rfl (by kernel_rfl) (by kernel_rfl) (by kernel_rfl) (fun _ _ _ h => h) (by rfl) ?hk40 ?_
    case hk40 => (intro W hSW; go_simp; try with_reducible rfl)
    (try simp only [Act.put, List.setIfInBounds_toArray, List.set_cons_zero, List.set_cons_succ])
    refine RL.stepK (i := 7) rfl (by kernel_rfl) (by rfl) (fun wk hlwk hswk K hK => ?_)
    have HWK := Lib.hid (show Below wh.heap.size wh wk from (Below.drew (Below.refl _ _)).trans hlwk)
    refine mapUpdate_op _ _ _ 56 rfl 34 62 keyed_key Tryd.underlying56 bw N s g rfl (HG2.out.below HWK.out HG2.out.lt) (by have := HNN.out; unfold maxLen; omega) (.agg (Cv.bytesV k)) (.agg #[.string t]) _ rfl rfl (key32 k HK.out) ?_
    intro Y2 hY2 hgY2
    have HY2 := Lib.hid hY2; have HGY2 := Lib.hid hgY2
    refine hK.out _ _ (Only.grown hswk hgY2 (fun j hj => .inl (by cases hj; rfl))) ?_
    clear hK hY2 hgY2
    (try simp only [Act.put, List.setIfInBounds_toArray, List.set_cons_zero, List.set_cons_succ])
    refine RL.done (by kernel_rfl) (fun wl hlwl hswl => ?_)
    have HWL := Lib.hid (show Below Y2.heap.size Y2 wl from hlwl)
    have HU2 := Lib.hid (show Only wh bw wl from hswl)
    clear hlwl hswl
    go_wp2
    go_ret
    have hZw : Sp.Upd w Z [] := Sp.Upd.of_below HZB.out
    have hmap : ∃ es clock, wk.heap[bw]? = some (.map es clock) := isMap (HG2.out.below HWK.out HG2.out.lt)
    refine ⟨rfl, ⟨HU2.out.blk HST2.out HNW.out, HNE2.out, HGOOD.out.snoc HK.out HVV.out HW.out, ⟨f2, ?_, ?_⟩, ⟨_, _, (HY2.out.below HWL.out HY2.out.lt), fun x => ?_⟩⟩, ?_⟩
    · exact HFH.out.keep (HU2.out.block bo HFH.out.lt (by simpa using HNE2.out))
    · exact ((HXH.out.below HWK.out).map HGY2.out hmap).below HWL.out
    · rw [whoOf_snoc L t.data.toList k x HW.out]
      by_cases hx : x = k
      · subst hx
        rw [if_pos rfl, upd_same]
        rfl
      · rw [if_neg hx, upd_other g _ (fun e => hx (by injection e))]
        exact HGX.out x
    · exact Sp.Upd.trans (Sp.Upd.trans (Sp.Upd.trans (Sp.Upd.refl w [bo, bw]) hZw (by simp)) HUP.out (fun x hx => .inl (by simp at hx; simp [hx]))) HU2.out (fun x hx => .inl (by simp at hx; simp [hx]))
set_option maxRecDepth 20000 in
set_option maxHeartbeats 8000000 in
theorem Add_ok_false (w : World) (sb bo bw T M N : Nat) (L : List Pr) (h : IsSt w sb bo bw T M N L) (t : ByteArray) (ht : t.size ≤ 1000) (k : List UInt8) (hk : k.length = 32) (hv : validB t.data.toList = true) (hw : whoOf L k = none)
    (hb : (keysOf L t.data.toList).isEmpty = true) (hT : (tens L).length < T) (hK : (keysOf L t.data.toList).length < M) (hN : N ≤ 1000) (hm : M ≤ 64 ∧ T ≤ 64) :
    Calls Tryd.prog 18 #[.pointer (some ⟨sb, 0, none⟩), .string t, .agg (Cv.bytesV k)] w fun e w' => e = .returned .nilIface ∧ IsSt w' sb bo bw T M (N + 1) (L ++ [(t.data.toList, k)]) ∧ Sp.Upd w w' [bo, bw] := by
  have HS := Lib.hid h
  have HK := Lib.hid hk
  have HV := Lib.hid (show (Cv.bytesV k).size = 32 by rw [Cv.bytesV_size, hk])
  have HW := Lib.hid hw
  obtain ⟨A, c, hks, hlo⟩ := look_of h t (by unfold maxLen; omega)
  have HKS := Lib.hid hks
  have HLO := Lib.hid hlo
  have HVA := Lib.hid (show ∀ W : World, Calls Tryd.prog 8 #[.string t] W fun e w' => e = .returned (.bool true) ∧ W = w' from fun W => by have := Valid_any W t (by omega); rw [hv] at this; exact this)
  have hlo2 : ∀ W, Below w.heap.size w W → (Instr.lookup 55 (.map (some bo)) (.string t) true).run Tryd.prog W = .ok (.tuple #[.slice A (keysOf L t.data.toList).length c, .bool false]) W := fun W hW => by
    rw [hlo W hW, hb]; rfl
  have HLO2 := Lib.hid hlo2
  have HTT := Lib.hid hT
  have HKK := Lib.hid hK
  have HM := Lib.hid hm
  have HNN := Lib.hid hN
  have HT0 := Lib.hid ht
  have HVV := Lib.hid hv
  have HBB := Lib.hid hb
  have HLEN := Lib.hid (show ∀ W, Below w.heap.size w W → ∀ ty, (Builtin.len_ #[55] ty #[.map (some bo)]).run Tryd.prog W = .ok (.int .i64 ((tens L).length : Nat)) W from fun W hW ty => by
    obtain ⟨_, _, _, ⟨f, hf, _⟩, _⟩ := h.below hW
    exact hf.len Tryd.underlying55 ty)
  have HKL32 := Lib.hid (show ∀ x ∈ keysOf L t.data.toList, x.length = 32 from fun x hx => by obtain ⟨p, hp, rfl⟩ := List.mem_map.1 hx; exact h.2.2.1.key p (List.mem_filter.1 hp).1)
  clear h hk hw hv hb hT hK hm hN ht hks hlo hlo2 HLO
  generalize hKL : keysOf L t.data.toList = kl at *
  generalize hnn : kl.length = nn at *
  go_enter Tryd.func18, Tryd.ntmps18
  go_upto_region 1 with (refine Rg.box_fresh rfl 34 _ rfl (Cv.bytesV k) rfl ?_; intro X hX hbX hnX; have HX := Lib.hid hX; have HBX := Lib.hid hbX; clear hX hbX hnX)
  have HSX := Lib.hid (HS.out.below HBX.out)
  refine RL.start (RL.Aft X) (by kernel_rfl) (RL.Aft.drew (RL.Aft.refl X)) ?_
  refine' RL.takeV (i := 0) (v := _) rfl (by kernel_rfl) (by kernel_rfl) (by kernel_rfl) (fun _ _ _ h => h) (by rfl) ?hk9 ?_
  case hk9 => (intro W hSW; go_simp; try with_reducible rfl)
  (try simp only [Act.put, List.setIfInBounds_toArray, List.set_cons_zero, List.set_cons_succ])
  refine' RL.takeV (i := 1) (v := _) rfl (by kernel_rfl) (by kernel_rfl) (by kernel_rfl) (fun _ _ _ h => h) (by rfl) ?hk10 ?_
  case hk10 => (intro W hSW; go_simp; try with_reducible rfl)
  (try simp only [Act.put, List.setIfInBounds_toArray, List.set_cons_zero, List.set_cons_succ])
  refine' RL.takeV (i := 2) (v := _) rfl (by kernel_rfl) (by kernel_rfl) (by kernel_rfl) (fun _ _ _ h => h) (by rfl) ?hk11 ?_
  case hk11 => (intro W hSW; go_simp; try with_reducible rfl)
  (try simp only [Act.put, List.setIfInBounds_toArray, List.set_cons_zero, List.set_cons_succ])
  refine' RL.takeV (i := 3) (v := _) rfl (by kernel_rfl) (by kernel_rfl) (by kernel_rfl) (fun _ _ _ h => h) (by rfl) ?hk12 ?_
  case hk12 => (intro W hSW; have c3 := (HSX.out.below hSW).1.cell 3 (v := .map (some bw)) rfl; go_simp; try with_reducible rfl)
  (try simp only [Act.put, List.setIfInBounds_toArray, List.set_cons_zero, List.set_cons_succ])
  refine RL.takeV (i := 4) (v := .agg (Cv.bytesV k)) rfl (by kernel_rfl) (by kernel_rfl) (by kernel_rfl) (fun _ _ _ h => h) (by rfl) (fun W hSW => RT.run_row 34 _ rfl _ rfl _ _ (HX.out.below hSW HX.out.lt) Tryd.underlying34 rfl (by rw [HV.out]; kernel_rfl)) ?_
  (try simp only [Act.put, List.setIfInBounds_toArray, List.set_cons_zero, List.set_cons_succ])
  refine' RL.takeV (i := 5) (v := .tuple #[.agg #[.string ⟨#[]⟩], .bool false]) rfl (by kernel_rfl) (by kernel_rfl) (by kernel_rfl) (fun _ _ _ h => h) (by rfl) ?hk5 ?_
  case hk5 => (intro W hSW; have hl := look_who (HSX.out.below hSW) k HK.out; rw [HW.out] at hl; simp only [Option.map_some, Option.map_none, Option.getD_some, Option.getD_none, Option.isSome_some, Option.isSome_none] at hl; go_simp; try with_reducible rfl)
  (try simp only [Act.put, List.setIfInBounds_toArray, List.set_cons_zero, List.set_cons_succ])
  refine' RL.takeV (i := 6) (v := _) rfl (by kernel_rfl) (by kernel_rfl) (by kernel_rfl) (fun _ _ _ h => h) (by rfl) ?hk13 ?_
  case hk13 => (intro W hSW; go_simp; try with_reducible rfl)
  (try simp only [Act.put, List.setIfInBounds_toArray, List.set_cons_zero, List.set_cons_succ])
  refine' RL.takeV (i := 7) (v := _) rfl (by kernel_rfl) (by kernel_rfl) (by kernel_rfl) (fun _ _ _ h => h) (by rfl) ?hk14 ?_
  case hk14 => (intro W hSW; go_simp; try with_reducible rfl)
  (try simp only [Act.put, List.setIfInBounds_toArray, List.set_cons_zero, List.set_cons_succ])
  refine' RL.takeV (i := 8) (v := _) rfl (by kernel_rfl) (by kernel_rfl) (by kernel_rfl) (fun _ _ _ h => h) (by rfl) ?hk15 ?_
  case hk15 => (intro W hSW; go_simp; try with_reducible rfl)
  (try simp only [Act.put, List.setIfInBounds_toArray, List.set_cons_zero, List.set_cons_succ])
  refine RL.stepK (i := 9) rfl (by kernel_rfl) (by rfl) (fun wa hlwa hswa K hK => ?_)
  go_simp
  have HLA := Lib.hid hswa
  refine hK.out _ _ (RL.Aft.alloc hswa _) ?_
  clear hK
  (try simp only [Act.put, List.setIfInBounds_toArray, List.set_cons_zero, List.set_cons_succ])
  refine RL.stepK (i := 10) rfl (by kernel_rfl) (by rfl) (fun wb hlwb hswb K hK => ?_)
  have hba := (Rg.Blk.new wa #[.string ⟨#[]⟩] 62).below hlwb (by simp)
  refine store_blk_op 62 _ _ rfl wa.heap.size #[.string ⟨#[]⟩] #[.string ⟨#[]⟩] 62 rfl rfl hba (by kernel_rfl) rfl (by simp [Value.oneCell']) ?_
  intro Y hY hgY
  have HY := Lib.hid hY
  have HAY := Lib.hid (show RL.Aft X Y from Below.grown hswb hgY hswb.size (fun k hk => by cases hk; exact HLA.out.size))
  refine hK.out _ _ HAY.out ?_
  clear hK hlwb hswb hba hY hgY hlwa hswa
  (try simp only [Act.put, List.setIfInBounds_toArray, List.set_cons_zero, List.set_cons_succ])
  refine' RL.takeV (i := 11) (v := _) rfl (by kernel_rfl) (by kernel_rfl) (by kernel_rfl) (fun _ _ _ h => h) (by rfl) ?hk16 ?_
  case hk16 => (intro W hSW; go_simp; try with_reducible rfl)
  (try simp only [Act.put, List.setIfInBounds_toArray, List.set_cons_zero, List.set_cons_succ])
  refine RL.done (by kernel_rfl) (fun wd hlwd hswd => ?_)
  have HWD := Lib.hid (show RL.Aft X wd from hswd)
  clear hlwd hswd
  have HBD := Lib.hid (show Below w.heap.size w wd from HBX.out.trans (Below.mono HWD.out HBX.out.size))
  have hst := (HS.out.below HBD.out).1
  have c0 := hst.cell 0 (v := .int .i64 (T : Int)) rfl
  have c1 := hst.cell 1 (v := .int .i64 (M : Int)) rfl
  have c2 := hst.cell 2 (v := .map (some bo)) rfl
  have hl2 := HLO2.out wd HBD.out
  have hle := HLEN.out wd HBD.out
  have hleN := fun n => HLEN.out (wd.drewN n) (bdN HBD.out n)
  have hd1 : decide (M ≤ nn) = false := by rw [decide_eq_false_iff_not]; have := HKK.out; omega
  have hd1b : decide ((M : Int) ≤ (nn : Int)) = false := by rw [decide_eq_false_iff_not]; have := HKK.out; omega
  have hd2 : decide (T ≤ (tens L).length) = false := by rw [decide_eq_false_iff_not]; have := HTT.out; omega
  have hd2b : decide ((T : Int) ≤ ((tens L).length : Int)) = false := by rw [decide_eq_false_iff_not]; have := HTT.out; omega
  clear hst
  go_upto_region 7 with (go_at_call 8; refine (HVA.out _).mono ?_; rintro e w1 ⟨rfl, rfl⟩; skip)
  go_quiet (fail)
  go_upto_region 11 with fail
  refine wp_name3 (fun Z hZ => ?_)
  have HZB := Lib.hid (show Below w.heap.size w Z by rw [hZ]; exact bdN HBD.out _)
  have HSZ := Lib.hid (HS.out.below HZB.out)
  have HXZ := Lib.hid (show Rg.Blk Z w.heap.size 34 (Cv.bytesV k) by rw [hZ]; exact (show Rg.Blk wd w.heap.size 34 (Cv.bytesV k) from HX.out.below HWD.out HX.out.lt))
  have HKZ := Lib.hid (HKS.out.below HZB.out)
  have HBO := Lib.hid (show bo < w.heap.size by obtain ⟨_, _, _, ⟨f, hf, _⟩, _⟩ := HS.out; exact hf.lt)
  have HBW := Lib.hid (show bw < w.heap.size by obtain ⟨_, _, _, _, ⟨g, s, hg, _⟩⟩ := HS.out; exact hg.lt)
  have HNE := Lib.hid (show sb ≠ bo by obtain ⟨h1, _, _, ⟨f, hf, _⟩, _⟩ := HS.out; exact hf.ne h1)
  have HNW := Lib.hid (show sb ≠ bw by obtain ⟨h1, _, _, _, ⟨g, s, hg, _⟩⟩ := HS.out; exact hg.ne h1)
  clear hZ c0 c1 c2 hl2 hle hleN hd1 hd1b hd2 hd2b
  refine RL.start (Only Z bo) (by kernel_rfl) ((Only.refl Z bo).drew) ?_
  refine' RL.takeV (i := 0) (v := _) rfl (by kernel_rfl) (by kernel_rfl) (by kernel_rfl) (fun _ _ _ h => h) (by rfl) ?hk23 ?_
  case hk23 => (intro W hSW; go_simp; try with_reducible rfl)
  (try simp only [Act.put, List.setIfInBounds_toArray, List.set_cons_zero, List.set_cons_succ])
  refine' RL.takeV (i := 1) (v := _) rfl (by kernel_rfl) (by kernel_rfl) (by kernel_rfl) (fun _ _ _ h => h) (by rfl) ?hk24 ?_
  case hk24 => (intro W hSW; go_simp; try with_reducible rfl)
  (try simp only [Act.put, List.setIfInBounds_toArray, List.set_cons_zero, List.set_cons_succ])
  refine' RL.takeV (i := 2) (v := _) rfl (by kernel_rfl) (by kernel_rfl) (by kernel_rfl) (fun _ _ _ h => h) (by rfl) ?hk25 ?_
  case hk25 => (intro W hSW; go_simp; try with_reducible rfl)
  (try simp only [Act.put, List.setIfInBounds_toArray, List.set_cons_zero, List.set_cons_succ])
  refine' RL.takeV (i := 3) (v := _) rfl (by kernel_rfl) (by kernel_rfl) (by kernel_rfl) (fun _ _ _ h => h) (by rfl) ?hk26 ?_
  case hk26 => (intro W hSW; have c2 := (hSW.blk HSZ.out.1 HNE.out).cell 2 (v := .map (some bo)) rfl; go_simp; try with_reducible rfl)
  (try simp only [Act.put, List.setIfInBounds_toArray, List.set_cons_zero, List.set_cons_succ])
  refine' RL.takeV (i := 4) (v := _) rfl (by kernel_rfl) (by kernel_rfl) (by kernel_rfl) (fun _ _ _ h => h) (by rfl) ?hk27 ?_
  case hk27 => (intro W hSW; go_simp; try with_reducible rfl)
  (try simp only [Act.put, List.setIfInBounds_toArray, List.set_cons_zero, List.set_cons_succ])
  refine' RL.takeV (i := 5) (v := _) rfl (by kernel_rfl) (by kernel_rfl) (by kernel_rfl) (fun _ _ _ h => h) (by rfl) ?hk28 ?_
  case hk28 => (intro W hSW; go_simp; try with_reducible rfl)
  (try simp only [Act.put, List.setIfInBounds_toArray, List.set_cons_zero, List.set_cons_succ])
  refine RL.takeV (i := 7) (v := .agg (Cv.bytesV k)) rfl (by kernel_rfl) (by kernel_rfl) (by kernel_rfl) (fun _ _ _ h => h) (by rfl) (fun W hSW => RT.run_row 34 _ rfl _ rfl _ _ (hSW.blk HXZ.out (by have := HBO.out; omega)) Tryd.underlying34 rfl (by rw [HV.out]; kernel_rfl)) ?_
  (try simp only [Act.put, List.setIfInBounds_toArray, List.set_cons_zero, List.set_cons_succ])
  refine RL.step2 (i := 6) (j := 8) rfl rfl (by kernel_rfl) (by rfl) (by rfl) (fun wa hlwa hswa K hK => ?_) (fun wa hlwa hswa K hK => ?_)
  · have HZwa := Lib.hid (show Below Z.heap.size Z wa from (Below.drew (Below.refl _ _)).trans hlwa)
    have HZA := Lib.hid (show Z.heap.size ≤ wa.heap.size from HZwa.out.size)
    have hc := Clone_any wa (.slice A nn c) kl (HKZ.out.below HZwa.out) (by have := HKK.out; have := HM.out; omega)
    go_simp
    refine hc.mono ?_
    rintro e wb ⟨v6, rfl, ho, hb⟩
    have HO := Lib.hid ho
    have HZwb := Lib.hid (HZwa.out.trans (hb.mono HZwa.out.size))
    refine hK.out _ _ (Only.lat hswa hb) ?_
    clear hK hc
    (try simp only [Act.put, List.setIfInBounds_toArray, List.set_cons_zero, List.set_cons_succ])
    refine RL.stepK (i := 8) rfl (by kernel_rfl) (by rfl) (fun wc hlwc hswc K hK => ?_)
    have HZwc := Lib.hid (HZwb.out.trans (Below.mono hlwc HZwb.out.size)); have HOc := Lib.hid (ownsBelow HO.out hlwc)
    have hsz := HV.out
    have hfold := fold_cells (Cv.bytesV k) #[.int .u8 0, .int .u8 0, .int .u8 0, .int .u8 0, .int .u8 0, .int .u8 0, .int .u8 0, .int .u8 0, .int .u8 0, .int .u8 0, .int .u8 0, .int .u8 0, .int .u8 0, .int .u8 0, .int .u8 0, .int .u8 0, .int .u8 0, .int .u8 0, .int .u8 0, .int .u8 0, .int .u8 0, .int .u8 0, .int .u8 0, .int .u8 0, .int .u8 0, .int .u8 0, .int .u8 0, .int .u8 0, .int .u8 0, .int .u8 0, .int .u8 0, .int .u8 0] (by rw [hsz]; rfl) 32 hsz.symm
    go_simp
    clear hsz hfold
    refine hK.out _ _ (Only.alloc hswc _) ?_
    clear hK
    (try simp only [Act.put, List.setIfInBounds_toArray, List.set_cons_zero, List.set_cons_succ])
    refine RL.stepK (i := 9) rfl (by kernel_rfl) (by rfl) (fun we hlwe hswe K hK => ?_)
    have HZwe := Lib.hid ((HZwc.out.alloc HZwc.out.size _).trans (Below.mono hlwe (by have := HZwc.out.size; simp; omega)))
    have HOe := Lib.hid (ownsBelow (World.ownsRow.alloc HOc.out _) hlwe)
    have HRe := Lib.hid (show Rd we (some ⟨wc.heap.size, 0, none⟩) (bv k) from fun j x hx => ⟨wc.heap.size, 0, rfl, by have := Below.size hlwe; simp at this; omega, by rw [Nat.zero_add]; exact ((Rg.Blk.new wc (Cv.bytesV k) 34).below hlwe (by simp)).cell j (by unfold Cv.bytesV; rw [List.getElem?_toArray]; exact hx)⟩)
    have HBe := Lib.hid (show wa.heap.size ≤ we.heap.size by have h1 := Below.size hlwe; have h2 := Below.size hlwc; simp at h1; have h3 := HZwb.out.size; exact Nat.le_trans (show wa.heap.size ≤ wb.heap.size from hb.size) (by omega))
    refine appN_op _ _ 50 rfl Tryd.underlying50 infoK rfl (by decide) (by decide) HOe.out rfl rfl (show (bv k).length = 1 * 32 by rw [bv_length, HK.out]) HRe.out (bv_cells k) (by have := HKK.out; have := HM.out; omega) HBe.out ?_
    intro v9 wf hv9 hg9
    have HV9 := Lib.hid hv9
    have HLO9 := Lib.hid (show ∀ j, v6.ownBlock = some j → Z.heap.size ≤ j from fun j hj => Nat.le_trans HZA.out (World.ownsRow.lt HOe.out j hj).1)
    have HZwf := Lib.hid (HZwe.out.grown hg9 HZwe.out.size HLO9.out)
    refine hK.out _ _ (Only.grown hswe hg9 (fun j hj => .inr (HLO9.out j hj))) ?_
    clear hK hv9 hg9
    (try simp only [Act.put, List.setIfInBounds_toArray, List.set_cons_zero, List.set_cons_succ])
    refine RL.stepK (i := 10) rfl (by kernel_rfl) (by rfl) (fun wg hlwg hswg K hK => ?_)
    have HZwg := Lib.hid (HZwf.out.trans (Below.mono hlwg HZwf.out.size))
    obtain ⟨_, _, _, ⟨f, hf, hfx⟩, _⟩ := HSZ.out.below HZwg.out
    refine mapUpdate_op _ _ _ 55 rfl 9 50 keyed_str Tryd.underlying55 bo N _ f rfl hf (by have := HNN.out; unfold maxLen; omega) (.string t) v9 _ rfl rfl (key_str Tryd.underlying9 t (by have := HT0.out; unfold maxLen; omega)) ?_
    intro Y hY hgY
    have HKY := Lib.hid (show KS wg v9 (keysOf L t.data.toList ++ [k]) from KS.own (by have h9 := ownsBelow HV9.out hlwg; rw [hKL, cells_append, cells_one, List.length_append]; exact h9) (fun x hx => by rcases List.mem_append.1 hx with h | h; exact HKL32.out x (by rw [← hKL]; exact h); rw [List.mem_singleton.1 h]; exact HK.out))
    obtain ⟨f2, hf2, hfx2⟩ := of_next hf hfx hY hgY HKY.out
    have HF2 := Lib.hid hf2; have HFX2 := Lib.hid hfx2
    have HGY := Lib.hid hgY
    refine hK.out _ _ (Only.grown hswg hgY (fun j hj => .inl (by cases hj; rfl))) ?_
    clear hK hf hfx hY hgY hf2 hfx2
    (try simp only [Act.put, List.setIfInBounds_toArray, List.set_cons_zero, List.set_cons_succ])
    refine RL.done (by kernel_rfl) (fun wh hlwh hswh => ?_)
    have HUP := Lib.hid (show Sp.Upd Z wh [bo] from hswh)
    have HFH := Lib.hid (HF2.out.below hlwh HF2.out.lt); have HXH := Lib.hid (HFX2.out.below hlwh)
    clear hlwh hswh
    go_upto_region 12 with fail
    have HST2 := Lib.hid ((show Only Z bo wh from HUP.out).blk HSZ.out.1 HNE.out)
    have HXK2 := Lib.hid ((show Only Z bo wh from HUP.out).blk HXZ.out (by have := HBO.out; omega))
    obtain ⟨_, hne2, hgood, _, ⟨g, s, hg, hgx⟩⟩ := HSZ.out
    have HNE2 := Lib.hid hne2
    have HGOOD := Lib.hid hgood
    have HG2 := Lib.hid (hg.keep (HUP.out.block bw hg.lt (by simpa using fun e => hne2 e.symm)))
    have HGX := Lib.hid hgx
    clear hne2 hgood hg hgx
    refine RL.start (Only wh bw) (by kernel_rfl) ((Only.refl wh bw).drew) ?_
    refine' RL.takeV (i := 0) (v := _) rfl (by kernel_rfl) (by kernel_rfl) (by kernel_rfl) (fun _ _ _ h => h) (by rfl) ?hk41 ?_
    case hk41 => (intro W hSW; go_simp; try with_reducible rfl)
    (try simp only [Act.put, List.setIfInBounds_toArray, List.set_cons_zero, List.set_cons_succ])
    refine' RL.takeV (i := 1) (v := _) rfl (by kernel_rfl) (by kernel_rfl) (by kernel_rfl) (fun _ _ _ h => h) (by rfl) ?hk42 ?_
    case hk42 => (intro W hSW; go_simp; try with_reducible rfl)
    (try simp only [Act.put, List.setIfInBounds_toArray, List.set_cons_zero, List.set_cons_succ])
    refine' RL.takeV (i := 2) (v := _) rfl (by kernel_rfl) (by kernel_rfl) (by kernel_rfl) (fun _ _ _ h => h) (by rfl) ?hk43 ?_
    case hk43 => (intro W hSW; go_simp; try with_reducible rfl)
    (try simp only [Act.put, List.setIfInBounds_toArray, List.set_cons_zero, List.set_cons_succ])
    refine' RL.takeV (i := 3) (v := _) rfl (by kernel_rfl) (by kernel_rfl) (by kernel_rfl) (fun _ _ _ h => h) (by rfl) ?hk44 ?_
    case hk44 => (intro W hSW; have c3 := (hSW.blk HST2.out HNW.out).cell 3 (v := .map (some bw)) rfl; go_simp; try with_reducible rfl)
    (try simp only [Act.put, List.setIfInBounds_toArray, List.set_cons_zero, List.set_cons_succ])
    refine RL.takeV (i := 4) (v := .agg (Cv.bytesV k)) rfl (by kernel_rfl) (by kernel_rfl) (by kernel_rfl) (fun _ _ _ h => h) (by rfl) (fun W hSW => RT.run_row 34 _ rfl _ rfl _ _ (hSW.blk HXK2.out (by have := HBW.out; omega)) Tryd.underlying34 rfl (by rw [HV.out]; kernel_rfl)) ?_
    (try simp only [Act.put, List.setIfInBounds_toArray, List.set_cons_zero, List.set_cons_succ])
    refine' RL.takeV (i := 5) (v := _) rfl (by kernel_rfl) (by kernel_rfl) (by kernel_rfl) (fun _ _ _ h => h) (by rfl) ?hk45 ?_
    case hk45 => (intro W hSW; go_simp; try with_reducible rfl)
    (try simp only [Act.put, List.setIfInBounds_toArray, List.set_cons_zero, List.set_cons_succ])
    refine' RL.takeV (i := 6) (v := _) rfl (by kernel_rfl) (by kernel_rfl) (by kernel_rfl) (fun _ _ _ h => h) (by rfl) ?hk46 ?_
    case hk46 => (intro W hSW; go_simp; try with_reducible rfl)
    (try simp only [Act.put, List.setIfInBounds_toArray, List.set_cons_zero, List.set_cons_succ])
    refine RL.stepK (i := 7) rfl (by kernel_rfl) (by rfl) (fun wk hlwk hswk K hK => ?_)
    have HWK := Lib.hid (show Below wh.heap.size wh wk from (Below.drew (Below.refl _ _)).trans hlwk)
    refine mapUpdate_op _ _ _ 56 rfl 34 62 keyed_key Tryd.underlying56 bw N s g rfl (HG2.out.below HWK.out HG2.out.lt) (by have := HNN.out; unfold maxLen; omega) (.agg (Cv.bytesV k)) (.agg #[.string t]) _ rfl rfl (key32 k HK.out) ?_
    intro Y2 hY2 hgY2
    have HY2 := Lib.hid hY2; have HGY2 := Lib.hid hgY2
    refine hK.out _ _ (Only.grown hswk hgY2 (fun j hj => .inl (by cases hj; rfl))) ?_
    clear hK hY2 hgY2
    (try simp only [Act.put, List.setIfInBounds_toArray, List.set_cons_zero, List.set_cons_succ])
    refine RL.done (by kernel_rfl) (fun wl hlwl hswl => ?_)
    have HWL := Lib.hid (show Below Y2.heap.size Y2 wl from hlwl)
    have HU2 := Lib.hid (show Only wh bw wl from hswl)
    clear hlwl hswl
    go_wp2
    go_ret
    have hZw : Sp.Upd w Z [] := Sp.Upd.of_below HZB.out
    have hmap : ∃ es clock, wk.heap[bw]? = some (.map es clock) := isMap (HG2.out.below HWK.out HG2.out.lt)
    refine ⟨rfl, ⟨HU2.out.blk HST2.out HNW.out, HNE2.out, HGOOD.out.snoc HK.out HVV.out HW.out, ⟨f2, ?_, ?_⟩, ⟨_, _, (HY2.out.below HWL.out HY2.out.lt), fun x => ?_⟩⟩, ?_⟩
    · exact HFH.out.keep (HU2.out.block bo HFH.out.lt (by simpa using HNE2.out))
    · exact ((HXH.out.below HWK.out).map HGY2.out hmap).below HWL.out
    · rw [whoOf_snoc L t.data.toList k x HW.out]
      by_cases hx : x = k
      · subst hx
        rw [if_pos rfl, upd_same]
        rfl
      · rw [if_neg hx, upd_other g _ (fun e => hx (by injection e))]
        exact HGX.out x
    · exact Sp.Upd.trans (Sp.Upd.trans (Sp.Upd.trans (Sp.Upd.refl w [bo, bw]) hZw (by simp)) HUP.out (fun x hx => .inl (by simp at hx; simp [hx]))) HU2.out (fun x hx => .inl (by simp at hx; simp [hx]))
  · have HZwa := Lib.hid (show Below Z.heap.size Z wa from (Below.drew (Below.refl _ _)).trans hlwa)
    have hsz := HV.out
    have hfold := fold_cells (Cv.bytesV k) #[.int .u8 0, .int .u8 0, .int .u8 0, .int .u8 0, .int .u8 0, .int .u8 0, .int .u8 0, .int .u8 0, .int .u8 0, .int .u8 0, .int .u8 0, .int .u8 0, .int .u8 0, .int .u8 0, .int .u8 0, .int .u8 0, .int .u8 0, .int .u8 0, .int .u8 0, .int .u8 0, .int .u8 0, .int .u8 0, .int .u8 0, .int .u8 0, .int .u8 0, .int .u8 0, .int .u8 0, .int .u8 0, .int .u8 0, .int .u8 0, .int .u8 0, .int .u8 0] (by rw [hsz]; rfl) 32 hsz.symm
    go_simp
    clear hsz hfold
    refine hK.out _ _ (Only.alloc hswa _) ?_
    clear hK
    (try simp only [Act.put, List.setIfInBounds_toArray, List.set_cons_zero, List.set_cons_succ])
    refine RL.stepK (i := 6) rfl (by kernel_rfl) (by rfl) (fun wc hlwc hswc K hK => ?_)
    have HZwc := Lib.hid ((HZwa.out.alloc HZwa.out.size _).trans (Below.mono hlwc (by have := HZwa.out.size; simp; omega)))
    have HZA := Lib.hid (show Z.heap.size ≤ wc.heap.size from HZwc.out.size)
    have HRc := Lib.hid ((Rg.Blk.new wa (Cv.bytesV k) 34).below hlwc (by simp))
    have hc := Clone_any wc (.slice A nn c) kl (HKZ.out.below HZwc.out) (by have := HKK.out; have := HM.out; omega)
    go_simp
    refine hc.mono ?_
    rintro e wb ⟨v6, rfl, ho, hb⟩
    have HO := Lib.hid ho
    have HZwb := Lib.hid (HZwc.out.trans (hb.mono HZwc.out.size))
    refine hK.out _ _ (Only.lat hswc hb) ?_
    clear hK hc
    (try simp only [Act.put, List.setIfInBounds_toArray, List.set_cons_zero, List.set_cons_succ])
    have HRb := Lib.hid (HRc.out.below hb HRc.out.lt)
    refine RL.stepK (i := 9) rfl (by kernel_rfl) (by rfl) (fun we hlwe hswe K hK => ?_)
    have HZwe := Lib.hid (HZwb.out.trans (Below.mono hlwe HZwb.out.size)); have HOe := Lib.hid (ownsBelow HO.out hlwe)
    have HRe := Lib.hid (show Rd we (some ⟨wa.heap.size, 0, none⟩) (bv k) from fun j x hx => ⟨wa.heap.size, 0, rfl, (HRb.out.below hlwe HRb.out.lt).lt, by rw [Nat.zero_add]; exact (HRb.out.below hlwe HRb.out.lt).cell j (by unfold Cv.bytesV; rw [List.getElem?_toArray]; exact hx)⟩)
    have HBe := Lib.hid (show wc.heap.size ≤ we.heap.size from Nat.le_trans hb.size (Below.size hlwe))
    refine appN_op _ _ 50 rfl Tryd.underlying50 infoK rfl (by decide) (by decide) HOe.out rfl rfl (show (bv k).length = 1 * 32 by rw [bv_length, HK.out]) HRe.out (bv_cells k) (by have := HKK.out; have := HM.out; omega) HBe.out ?_
    intro v9 wf hv9 hg9
    have HV9 := Lib.hid hv9
    have HLO9 := Lib.hid (show ∀ j, v6.ownBlock = some j → Z.heap.size ≤ j from fun j hj => Nat.le_trans HZA.out (World.ownsRow.lt HOe.out j hj).1)
    have HZwf := Lib.hid (HZwe.out.grown hg9 HZwe.out.size HLO9.out)
    refine hK.out _ _ (Only.grown hswe hg9 (fun j hj => .inr (HLO9.out j hj))) ?_
    clear hK hv9 hg9
    (try simp only [Act.put, List.setIfInBounds_toArray, List.set_cons_zero, List.set_cons_succ])
    refine RL.stepK (i := 10) rfl (by kernel_rfl) (by rfl) (fun wg hlwg hswg K hK => ?_)
    have HZwg := Lib.hid (HZwf.out.trans (Below.mono hlwg HZwf.out.size))
    obtain ⟨_, _, _, ⟨f, hf, hfx⟩, _⟩ := HSZ.out.below HZwg.out
    refine mapUpdate_op _ _ _ 55 rfl 9 50 keyed_str Tryd.underlying55 bo N _ f rfl hf (by have := HNN.out; unfold maxLen; omega) (.string t) v9 _ rfl rfl (key_str Tryd.underlying9 t (by have := HT0.out; unfold maxLen; omega)) ?_
    intro Y hY hgY
    have HKY := Lib.hid (show KS wg v9 (keysOf L t.data.toList ++ [k]) from KS.own (by have h9 := ownsBelow HV9.out hlwg; rw [hKL, cells_append, cells_one, List.length_append]; exact h9) (fun x hx => by rcases List.mem_append.1 hx with h | h; exact HKL32.out x (by rw [← hKL]; exact h); rw [List.mem_singleton.1 h]; exact HK.out))
    obtain ⟨f2, hf2, hfx2⟩ := of_next hf hfx hY hgY HKY.out
    have HF2 := Lib.hid hf2; have HFX2 := Lib.hid hfx2
    have HGY := Lib.hid hgY
    refine hK.out _ _ (Only.grown hswg hgY (fun j hj => .inl (by cases hj; rfl))) ?_
    clear hK hf hfx hY hgY hf2 hfx2
    (try simp only [Act.put, List.setIfInBounds_toArray, List.set_cons_zero, List.set_cons_succ])
    refine RL.done (by kernel_rfl) (fun wh hlwh hswh => ?_)
    have HUP := Lib.hid (show Sp.Upd Z wh [bo] from hswh)
    have HFH := Lib.hid (HF2.out.below hlwh HF2.out.lt); have HXH := Lib.hid (HFX2.out.below hlwh)
    clear hlwh hswh
    go_upto_region 12 with fail
    have HST2 := Lib.hid ((show Only Z bo wh from HUP.out).blk HSZ.out.1 HNE.out)
    have HXK2 := Lib.hid ((show Only Z bo wh from HUP.out).blk HXZ.out (by have := HBO.out; omega))
    obtain ⟨_, hne2, hgood, _, ⟨g, s, hg, hgx⟩⟩ := HSZ.out
    have HNE2 := Lib.hid hne2
    have HGOOD := Lib.hid hgood
    have HG2 := Lib.hid (hg.keep (HUP.out.block bw hg.lt (by simpa using fun e => hne2 e.symm)))
    have HGX := Lib.hid hgx
    clear hne2 hgood hg hgx
    refine RL.start (Only wh bw) (by kernel_rfl) ((Only.refl wh bw).drew) ?_
    refine' RL.takeV (i := 0) (v := _) rfl (by kernel_rfl) (by kernel_rfl) (by kernel_rfl) (fun _ _ _ h => h) (by rfl) ?hk47 ?_
    case hk47 => (intro W hSW; go_simp; try with_reducible rfl)
    (try simp only [Act.put, List.setIfInBounds_toArray, List.set_cons_zero, List.set_cons_succ])
    refine' RL.takeV (i := 1) (v := _) rfl (by kernel_rfl) (by kernel_rfl) (by kernel_rfl) (fun _ _ _ h => h) (by rfl) ?hk48 ?_
    case hk48 => (intro W hSW; go_simp; try with_reducible rfl)
    (try simp only [Act.put, List.setIfInBounds_toArray, List.set_cons_zero, List.set_cons_succ])
    refine' RL.takeV (i := 2) (v := _) rfl (by kernel_rfl) (by kernel_rfl) (by kernel_rfl) (fun _ _ _ h => h) (by rfl) ?hk49 ?_
    case hk49 => (intro W hSW; go_simp; try with_reducible rfl)
    (try simp only [Act.put, List.setIfInBounds_toArray, List.set_cons_zero, List.set_cons_succ])
    refine' RL.takeV (i := 3) (v := _) rfl (by kernel_rfl) (by kernel_rfl) (by kernel_rfl) (fun _ _ _ h => h) (by rfl) ?hk50 ?_
    case hk50 => (intro W hSW; have c3 := (hSW.blk HST2.out HNW.out).cell 3 (v := .map (some bw)) rfl; go_simp; try with_reducible rfl)
    (try simp only [Act.put, List.setIfInBounds_toArray, List.set_cons_zero, List.set_cons_succ])
    refine RL.takeV (i := 4) (v := .agg (Cv.bytesV k)) rfl (by kernel_rfl) (by kernel_rfl) (by kernel_rfl) (fun _ _ _ h => h) (by rfl) (fun W hSW => RT.run_row 34 _ rfl _ rfl _ _ (hSW.blk HXK2.out (by have := HBW.out; omega)) Tryd.underlying34 rfl (by rw [HV.out]; kernel_rfl)) ?_
    (try simp only [Act.put, List.setIfInBounds_toArray, List.set_cons_zero, List.set_cons_succ])
    refine' RL.takeV (i := 5) (v := _) rfl (by kernel_rfl) (by kernel_rfl) (by kernel_rfl) (fun _ _ _ h => h) (by rfl) ?hk51 ?_
    case hk51 => (intro W hSW; go_simp; try with_reducible rfl)
    (try simp only [Act.put, List.setIfInBounds_toArray, List.set_cons_zero, List.set_cons_succ])
    refine' RL.takeV (i := 6) (v := _) rfl (by kernel_rfl) (by kernel_rfl) (by kernel_rfl) (fun _ _ _ h => h) (by rfl) ?hk52 ?_
    case hk52 => (intro W hSW; go_simp; try with_reducible rfl)
    (try simp only [Act.put, List.setIfInBounds_toArray, List.set_cons_zero, List.set_cons_succ])
    refine RL.stepK (i := 7) rfl (by kernel_rfl) (by rfl) (fun wk hlwk hswk K hK => ?_)
    have HWK := Lib.hid (show Below wh.heap.size wh wk from (Below.drew (Below.refl _ _)).trans hlwk)
    refine mapUpdate_op _ _ _ 56 rfl 34 62 keyed_key Tryd.underlying56 bw N s g rfl (HG2.out.below HWK.out HG2.out.lt) (by have := HNN.out; unfold maxLen; omega) (.agg (Cv.bytesV k)) (.agg #[.string t]) _ rfl rfl (key32 k HK.out) ?_
    intro Y2 hY2 hgY2
    have HY2 := Lib.hid hY2; have HGY2 := Lib.hid hgY2
    refine hK.out _ _ (Only.grown hswk hgY2 (fun j hj => .inl (by cases hj; rfl))) ?_
    clear hK hY2 hgY2
    (try simp only [Act.put, List.setIfInBounds_toArray, List.set_cons_zero, List.set_cons_succ])
    refine RL.done (by kernel_rfl) (fun wl hlwl hswl => ?_)
    have HWL := Lib.hid (show Below Y2.heap.size Y2 wl from hlwl)
    have HU2 := Lib.hid (show Only wh bw wl from hswl)
    clear hlwl hswl
    go_wp2
    go_ret
    have hZw : Sp.Upd w Z [] := Sp.Upd.of_below HZB.out
    have hmap : ∃ es clock, wk.heap[bw]? = some (.map es clock) := isMap (HG2.out.below HWK.out HG2.out.lt)
    refine ⟨rfl, ⟨HU2.out.blk HST2.out HNW.out, HNE2.out, HGOOD.out.snoc HK.out HVV.out HW.out, ⟨f2, ?_, ?_⟩, ⟨_, _, (HY2.out.below HWL.out HY2.out.lt), fun x => ?_⟩⟩, ?_⟩
    · exact HFH.out.keep (HU2.out.block bo HFH.out.lt (by simpa using HNE2.out))
    · exact ((HXH.out.below HWK.out).map HGY2.out hmap).below HWL.out
    · rw [whoOf_snoc L t.data.toList k x HW.out]
      by_cases hx : x = k
      · subst hx
        rw [if_pos rfl, upd_same]
        rfl
      · rw [if_neg hx, upd_other g _ (fun e => hx (by injection e))]
        exact HGX.out x
    · exact Sp.Upd.trans (Sp.Upd.trans (Sp.Upd.trans (Sp.Upd.refl w [bo, bw]) hZw (by simp)) HUP.out (fun x hx => .inl (by simp at hx; simp [hx]))) HU2.out (fun x hx => .inl (by simp at hx; simp [hx]))
set_option maxRecDepth 20000 in
set_option maxHeartbeats 8000000 in
theorem Add_name (w : World) (sb bo bw T M N : Nat) (L : List Pr) (h : IsSt w sb bo bw T M N L) (t : ByteArray) (ht : t.size ≤ 1000) (k : List UInt8) (hk : k.length = 32) (a : Nat → Addr) (hE : Ei.ErrsAll w a) (hv : validB t.data.toList = false) (wo : Option (List UInt8)) (hw : whoOf L k = wo) :
    Calls Tryd.prog 18 #[.pointer (some ⟨sb, 0, none⟩), .string t, .agg (Cv.bytesV k)] w fun e w' => e = .returned (.iface 119 (.pointer (some (a 17)))) ∧ Below w.heap.size w w' := by
  cases wo with
  | none =>
    have HS := Lib.hid h
    have HK := Lib.hid hk
    have HV := Lib.hid (show (Cv.bytesV k).size = 32 by rw [Cv.bytesV_size, hk])
    have HW := Lib.hid hw
    obtain ⟨A, c, hks, hlo⟩ := look_of h t (by unfold maxLen; omega)
    have HKS := Lib.hid hks
    have HLO := Lib.hid hlo
    have HVA := Lib.hid (show ∀ W : World, Calls Tryd.prog 8 #[.string t] W fun e w' => e = .returned (.bool false) ∧ W = w' from fun W => by have := Valid_any W t (by omega); rw [hv] at this; exact this)
    have HE := Lib.hid (fun W (hW : Below w.heap.size w W) => show W.cell? ⟨16, 0, none⟩ = some (.iface 119 (.pointer (some (a 17)))) from (hE.below hW).cell 16 (by decide))
    have HLO2 := Lib.hid hlo
    clear HLO
    clear h hk hw hv ht hks hlo hE
    generalize hKL : keysOf L t.data.toList = kl at *
    generalize hnn : kl.length = nn at *
    go_enter Tryd.func18, Tryd.ntmps18
    go_upto_region 1 with (refine Rg.box_fresh rfl 34 _ rfl (Cv.bytesV k) rfl ?_; intro X hX hbX hnX; have HX := Lib.hid hX; have HBX := Lib.hid hbX; clear hX hbX hnX)
    have HSX := Lib.hid (HS.out.below HBX.out)
    refine RL.start (RL.Aft X) (by kernel_rfl) (RL.Aft.drew (RL.Aft.refl X)) ?_
    refine' RL.takeV (i := 0) (v := _) rfl (by kernel_rfl) (by kernel_rfl) (by kernel_rfl) (fun _ _ _ h => h) (by rfl) ?hk53 ?_
    case hk53 => (intro W hSW; go_simp; try with_reducible rfl)
    (try simp only [Act.put, List.setIfInBounds_toArray, List.set_cons_zero, List.set_cons_succ])
    refine' RL.takeV (i := 1) (v := _) rfl (by kernel_rfl) (by kernel_rfl) (by kernel_rfl) (fun _ _ _ h => h) (by rfl) ?hk54 ?_
    case hk54 => (intro W hSW; go_simp; try with_reducible rfl)
    (try simp only [Act.put, List.setIfInBounds_toArray, List.set_cons_zero, List.set_cons_succ])
    refine' RL.takeV (i := 2) (v := _) rfl (by kernel_rfl) (by kernel_rfl) (by kernel_rfl) (fun _ _ _ h => h) (by rfl) ?hk55 ?_
    case hk55 => (intro W hSW; go_simp; try with_reducible rfl)
    (try simp only [Act.put, List.setIfInBounds_toArray, List.set_cons_zero, List.set_cons_succ])
    refine' RL.takeV (i := 3) (v := _) rfl (by kernel_rfl) (by kernel_rfl) (by kernel_rfl) (fun _ _ _ h => h) (by rfl) ?hk56 ?_
    case hk56 => (intro W hSW; have c3 := (HSX.out.below hSW).1.cell 3 (v := .map (some bw)) rfl; go_simp; try with_reducible rfl)
    (try simp only [Act.put, List.setIfInBounds_toArray, List.set_cons_zero, List.set_cons_succ])
    refine RL.takeV (i := 4) (v := .agg (Cv.bytesV k)) rfl (by kernel_rfl) (by kernel_rfl) (by kernel_rfl) (fun _ _ _ h => h) (by rfl) (fun W hSW => RT.run_row 34 _ rfl _ rfl _ _ (HX.out.below hSW HX.out.lt) Tryd.underlying34 rfl (by rw [HV.out]; kernel_rfl)) ?_
    (try simp only [Act.put, List.setIfInBounds_toArray, List.set_cons_zero, List.set_cons_succ])
    refine' RL.takeV (i := 5) (v := .tuple #[.agg #[.string ⟨#[]⟩], .bool false]) rfl (by kernel_rfl) (by kernel_rfl) (by kernel_rfl) (fun _ _ _ h => h) (by rfl) ?hk5 ?_
    case hk5 => (intro W hSW; have hl := look_who (HSX.out.below hSW) k HK.out; rw [HW.out] at hl; simp only [Option.map_some, Option.map_none, Option.getD_some, Option.getD_none, Option.isSome_some, Option.isSome_none] at hl; go_simp; try with_reducible rfl)
    (try simp only [Act.put, List.setIfInBounds_toArray, List.set_cons_zero, List.set_cons_succ])
    refine' RL.takeV (i := 6) (v := _) rfl (by kernel_rfl) (by kernel_rfl) (by kernel_rfl) (fun _ _ _ h => h) (by rfl) ?hk57 ?_
    case hk57 => (intro W hSW; go_simp; try with_reducible rfl)
    (try simp only [Act.put, List.setIfInBounds_toArray, List.set_cons_zero, List.set_cons_succ])
    refine' RL.takeV (i := 7) (v := _) rfl (by kernel_rfl) (by kernel_rfl) (by kernel_rfl) (fun _ _ _ h => h) (by rfl) ?hk58 ?_
    case hk58 => (intro W hSW; go_simp; try with_reducible rfl)
    (try simp only [Act.put, List.setIfInBounds_toArray, List.set_cons_zero, List.set_cons_succ])
    refine' RL.takeV (i := 8) (v := _) rfl (by kernel_rfl) (by kernel_rfl) (by kernel_rfl) (fun _ _ _ h => h) (by rfl) ?hk59 ?_
    case hk59 => (intro W hSW; go_simp; try with_reducible rfl)
    (try simp only [Act.put, List.setIfInBounds_toArray, List.set_cons_zero, List.set_cons_succ])
    refine RL.stepK (i := 9) rfl (by kernel_rfl) (by rfl) (fun wa hlwa hswa K hK => ?_)
    go_simp
    have HLA := Lib.hid hswa
    refine hK.out _ _ (RL.Aft.alloc hswa _) ?_
    clear hK
    (try simp only [Act.put, List.setIfInBounds_toArray, List.set_cons_zero, List.set_cons_succ])
    refine RL.stepK (i := 10) rfl (by kernel_rfl) (by rfl) (fun wb hlwb hswb K hK => ?_)
    have hba := (Rg.Blk.new wa #[.string ⟨#[]⟩] 62).below hlwb (by simp)
    refine store_blk_op 62 _ _ rfl wa.heap.size #[.string ⟨#[]⟩] #[.string ⟨#[]⟩] 62 rfl rfl hba (by kernel_rfl) rfl (by simp [Value.oneCell']) ?_
    intro Y hY hgY
    have HY := Lib.hid hY
    have HAY := Lib.hid (show RL.Aft X Y from Below.grown hswb hgY hswb.size (fun k hk => by cases hk; exact HLA.out.size))
    refine hK.out _ _ HAY.out ?_
    clear hK hlwb hswb hba hY hgY hlwa hswa
    (try simp only [Act.put, List.setIfInBounds_toArray, List.set_cons_zero, List.set_cons_succ])
    refine' RL.takeV (i := 11) (v := _) rfl (by kernel_rfl) (by kernel_rfl) (by kernel_rfl) (fun _ _ _ h => h) (by rfl) ?hk60 ?_
    case hk60 => (intro W hSW; go_simp; try with_reducible rfl)
    (try simp only [Act.put, List.setIfInBounds_toArray, List.set_cons_zero, List.set_cons_succ])
    refine RL.done (by kernel_rfl) (fun wd hlwd hswd => ?_)
    have HWD := Lib.hid (show RL.Aft X wd from hswd)
    clear hlwd hswd
    have HBD := Lib.hid (show Below w.heap.size w wd from HBX.out.trans (Below.mono HWD.out HBX.out.size))
    have hst := (HS.out.below HBD.out).1
    have c0 := hst.cell 0 (v := .int .i64 (T : Int)) rfl
    have c1 := hst.cell 1 (v := .int .i64 (M : Int)) rfl
    have c2 := hst.cell 2 (v := .map (some bo)) rfl
    have hl2 := HLO2.out wd HBD.out
    have hee := HE.out wd HBD.out
    clear hst
    go_wp2_with (go_at_call 8; refine (HVA.out _).mono ?_; rintro e w1 ⟨rfl, rfl⟩; skip)
    go_ret
    exact ⟨rfl, HBD.out⟩
  | some t0 =>
    have HS := Lib.hid h
    have HK := Lib.hid hk
    have HV := Lib.hid (show (Cv.bytesV k).size = 32 by rw [Cv.bytesV_size, hk])
    have HW := Lib.hid hw
    obtain ⟨A, c, hks, hlo⟩ := look_of h t (by unfold maxLen; omega)
    have HKS := Lib.hid hks
    have HLO := Lib.hid hlo
    have HVA := Lib.hid (show ∀ W : World, Calls Tryd.prog 8 #[.string t] W fun e w' => e = .returned (.bool false) ∧ W = w' from fun W => by have := Valid_any W t (by omega); rw [hv] at this; exact this)
    have HE := Lib.hid (fun W (hW : Below w.heap.size w W) => show W.cell? ⟨16, 0, none⟩ = some (.iface 119 (.pointer (some (a 17)))) from (hE.below hW).cell 16 (by decide))
    have HLO2 := Lib.hid hlo
    clear HLO
    clear h hk hw hv ht hks hlo hE
    generalize hKL : keysOf L t.data.toList = kl at *
    generalize hnn : kl.length = nn at *
    go_enter Tryd.func18, Tryd.ntmps18
    go_upto_region 1 with (refine Rg.box_fresh rfl 34 _ rfl (Cv.bytesV k) rfl ?_; intro X hX hbX hnX; have HX := Lib.hid hX; have HBX := Lib.hid hbX; clear hX hbX hnX)
    have HSX := Lib.hid (HS.out.below HBX.out)
    refine RL.start (RL.Aft X) (by kernel_rfl) (RL.Aft.drew (RL.Aft.refl X)) ?_
    refine' RL.takeV (i := 0) (v := _) rfl (by kernel_rfl) (by kernel_rfl) (by kernel_rfl) (fun _ _ _ h => h) (by rfl) ?hk61 ?_
    case hk61 => (intro W hSW; go_simp; try with_reducible rfl)
    (try simp only [Act.put, List.setIfInBounds_toArray, List.set_cons_zero, List.set_cons_succ])
    refine' RL.takeV (i := 1) (v := _) rfl (by kernel_rfl) (by kernel_rfl) (by kernel_rfl) (fun _ _ _ h => h) (by rfl) ?hk62 ?_
    case hk62 => (intro W hSW; go_simp; try with_reducible rfl)
    (try simp only [Act.put, List.setIfInBounds_toArray, List.set_cons_zero, List.set_cons_succ])
    refine' RL.takeV (i := 2) (v := _) rfl (by kernel_rfl) (by kernel_rfl) (by kernel_rfl) (fun _ _ _ h => h) (by rfl) ?hk63 ?_
    case hk63 => (intro W hSW; go_simp; try with_reducible rfl)
    (try simp only [Act.put, List.setIfInBounds_toArray, List.set_cons_zero, List.set_cons_succ])
    refine' RL.takeV (i := 3) (v := _) rfl (by kernel_rfl) (by kernel_rfl) (by kernel_rfl) (fun _ _ _ h => h) (by rfl) ?hk64 ?_
    case hk64 => (intro W hSW; have c3 := (HSX.out.below hSW).1.cell 3 (v := .map (some bw)) rfl; go_simp; try with_reducible rfl)
    (try simp only [Act.put, List.setIfInBounds_toArray, List.set_cons_zero, List.set_cons_succ])
    refine RL.takeV (i := 4) (v := .agg (Cv.bytesV k)) rfl (by kernel_rfl) (by kernel_rfl) (by kernel_rfl) (fun _ _ _ h => h) (by rfl) (fun W hSW => RT.run_row 34 _ rfl _ rfl _ _ (HX.out.below hSW HX.out.lt) Tryd.underlying34 rfl (by rw [HV.out]; kernel_rfl)) ?_
    (try simp only [Act.put, List.setIfInBounds_toArray, List.set_cons_zero, List.set_cons_succ])
    refine' RL.takeV (i := 5) (v := .tuple #[.agg #[.string (strB t0)], .bool true]) rfl (by kernel_rfl) (by kernel_rfl) (by kernel_rfl) (fun _ _ _ h => h) (by rfl) ?hk5 ?_
    case hk5 => (intro W hSW; have hl := look_who (HSX.out.below hSW) k HK.out; rw [HW.out] at hl; simp only [Option.map_some, Option.map_none, Option.getD_some, Option.getD_none, Option.isSome_some, Option.isSome_none] at hl; go_simp; try with_reducible rfl)
    (try simp only [Act.put, List.setIfInBounds_toArray, List.set_cons_zero, List.set_cons_succ])
    refine' RL.takeV (i := 6) (v := _) rfl (by kernel_rfl) (by kernel_rfl) (by kernel_rfl) (fun _ _ _ h => h) (by rfl) ?hk65 ?_
    case hk65 => (intro W hSW; go_simp; try with_reducible rfl)
    (try simp only [Act.put, List.setIfInBounds_toArray, List.set_cons_zero, List.set_cons_succ])
    refine' RL.takeV (i := 7) (v := _) rfl (by kernel_rfl) (by kernel_rfl) (by kernel_rfl) (fun _ _ _ h => h) (by rfl) ?hk66 ?_
    case hk66 => (intro W hSW; go_simp; try with_reducible rfl)
    (try simp only [Act.put, List.setIfInBounds_toArray, List.set_cons_zero, List.set_cons_succ])
    refine' RL.takeV (i := 8) (v := _) rfl (by kernel_rfl) (by kernel_rfl) (by kernel_rfl) (fun _ _ _ h => h) (by rfl) ?hk67 ?_
    case hk67 => (intro W hSW; go_simp; try with_reducible rfl)
    (try simp only [Act.put, List.setIfInBounds_toArray, List.set_cons_zero, List.set_cons_succ])
    refine RL.stepK (i := 9) rfl (by kernel_rfl) (by rfl) (fun wa hlwa hswa K hK => ?_)
    go_simp
    have HLA := Lib.hid hswa
    refine hK.out _ _ (RL.Aft.alloc hswa _) ?_
    clear hK
    (try simp only [Act.put, List.setIfInBounds_toArray, List.set_cons_zero, List.set_cons_succ])
    refine RL.stepK (i := 10) rfl (by kernel_rfl) (by rfl) (fun wb hlwb hswb K hK => ?_)
    have hba := (Rg.Blk.new wa #[.string ⟨#[]⟩] 62).below hlwb (by simp)
    refine store_blk_op 62 _ _ rfl wa.heap.size #[.string (strB t0)] #[.string ⟨#[]⟩] 62 rfl rfl hba (by kernel_rfl) rfl (by simp [Value.oneCell']) ?_
    intro Y hY hgY
    have HY := Lib.hid hY
    have HAY := Lib.hid (show RL.Aft X Y from Below.grown hswb hgY hswb.size (fun k hk => by cases hk; exact HLA.out.size))
    refine hK.out _ _ HAY.out ?_
    clear hK hlwb hswb hba hY hgY hlwa hswa
    (try simp only [Act.put, List.setIfInBounds_toArray, List.set_cons_zero, List.set_cons_succ])
    refine' RL.takeV (i := 11) (v := _) rfl (by kernel_rfl) (by kernel_rfl) (by kernel_rfl) (fun _ _ _ h => h) (by rfl) ?hk68 ?_
    case hk68 => (intro W hSW; go_simp; try with_reducible rfl)
    (try simp only [Act.put, List.setIfInBounds_toArray, List.set_cons_zero, List.set_cons_succ])
    refine RL.done (by kernel_rfl) (fun wd hlwd hswd => ?_)
    have HWD := Lib.hid (show RL.Aft X wd from hswd)
    clear hlwd hswd
    have HBD := Lib.hid (show Below w.heap.size w wd from HBX.out.trans (Below.mono HWD.out HBX.out.size))
    have hst := (HS.out.below HBD.out).1
    have c0 := hst.cell 0 (v := .int .i64 (T : Int)) rfl
    have c1 := hst.cell 1 (v := .int .i64 (M : Int)) rfl
    have c2 := hst.cell 2 (v := .map (some bo)) rfl
    have hl2 := HLO2.out wd HBD.out
    have hee := HE.out wd HBD.out
    clear hst
    go_wp2_with (go_at_call 8; refine (HVA.out _).mono ?_; rintro e w1 ⟨rfl, rfl⟩; skip)
    go_ret
    exact ⟨rfl, HBD.out⟩
set_option maxRecDepth 20000 in
set_option maxHeartbeats 8000000 in
theorem Add_have (w : World) (sb bo bw T M N : Nat) (L : List Pr) (h : IsSt w sb bo bw T M N L) (t : ByteArray) (ht : t.size ≤ 1000) (k : List UInt8) (hk : k.length = 32) (a : Nat → Addr) (hE : Ei.ErrsAll w a) (hv : validB t.data.toList = true) (t0 : List UInt8) (hw : whoOf L k = some t0) :
    Calls Tryd.prog 18 #[.pointer (some ⟨sb, 0, none⟩), .string t, .agg (Cv.bytesV k)] w fun e w' => e = .returned (.iface 119 (.pointer (some (a 9)))) ∧ Below w.heap.size w w' := by
  have HS := Lib.hid h
  have HK := Lib.hid hk
  have HV := Lib.hid (show (Cv.bytesV k).size = 32 by rw [Cv.bytesV_size, hk])
  have HW := Lib.hid hw
  obtain ⟨A, c, hks, hlo⟩ := look_of h t (by unfold maxLen; omega)
  have HKS := Lib.hid hks
  have HLO := Lib.hid hlo
  have HVA := Lib.hid (show ∀ W : World, Calls Tryd.prog 8 #[.string t] W fun e w' => e = .returned (.bool true) ∧ W = w' from fun W => by have := Valid_any W t (by omega); rw [hv] at this; exact this)
  have HE := Lib.hid (fun W (hW : Below w.heap.size w W) => show W.cell? ⟨8, 0, none⟩ = some (.iface 119 (.pointer (some (a 9)))) from (hE.below hW).cell 8 (by decide))
  have HLO2 := Lib.hid hlo
  clear HLO
  clear h hk hw hv ht hks hlo hE
  generalize hKL : keysOf L t.data.toList = kl at *
  generalize hnn : kl.length = nn at *
  go_enter Tryd.func18, Tryd.ntmps18
  go_upto_region 1 with (refine Rg.box_fresh rfl 34 _ rfl (Cv.bytesV k) rfl ?_; intro X hX hbX hnX; have HX := Lib.hid hX; have HBX := Lib.hid hbX; clear hX hbX hnX)
  have HSX := Lib.hid (HS.out.below HBX.out)
  refine RL.start (RL.Aft X) (by kernel_rfl) (RL.Aft.drew (RL.Aft.refl X)) ?_
  refine' RL.takeV (i := 0) (v := _) rfl (by kernel_rfl) (by kernel_rfl) (by kernel_rfl) (fun _ _ _ h => h) (by rfl) ?hk69 ?_
  case hk69 => (intro W hSW; go_simp; try with_reducible rfl)
  (try simp only [Act.put, List.setIfInBounds_toArray, List.set_cons_zero, List.set_cons_succ])
  refine' RL.takeV (i := 1) (v := _) rfl (by kernel_rfl) (by kernel_rfl) (by kernel_rfl) (fun _ _ _ h => h) (by rfl) ?hk70 ?_
  case hk70 => (intro W hSW; go_simp; try with_reducible rfl)
  (try simp only [Act.put, List.setIfInBounds_toArray, List.set_cons_zero, List.set_cons_succ])
  refine' RL.takeV (i := 2) (v := _) rfl (by kernel_rfl) (by kernel_rfl) (by kernel_rfl) (fun _ _ _ h => h) (by rfl) ?hk71 ?_
  case hk71 => (intro W hSW; go_simp; try with_reducible rfl)
  (try simp only [Act.put, List.setIfInBounds_toArray, List.set_cons_zero, List.set_cons_succ])
  refine' RL.takeV (i := 3) (v := _) rfl (by kernel_rfl) (by kernel_rfl) (by kernel_rfl) (fun _ _ _ h => h) (by rfl) ?hk72 ?_
  case hk72 => (intro W hSW; have c3 := (HSX.out.below hSW).1.cell 3 (v := .map (some bw)) rfl; go_simp; try with_reducible rfl)
  (try simp only [Act.put, List.setIfInBounds_toArray, List.set_cons_zero, List.set_cons_succ])
  refine RL.takeV (i := 4) (v := .agg (Cv.bytesV k)) rfl (by kernel_rfl) (by kernel_rfl) (by kernel_rfl) (fun _ _ _ h => h) (by rfl) (fun W hSW => RT.run_row 34 _ rfl _ rfl _ _ (HX.out.below hSW HX.out.lt) Tryd.underlying34 rfl (by rw [HV.out]; kernel_rfl)) ?_
  (try simp only [Act.put, List.setIfInBounds_toArray, List.set_cons_zero, List.set_cons_succ])
  refine' RL.takeV (i := 5) (v := .tuple #[.agg #[.string (strB t0)], .bool true]) rfl (by kernel_rfl) (by kernel_rfl) (by kernel_rfl) (fun _ _ _ h => h) (by rfl) ?hk5 ?_
  case hk5 => (intro W hSW; have hl := look_who (HSX.out.below hSW) k HK.out; rw [HW.out] at hl; simp only [Option.map_some, Option.map_none, Option.getD_some, Option.getD_none, Option.isSome_some, Option.isSome_none] at hl; go_simp; try with_reducible rfl)
  (try simp only [Act.put, List.setIfInBounds_toArray, List.set_cons_zero, List.set_cons_succ])
  refine' RL.takeV (i := 6) (v := _) rfl (by kernel_rfl) (by kernel_rfl) (by kernel_rfl) (fun _ _ _ h => h) (by rfl) ?hk73 ?_
  case hk73 => (intro W hSW; go_simp; try with_reducible rfl)
  (try simp only [Act.put, List.setIfInBounds_toArray, List.set_cons_zero, List.set_cons_succ])
  refine' RL.takeV (i := 7) (v := _) rfl (by kernel_rfl) (by kernel_rfl) (by kernel_rfl) (fun _ _ _ h => h) (by rfl) ?hk74 ?_
  case hk74 => (intro W hSW; go_simp; try with_reducible rfl)
  (try simp only [Act.put, List.setIfInBounds_toArray, List.set_cons_zero, List.set_cons_succ])
  refine' RL.takeV (i := 8) (v := _) rfl (by kernel_rfl) (by kernel_rfl) (by kernel_rfl) (fun _ _ _ h => h) (by rfl) ?hk75 ?_
  case hk75 => (intro W hSW; go_simp; try with_reducible rfl)
  (try simp only [Act.put, List.setIfInBounds_toArray, List.set_cons_zero, List.set_cons_succ])
  refine RL.stepK (i := 9) rfl (by kernel_rfl) (by rfl) (fun wa hlwa hswa K hK => ?_)
  go_simp
  have HLA := Lib.hid hswa
  refine hK.out _ _ (RL.Aft.alloc hswa _) ?_
  clear hK
  (try simp only [Act.put, List.setIfInBounds_toArray, List.set_cons_zero, List.set_cons_succ])
  refine RL.stepK (i := 10) rfl (by kernel_rfl) (by rfl) (fun wb hlwb hswb K hK => ?_)
  have hba := (Rg.Blk.new wa #[.string ⟨#[]⟩] 62).below hlwb (by simp)
  refine store_blk_op 62 _ _ rfl wa.heap.size #[.string (strB t0)] #[.string ⟨#[]⟩] 62 rfl rfl hba (by kernel_rfl) rfl (by simp [Value.oneCell']) ?_
  intro Y hY hgY
  have HY := Lib.hid hY
  have HAY := Lib.hid (show RL.Aft X Y from Below.grown hswb hgY hswb.size (fun k hk => by cases hk; exact HLA.out.size))
  refine hK.out _ _ HAY.out ?_
  clear hK hlwb hswb hba hY hgY hlwa hswa
  (try simp only [Act.put, List.setIfInBounds_toArray, List.set_cons_zero, List.set_cons_succ])
  refine' RL.takeV (i := 11) (v := _) rfl (by kernel_rfl) (by kernel_rfl) (by kernel_rfl) (fun _ _ _ h => h) (by rfl) ?hk76 ?_
  case hk76 => (intro W hSW; go_simp; try with_reducible rfl)
  (try simp only [Act.put, List.setIfInBounds_toArray, List.set_cons_zero, List.set_cons_succ])
  refine RL.done (by kernel_rfl) (fun wd hlwd hswd => ?_)
  have HWD := Lib.hid (show RL.Aft X wd from hswd)
  clear hlwd hswd
  have HBD := Lib.hid (show Below w.heap.size w wd from HBX.out.trans (Below.mono HWD.out HBX.out.size))
  have hst := (HS.out.below HBD.out).1
  have c0 := hst.cell 0 (v := .int .i64 (T : Int)) rfl
  have c1 := hst.cell 1 (v := .int .i64 (M : Int)) rfl
  have c2 := hst.cell 2 (v := .map (some bo)) rfl
  have hl2 := HLO2.out wd HBD.out
  have hee := HE.out wd HBD.out
  clear hst
  go_wp2_with (go_at_call 8; refine (HVA.out _).mono ?_; rintro e w1 ⟨rfl, rfl⟩; skip)
  go_ret
  exact ⟨rfl, HBD.out⟩
set_option maxRecDepth 20000 in
set_option maxHeartbeats 8000000 in
theorem Add_full (w : World) (sb bo bw T M N : Nat) (L : List Pr) (h : IsSt w sb bo bw T M N L) (t : ByteArray) (ht : t.size ≤ 1000) (k : List UInt8) (hk : k.length = 32) (a : Nat → Addr) (hE : Ei.ErrsAll w a) (hv : validB t.data.toList = true) (hw : whoOf L k = none) (hb : (keysOf L t.data.toList).isEmpty = true) (hT : T ≤ (tens L).length) :
    Calls Tryd.prog 18 #[.pointer (some ⟨sb, 0, none⟩), .string t, .agg (Cv.bytesV k)] w fun e w' => e = .returned (.iface 119 (.pointer (some (a 7)))) ∧ Below w.heap.size w w' := by
  have HS := Lib.hid h
  have HK := Lib.hid hk
  have HV := Lib.hid (show (Cv.bytesV k).size = 32 by rw [Cv.bytesV_size, hk])
  have HW := Lib.hid hw
  obtain ⟨A, c, hks, hlo⟩ := look_of h t (by unfold maxLen; omega)
  have HKS := Lib.hid hks
  have HLO := Lib.hid hlo
  have HVA := Lib.hid (show ∀ W : World, Calls Tryd.prog 8 #[.string t] W fun e w' => e = .returned (.bool true) ∧ W = w' from fun W => by have := Valid_any W t (by omega); rw [hv] at this; exact this)
  have HE := Lib.hid (fun W (hW : Below w.heap.size w W) => show W.cell? ⟨7, 0, none⟩ = some (.iface 119 (.pointer (some (a 7)))) from (hE.below hW).cell 6 (by decide))
  have hlo2 : ∀ W, Below w.heap.size w W → (Instr.lookup 55 (.map (some bo)) (.string t) true).run Tryd.prog W = .ok (.tuple #[.slice A (keysOf L t.data.toList).length c, .bool false]) W := fun W hW => by
    rw [hlo W hW, hb]; rfl
  have HLO2 := Lib.hid hlo2
  have HLEN := Lib.hid (show ∀ W, Below w.heap.size w W → ∀ ty, (Builtin.len_ #[55] ty #[.map (some bo)]).run Tryd.prog W = .ok (.int .i64 ((tens L).length : Nat)) W from fun W hW ty => by
    obtain ⟨_, _, _, ⟨f, hf, _⟩, _⟩ := h.below hW
    exact hf.len Tryd.underlying55 ty)
  have HTT := Lib.hid hT
  clear hlo2 HLO hT
  clear h hk hw hv ht hks hlo hE hb
  generalize hKL : keysOf L t.data.toList = kl at *
  generalize hnn : kl.length = nn at *
  go_enter Tryd.func18, Tryd.ntmps18
  go_upto_region 1 with (refine Rg.box_fresh rfl 34 _ rfl (Cv.bytesV k) rfl ?_; intro X hX hbX hnX; have HX := Lib.hid hX; have HBX := Lib.hid hbX; clear hX hbX hnX)
  have HSX := Lib.hid (HS.out.below HBX.out)
  refine RL.start (RL.Aft X) (by kernel_rfl) (RL.Aft.drew (RL.Aft.refl X)) ?_
  refine' RL.takeV (i := 0) (v := _) rfl (by kernel_rfl) (by kernel_rfl) (by kernel_rfl) (fun _ _ _ h => h) (by rfl) ?hk77 ?_
  case hk77 => (intro W hSW; go_simp; try with_reducible rfl)
  (try simp only [Act.put, List.setIfInBounds_toArray, List.set_cons_zero, List.set_cons_succ])
  refine' RL.takeV (i := 1) (v := _) rfl (by kernel_rfl) (by kernel_rfl) (by kernel_rfl) (fun _ _ _ h => h) (by rfl) ?hk78 ?_
  case hk78 => (intro W hSW; go_simp; try with_reducible rfl)
  (try simp only [Act.put, List.setIfInBounds_toArray, List.set_cons_zero, List.set_cons_succ])
  refine' RL.takeV (i := 2) (v := _) rfl (by kernel_rfl) (by kernel_rfl) (by kernel_rfl) (fun _ _ _ h => h) (by rfl) ?hk79 ?_
  case hk79 => (intro W hSW; go_simp; try with_reducible rfl)
  (try simp only [Act.put, List.setIfInBounds_toArray, List.set_cons_zero, List.set_cons_succ])
  refine' RL.takeV (i := 3) (v := _) rfl (by kernel_rfl) (by kernel_rfl) (by kernel_rfl) (fun _ _ _ h => h) (by rfl) ?hk80 ?_
  case hk80 => (intro W hSW; have c3 := (HSX.out.below hSW).1.cell 3 (v := .map (some bw)) rfl; go_simp; try with_reducible rfl)
  (try simp only [Act.put, List.setIfInBounds_toArray, List.set_cons_zero, List.set_cons_succ])
  refine RL.takeV (i := 4) (v := .agg (Cv.bytesV k)) rfl (by kernel_rfl) (by kernel_rfl) (by kernel_rfl) (fun _ _ _ h => h) (by rfl) (fun W hSW => RT.run_row 34 _ rfl _ rfl _ _ (HX.out.below hSW HX.out.lt) Tryd.underlying34 rfl (by rw [HV.out]; kernel_rfl)) ?_
  (try simp only [Act.put, List.setIfInBounds_toArray, List.set_cons_zero, List.set_cons_succ])
  refine' RL.takeV (i := 5) (v := .tuple #[.agg #[.string ⟨#[]⟩], .bool false]) rfl (by kernel_rfl) (by kernel_rfl) (by kernel_rfl) (fun _ _ _ h => h) (by rfl) ?hk5 ?_
  case hk5 => (intro W hSW; have hl := look_who (HSX.out.below hSW) k HK.out; rw [HW.out] at hl; simp only [Option.map_some, Option.map_none, Option.getD_some, Option.getD_none, Option.isSome_some, Option.isSome_none] at hl; go_simp; try with_reducible rfl)
  (try simp only [Act.put, List.setIfInBounds_toArray, List.set_cons_zero, List.set_cons_succ])
  refine' RL.takeV (i := 6) (v := _) rfl (by kernel_rfl) (by kernel_rfl) (by kernel_rfl) (fun _ _ _ h => h) (by rfl) ?hk81 ?_
  case hk81 => (intro W hSW; go_simp; try with_reducible rfl)
  (try simp only [Act.put, List.setIfInBounds_toArray, List.set_cons_zero, List.set_cons_succ])
  refine' RL.takeV (i := 7) (v := _) rfl (by kernel_rfl) (by kernel_rfl) (by kernel_rfl) (fun _ _ _ h => h) (by rfl) ?hk82 ?_
  case hk82 => (intro W hSW; go_simp; try with_reducible rfl)
  (try simp only [Act.put, List.setIfInBounds_toArray, List.set_cons_zero, List.set_cons_succ])
  refine' RL.takeV (i := 8) (v := _) rfl (by kernel_rfl) (by kernel_rfl) (by kernel_rfl) (fun _ _ _ h => h) (by rfl) ?hk83 ?_
  case hk83 => (intro W hSW; go_simp; try with_reducible rfl)
  (try simp only [Act.put, List.setIfInBounds_toArray, List.set_cons_zero, List.set_cons_succ])
  refine RL.stepK (i := 9) rfl (by kernel_rfl) (by rfl) (fun wa hlwa hswa K hK => ?_)
  go_simp
  have HLA := Lib.hid hswa
  refine hK.out _ _ (RL.Aft.alloc hswa _) ?_
  clear hK
  (try simp only [Act.put, List.setIfInBounds_toArray, List.set_cons_zero, List.set_cons_succ])
  refine RL.stepK (i := 10) rfl (by kernel_rfl) (by rfl) (fun wb hlwb hswb K hK => ?_)
  have hba := (Rg.Blk.new wa #[.string ⟨#[]⟩] 62).below hlwb (by simp)
  refine store_blk_op 62 _ _ rfl wa.heap.size #[.string ⟨#[]⟩] #[.string ⟨#[]⟩] 62 rfl rfl hba (by kernel_rfl) rfl (by simp [Value.oneCell']) ?_
  intro Y hY hgY
  have HY := Lib.hid hY
  have HAY := Lib.hid (show RL.Aft X Y from Below.grown hswb hgY hswb.size (fun k hk => by cases hk; exact HLA.out.size))
  refine hK.out _ _ HAY.out ?_
  clear hK hlwb hswb hba hY hgY hlwa hswa
  (try simp only [Act.put, List.setIfInBounds_toArray, List.set_cons_zero, List.set_cons_succ])
  refine' RL.takeV (i := 11) (v := _) rfl (by kernel_rfl) (by kernel_rfl) (by kernel_rfl) (fun _ _ _ h => h) (by rfl) ?hk84 ?_
  case hk84 => (intro W hSW; go_simp; try with_reducible rfl)
  (try simp only [Act.put, List.setIfInBounds_toArray, List.set_cons_zero, List.set_cons_succ])
  refine RL.done (by kernel_rfl) (fun wd hlwd hswd => ?_)
  have HWD := Lib.hid (show RL.Aft X wd from hswd)
  clear hlwd hswd
  have HBD := Lib.hid (show Below w.heap.size w wd from HBX.out.trans (Below.mono HWD.out HBX.out.size))
  have hst := (HS.out.below HBD.out).1
  have c0 := hst.cell 0 (v := .int .i64 (T : Int)) rfl
  have c1 := hst.cell 1 (v := .int .i64 (M : Int)) rfl
  have c2 := hst.cell 2 (v := .map (some bo)) rfl
  have hl2 := HLO2.out wd HBD.out
  have hee := HE.out wd HBD.out
  have hle := HLEN.out wd HBD.out
  have hleN := fun n => HLEN.out (wd.drewN n) (bdN HBD.out n)
  have hd2 : decide (T ≤ (tens L).length) = true := by rw [decide_eq_true_iff]; exact HTT.out
  have hd2b : decide ((T : Int) ≤ ((tens L).length : Int)) = true := by rw [decide_eq_true_iff]; have := HTT.out; omega
  clear hst
  go_upto_region 7 with (go_at_call 8; refine (HVA.out _).mono ?_; rintro e w1 ⟨rfl, rfl⟩; skip)
  go_quiet (fail)
  go_wp2
  go_ret
  exact ⟨rfl, bdN HBD.out _⟩
set_option maxRecDepth 20000 in
set_option maxHeartbeats 8000000 in
theorem Add_quota_t (w : World) (sb bo bw T M N : Nat) (L : List Pr) (h : IsSt w sb bo bw T M N L) (t : ByteArray) (ht : t.size ≤ 1000) (k : List UInt8) (hk : k.length = 32) (a : Nat → Addr) (hE : Ei.ErrsAll w a) (hv : validB t.data.toList = true) (hw : whoOf L k = none) (hb : (keysOf L t.data.toList).isEmpty = false) (hT : True) (hK : M ≤ (keysOf L t.data.toList).length) :
    Calls Tryd.prog 18 #[.pointer (some ⟨sb, 0, none⟩), .string t, .agg (Cv.bytesV k)] w fun e w' => e = .returned (.iface 119 (.pointer (some (a 16)))) ∧ Below w.heap.size w w' := by
  have HS := Lib.hid h
  have HK := Lib.hid hk
  have HV := Lib.hid (show (Cv.bytesV k).size = 32 by rw [Cv.bytesV_size, hk])
  have HW := Lib.hid hw
  obtain ⟨A, c, hks, hlo⟩ := look_of h t (by unfold maxLen; omega)
  have HKS := Lib.hid hks
  have HLO := Lib.hid hlo
  have HVA := Lib.hid (show ∀ W : World, Calls Tryd.prog 8 #[.string t] W fun e w' => e = .returned (.bool true) ∧ W = w' from fun W => by have := Valid_any W t (by omega); rw [hv] at this; exact this)
  have HE := Lib.hid (fun W (hW : Below w.heap.size w W) => show W.cell? ⟨15, 0, none⟩ = some (.iface 119 (.pointer (some (a 16)))) from (hE.below hW).cell 15 (by decide))
  have hlo2 : ∀ W, Below w.heap.size w W → (Instr.lookup 55 (.map (some bo)) (.string t) true).run Tryd.prog W = .ok (.tuple #[.slice A (keysOf L t.data.toList).length c, .bool true]) W := fun W hW => by
    rw [hlo W hW, hb]; rfl
  have HLO2 := Lib.hid hlo2
  have HLEN := Lib.hid (show ∀ W, Below w.heap.size w W → ∀ ty, (Builtin.len_ #[55] ty #[.map (some bo)]).run Tryd.prog W = .ok (.int .i64 ((tens L).length : Nat)) W from fun W hW ty => by
    obtain ⟨_, _, _, ⟨f, hf, _⟩, _⟩ := h.below hW
    exact hf.len Tryd.underlying55 ty)
  have HTT := Lib.hid hT
  have HKK := Lib.hid hK
  clear hlo2 HLO hT hK
  clear h hk hw hv ht hks hlo hE hb
  generalize hKL : keysOf L t.data.toList = kl at *
  generalize hnn : kl.length = nn at *
  go_enter Tryd.func18, Tryd.ntmps18
  go_upto_region 1 with (refine Rg.box_fresh rfl 34 _ rfl (Cv.bytesV k) rfl ?_; intro X hX hbX hnX; have HX := Lib.hid hX; have HBX := Lib.hid hbX; clear hX hbX hnX)
  have HSX := Lib.hid (HS.out.below HBX.out)
  refine RL.start (RL.Aft X) (by kernel_rfl) (RL.Aft.drew (RL.Aft.refl X)) ?_
  refine' RL.takeV (i := 0) (v := _) rfl (by kernel_rfl) (by kernel_rfl) (by kernel_rfl) (fun _ _ _ h => h) (by rfl) ?hk85 ?_
  case hk85 => (intro W hSW; go_simp; try with_reducible rfl)
  (try simp only [Act.put, List.setIfInBounds_toArray, List.set_cons_zero, List.set_cons_succ])
  refine' RL.takeV (i := 1) (v := _) rfl (by kernel_rfl) (by kernel_rfl) (by kernel_rfl) (fun _ _ _ h => h) (by rfl) ?hk86 ?_
  case hk86 => (intro W hSW; go_simp; try with_reducible rfl)
  (try simp only [Act.put, List.setIfInBounds_toArray, List.set_cons_zero, List.set_cons_succ])
  refine' RL.takeV (i := 2) (v := _) rfl (by kernel_rfl) (by kernel_rfl) (by kernel_rfl) (fun _ _ _ h => h) (by rfl) ?hk87 ?_
  case hk87 => (intro W hSW; go_simp; try with_reducible rfl)
  (try simp only [Act.put, List.setIfInBounds_toArray, List.set_cons_zero, List.set_cons_succ])
  refine' RL.takeV (i := 3) (v := _) rfl (by kernel_rfl) (by kernel_rfl) (by kernel_rfl) (fun _ _ _ h => h) (by rfl) ?hk88 ?_
  case hk88 => (intro W hSW; have c3 := (HSX.out.below hSW).1.cell 3 (v := .map (some bw)) rfl; go_simp; try with_reducible rfl)
  (try simp only [Act.put, List.setIfInBounds_toArray, List.set_cons_zero, List.set_cons_succ])
  refine RL.takeV (i := 4) (v := .agg (Cv.bytesV k)) rfl (by kernel_rfl) (by kernel_rfl) (by kernel_rfl) (fun _ _ _ h => h) (by rfl) (fun W hSW => RT.run_row 34 _ rfl _ rfl _ _ (HX.out.below hSW HX.out.lt) Tryd.underlying34 rfl (by rw [HV.out]; kernel_rfl)) ?_
  (try simp only [Act.put, List.setIfInBounds_toArray, List.set_cons_zero, List.set_cons_succ])
  refine' RL.takeV (i := 5) (v := .tuple #[.agg #[.string ⟨#[]⟩], .bool false]) rfl (by kernel_rfl) (by kernel_rfl) (by kernel_rfl) (fun _ _ _ h => h) (by rfl) ?hk5 ?_
  case hk5 => (intro W hSW; have hl := look_who (HSX.out.below hSW) k HK.out; rw [HW.out] at hl; simp only [Option.map_some, Option.map_none, Option.getD_some, Option.getD_none, Option.isSome_some, Option.isSome_none] at hl; go_simp; try with_reducible rfl)
  (try simp only [Act.put, List.setIfInBounds_toArray, List.set_cons_zero, List.set_cons_succ])
  refine' RL.takeV (i := 6) (v := _) rfl (by kernel_rfl) (by kernel_rfl) (by kernel_rfl) (fun _ _ _ h => h) (by rfl) ?hk89 ?_
  case hk89 => (intro W hSW; go_simp; try with_reducible rfl)
  (try simp only [Act.put, List.setIfInBounds_toArray, List.set_cons_zero, List.set_cons_succ])
  refine' RL.takeV (i := 7) (v := _) rfl (by kernel_rfl) (by kernel_rfl) (by kernel_rfl) (fun _ _ _ h => h) (by rfl) ?hk90 ?_
  case hk90 => (intro W hSW; go_simp; try with_reducible rfl)
  (try simp only [Act.put, List.setIfInBounds_toArray, List.set_cons_zero, List.set_cons_succ])
  refine' RL.takeV (i := 8) (v := _) rfl (by kernel_rfl) (by kernel_rfl) (by kernel_rfl) (fun _ _ _ h => h) (by rfl) ?hk91 ?_
  case hk91 => (intro W hSW; go_simp; try with_reducible rfl)
  (try simp only [Act.put, List.setIfInBounds_toArray, List.set_cons_zero, List.set_cons_succ])
  refine RL.stepK (i := 9) rfl (by kernel_rfl) (by rfl) (fun wa hlwa hswa K hK => ?_)
  go_simp
  have HLA := Lib.hid hswa
  refine hK.out _ _ (RL.Aft.alloc hswa _) ?_
  clear hK
  (try simp only [Act.put, List.setIfInBounds_toArray, List.set_cons_zero, List.set_cons_succ])
  refine RL.stepK (i := 10) rfl (by kernel_rfl) (by rfl) (fun wb hlwb hswb K hK => ?_)
  have hba := (Rg.Blk.new wa #[.string ⟨#[]⟩] 62).below hlwb (by simp)
  refine store_blk_op 62 _ _ rfl wa.heap.size #[.string ⟨#[]⟩] #[.string ⟨#[]⟩] 62 rfl rfl hba (by kernel_rfl) rfl (by simp [Value.oneCell']) ?_
  intro Y hY hgY
  have HY := Lib.hid hY
  have HAY := Lib.hid (show RL.Aft X Y from Below.grown hswb hgY hswb.size (fun k hk => by cases hk; exact HLA.out.size))
  refine hK.out _ _ HAY.out ?_
  clear hK hlwb hswb hba hY hgY hlwa hswa
  (try simp only [Act.put, List.setIfInBounds_toArray, List.set_cons_zero, List.set_cons_succ])
  refine' RL.takeV (i := 11) (v := _) rfl (by kernel_rfl) (by kernel_rfl) (by kernel_rfl) (fun _ _ _ h => h) (by rfl) ?hk92 ?_
  case hk92 => (intro W hSW; go_simp; try with_reducible rfl)
  (try simp only [Act.put, List.setIfInBounds_toArray, List.set_cons_zero, List.set_cons_succ])
  refine RL.done (by kernel_rfl) (fun wd hlwd hswd => ?_)
  have HWD := Lib.hid (show RL.Aft X wd from hswd)
  clear hlwd hswd
  have HBD := Lib.hid (show Below w.heap.size w wd from HBX.out.trans (Below.mono HWD.out HBX.out.size))
  have hst := (HS.out.below HBD.out).1
  have c0 := hst.cell 0 (v := .int .i64 (T : Int)) rfl
  have c1 := hst.cell 1 (v := .int .i64 (M : Int)) rfl
  have c2 := hst.cell 2 (v := .map (some bo)) rfl
  have hl2 := HLO2.out wd HBD.out
  have hee := HE.out wd HBD.out
  have hle := HLEN.out wd HBD.out
  have hleN := fun n => HLEN.out (wd.drewN n) (bdN HBD.out n)
  have hd1 : decide (M ≤ nn) = true := by rw [decide_eq_true_iff]; exact HKK.out
  have hd1b : decide ((M : Int) ≤ (nn : Int)) = true := by rw [decide_eq_true_iff]; have := HKK.out; omega
  clear hst
  go_upto_region 7 with (go_at_call 8; refine (HVA.out _).mono ?_; rintro e w1 ⟨rfl, rfl⟩; skip)
  go_quiet (fail)
  go_wp2
  go_ret
  exact ⟨rfl, bdN HBD.out _⟩
set_option maxRecDepth 20000 in
set_option maxHeartbeats 8000000 in
theorem Add_quota_f (w : World) (sb bo bw T M N : Nat) (L : List Pr) (h : IsSt w sb bo bw T M N L) (t : ByteArray) (ht : t.size ≤ 1000) (k : List UInt8) (hk : k.length = 32) (a : Nat → Addr) (hE : Ei.ErrsAll w a) (hv : validB t.data.toList = true) (hw : whoOf L k = none) (hb : (keysOf L t.data.toList).isEmpty = true) (hT : (tens L).length < T) (hK : M ≤ (keysOf L t.data.toList).length) :
    Calls Tryd.prog 18 #[.pointer (some ⟨sb, 0, none⟩), .string t, .agg (Cv.bytesV k)] w fun e w' => e = .returned (.iface 119 (.pointer (some (a 16)))) ∧ Below w.heap.size w w' := by
  have HS := Lib.hid h
  have HK := Lib.hid hk
  have HV := Lib.hid (show (Cv.bytesV k).size = 32 by rw [Cv.bytesV_size, hk])
  have HW := Lib.hid hw
  obtain ⟨A, c, hks, hlo⟩ := look_of h t (by unfold maxLen; omega)
  have HKS := Lib.hid hks
  have HLO := Lib.hid hlo
  have HVA := Lib.hid (show ∀ W : World, Calls Tryd.prog 8 #[.string t] W fun e w' => e = .returned (.bool true) ∧ W = w' from fun W => by have := Valid_any W t (by omega); rw [hv] at this; exact this)
  have HE := Lib.hid (fun W (hW : Below w.heap.size w W) => show W.cell? ⟨15, 0, none⟩ = some (.iface 119 (.pointer (some (a 16)))) from (hE.below hW).cell 15 (by decide))
  have hlo2 : ∀ W, Below w.heap.size w W → (Instr.lookup 55 (.map (some bo)) (.string t) true).run Tryd.prog W = .ok (.tuple #[.slice A (keysOf L t.data.toList).length c, .bool false]) W := fun W hW => by
    rw [hlo W hW, hb]; rfl
  have HLO2 := Lib.hid hlo2
  have HLEN := Lib.hid (show ∀ W, Below w.heap.size w W → ∀ ty, (Builtin.len_ #[55] ty #[.map (some bo)]).run Tryd.prog W = .ok (.int .i64 ((tens L).length : Nat)) W from fun W hW ty => by
    obtain ⟨_, _, _, ⟨f, hf, _⟩, _⟩ := h.below hW
    exact hf.len Tryd.underlying55 ty)
  have HTT := Lib.hid hT
  have HKK := Lib.hid hK
  clear hlo2 HLO hT hK
  clear h hk hw hv ht hks hlo hE hb
  generalize hKL : keysOf L t.data.toList = kl at *
  generalize hnn : kl.length = nn at *
  go_enter Tryd.func18, Tryd.ntmps18
  go_upto_region 1 with (refine Rg.box_fresh rfl 34 _ rfl (Cv.bytesV k) rfl ?_; intro X hX hbX hnX; have HX := Lib.hid hX; have HBX := Lib.hid hbX; clear hX hbX hnX)
  have HSX := Lib.hid (HS.out.below HBX.out)
  refine RL.start (RL.Aft X) (by kernel_rfl) (RL.Aft.drew (RL.Aft.refl X)) ?_
  refine' RL.takeV (i := 0) (v := _) rfl (by kernel_rfl) (by kernel_rfl) (by kernel_rfl) (fun _ _ _ h => h) (by rfl) ?hk93 ?_
  case hk93 => (intro W hSW; go_simp; try with_reducible rfl)
  (try simp only [Act.put, List.setIfInBounds_toArray, List.set_cons_zero, List.set_cons_succ])
  refine' RL.takeV (i := 1) (v := _) rfl (by kernel_rfl) (by kernel_rfl) (by kernel_rfl) (fun _ _ _ h => h) (by rfl) ?hk94 ?_
  case hk94 => (intro W hSW; go_simp; try with_reducible rfl)
  (try simp only [Act.put, List.setIfInBounds_toArray, List.set_cons_zero, List.set_cons_succ])
  refine' RL.takeV (i := 2) (v := _) rfl (by kernel_rfl) (by kernel_rfl) (by kernel_rfl) (fun _ _ _ h => h) (by rfl) ?hk95 ?_
  case hk95 => (intro W hSW; go_simp; try with_reducible rfl)
  (try simp only [Act.put, List.setIfInBounds_toArray, List.set_cons_zero, List.set_cons_succ])
  refine' RL.takeV (i := 3) (v := _) rfl (by kernel_rfl) (by kernel_rfl) (by kernel_rfl) (fun _ _ _ h => h) (by rfl) ?hk96 ?_
  case hk96 => (intro W hSW; have c3 := (HSX.out.below hSW).1.cell 3 (v := .map (some bw)) rfl; go_simp; try with_reducible rfl)
  (try simp only [Act.put, List.setIfInBounds_toArray, List.set_cons_zero, List.set_cons_succ])
  refine RL.takeV (i := 4) (v := .agg (Cv.bytesV k)) rfl (by kernel_rfl) (by kernel_rfl) (by kernel_rfl) (fun _ _ _ h => h) (by rfl) (fun W hSW => RT.run_row 34 _ rfl _ rfl _ _ (HX.out.below hSW HX.out.lt) Tryd.underlying34 rfl (by rw [HV.out]; kernel_rfl)) ?_
  (try simp only [Act.put, List.setIfInBounds_toArray, List.set_cons_zero, List.set_cons_succ])
  refine' RL.takeV (i := 5) (v := .tuple #[.agg #[.string ⟨#[]⟩], .bool false]) rfl (by kernel_rfl) (by kernel_rfl) (by kernel_rfl) (fun _ _ _ h => h) (by rfl) ?hk5 ?_
  case hk5 => (intro W hSW; have hl := look_who (HSX.out.below hSW) k HK.out; rw [HW.out] at hl; simp only [Option.map_some, Option.map_none, Option.getD_some, Option.getD_none, Option.isSome_some, Option.isSome_none] at hl; go_simp; try with_reducible rfl)
  (try simp only [Act.put, List.setIfInBounds_toArray, List.set_cons_zero, List.set_cons_succ])
  refine' RL.takeV (i := 6) (v := _) rfl (by kernel_rfl) (by kernel_rfl) (by kernel_rfl) (fun _ _ _ h => h) (by rfl) ?hk97 ?_
  case hk97 => (intro W hSW; go_simp; try with_reducible rfl)
  (try simp only [Act.put, List.setIfInBounds_toArray, List.set_cons_zero, List.set_cons_succ])
  refine' RL.takeV (i := 7) (v := _) rfl (by kernel_rfl) (by kernel_rfl) (by kernel_rfl) (fun _ _ _ h => h) (by rfl) ?hk98 ?_
  case hk98 => (intro W hSW; go_simp; try with_reducible rfl)
  (try simp only [Act.put, List.setIfInBounds_toArray, List.set_cons_zero, List.set_cons_succ])
  refine' RL.takeV (i := 8) (v := _) rfl (by kernel_rfl) (by kernel_rfl) (by kernel_rfl) (fun _ _ _ h => h) (by rfl) ?hk99 ?_
  case hk99 => (intro W hSW; go_simp; try with_reducible rfl)
  (try simp only [Act.put, List.setIfInBounds_toArray, List.set_cons_zero, List.set_cons_succ])
  refine RL.stepK (i := 9) rfl (by kernel_rfl) (by rfl) (fun wa hlwa hswa K hK => ?_)
  go_simp
  have HLA := Lib.hid hswa
  refine hK.out _ _ (RL.Aft.alloc hswa _) ?_
  clear hK
  (try simp only [Act.put, List.setIfInBounds_toArray, List.set_cons_zero, List.set_cons_succ])
  refine RL.stepK (i := 10) rfl (by kernel_rfl) (by rfl) (fun wb hlwb hswb K hK => ?_)
  have hba := (Rg.Blk.new wa #[.string ⟨#[]⟩] 62).below hlwb (by simp)
  refine store_blk_op 62 _ _ rfl wa.heap.size #[.string ⟨#[]⟩] #[.string ⟨#[]⟩] 62 rfl rfl hba (by kernel_rfl) rfl (by simp [Value.oneCell']) ?_
  intro Y hY hgY
  have HY := Lib.hid hY
  have HAY := Lib.hid (show RL.Aft X Y from Below.grown hswb hgY hswb.size (fun k hk => by cases hk; exact HLA.out.size))
  refine hK.out _ _ HAY.out ?_
  clear hK hlwb hswb hba hY hgY hlwa hswa
  (try simp only [Act.put, List.setIfInBounds_toArray, List.set_cons_zero, List.set_cons_succ])
  refine' RL.takeV (i := 11) (v := _) rfl (by kernel_rfl) (by kernel_rfl) (by kernel_rfl) (fun _ _ _ h => h) (by rfl) ?hk100 ?_
  case hk100 => (intro W hSW; go_simp; try with_reducible rfl)
  (try simp only [Act.put, List.setIfInBounds_toArray, List.set_cons_zero, List.set_cons_succ])
  refine RL.done (by kernel_rfl) (fun wd hlwd hswd => ?_)
  have HWD := Lib.hid (show RL.Aft X wd from hswd)
  clear hlwd hswd
  have HBD := Lib.hid (show Below w.heap.size w wd from HBX.out.trans (Below.mono HWD.out HBX.out.size))
  have hst := (HS.out.below HBD.out).1
  have c0 := hst.cell 0 (v := .int .i64 (T : Int)) rfl
  have c1 := hst.cell 1 (v := .int .i64 (M : Int)) rfl
  have c2 := hst.cell 2 (v := .map (some bo)) rfl
  have hl2 := HLO2.out wd HBD.out
  have hee := HE.out wd HBD.out
  have hle := HLEN.out wd HBD.out
  have hleN := fun n => HLEN.out (wd.drewN n) (bdN HBD.out n)
  have hd1 : decide (M ≤ nn) = true := by rw [decide_eq_true_iff]; exact HKK.out
  have hd1b : decide ((M : Int) ≤ (nn : Int)) = true := by rw [decide_eq_true_iff]; have := HKK.out; omega
  have hd2 : decide (T ≤ (tens L).length) = false := by rw [decide_eq_false_iff_not]; have := HTT.out; omega
  have hd2b : decide ((T : Int) ≤ ((tens L).length : Int)) = false := by rw [decide_eq_false_iff_not]; have := HTT.out; omega
  clear hst
  go_upto_region 7 with (go_at_call 8; refine (HVA.out _).mono ?_; rintro e w1 ⟨rfl, rfl⟩; skip)
  go_quiet (fail)
  go_wp2
  go_ret
  exact ⟨rfl, bdN HBD.out _⟩
end Go.Proofs.YtgdbplciepiinaaDoor.St
