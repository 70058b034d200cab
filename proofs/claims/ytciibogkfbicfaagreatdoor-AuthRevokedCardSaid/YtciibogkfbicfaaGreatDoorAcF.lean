/- StAdd, Iter, StTen, StDel, StRow, StIdx, StDf, StDg, StDe, StRv, AvH, AvI, AvK, MsgSame, AvJ, LaidAll, LaidA, AvL, AvM, OpenArr, MsgLaid: what the claims need of them. -/
import Derived.Shelf.SlIter.Nil
import Derived.Shelf.SortM.Plain
import Derived.Shelf.SortM.SortNone
import Derived.Test.YtciibogkfbicfaaGreatDoorProg
import Derived.Deep.MidRow
import Derived.Deep.Cut
import Derived.Deep.QuietTactic
import Derived.BigQuiet
import Derived.Stop.LaidErr
import Derived.LaidMore
import Derived.Deep.Strs
import Derived.OpenShut
import Derived.Test.YtciibogkfbicfaaGreatDoorAcE
open Go.Proofs.Tryz
set_option linter.unusedVariables false
set_option linter.unusedSimpArgs false
set_option maxRecDepth 20000
set_option maxHeartbeats 16000000
namespace Go.Proofs.YtciibogkfbicfaaGreatDoor.RL
open Go.RowKit
end Go.Proofs.YtciibogkfbicfaaGreatDoor.RL
namespace Go.Proofs.YtciibogkfbicfaaGreatDoor.St
open Go.RowKit Go.Proofs.YtciibogkfbicfaaGreatDoor.Ow Go.Proofs.YtciibogkfbicfaaGreatDoor.Mp Go.Maps
theorem appN_op {P : Program} {o : Oper} {a : Act} {w : World} {Kc : Act → World → Prop} {Q : Exit → Act → World → Prop} (s x : Operand) (t : TypeId)
 (ho : o.op = .call { callee := .builtin .append, args := #[s, x], argTypes := #[t, t] }) {E : TypeId} {z : Value} {sz by' : Nat} (ht : P.underlying t = some (.slice E))
 (hI : (P.info? E).map (fun i => (i.zero, i.size, i.bytes)) = some (some z, sz, by')) (hz : z.cells.size = sz) (hsz : 0 < sz) (hby : 0 < by')
 {B n : Nat} {v : Value} {xs : List Value} (hO : w.ownsRow B E sz v n xs) (hs : a.eval s = v) {ad : Addr} {m c : Nat} {ys : List Value} (hx : a.eval x = .slice (some ad) m c) (hm : ys.length = m * sz) (hR : Rd w (some ad) ys) (h1 : ∀ u ∈ ys, u.oneCell' = true)
 (hb : (n + m) * by' ≤ 140737488355328) (hB : B ≤ w.heap.size)
 (h : ∀ v' w', w'.ownsRow B E sz v' (n + m) (xs ++ ys) → w.grownBy w' v.ownBlock → Kc (a.put o.dst v') w') : Oper.wp P o a w Kc Q := by
 obtain ⟨v', w', hr, h2, h3, h4⟩ := run_appN (P := P) w t o.type ht hI hz hsz hby hO (c := c) hm hR h1 hb hB
 unfold Oper.wp execOp
 simp only [ho, resolve, invoke, builtin, Sem.run_bind, Sem.run_pure, Result.andThen_ok, List.map_toArray, List.map_cons, List.map_nil, hs, hx, hr]
 exact h v' w' h2 h3
theorem jq_ {P : Program} {o : Oper} {a : Act} {w : World} {Kc : Act → World → Prop} {Q : Exit → Act → World → Prop} (m x v : Operand) (t : TypeId) (hop : o.op = Op.mapUpdate t m x v) (k e : TypeId) (K : Keyed P k) (ht : P.underlying t = some (.map k e)) (b n s : Nat) (f : Lit → Option Value)
 (hm : a.eval m = .map (some b)) (h : RMap P w k b n f s) (hn : n < maxLen) (key val : Value) (kl : Lit) (hx : a.eval x = key) (hv : a.eval v = val) (hkey : keyOf P k key = some kl)
 (hK : ∀ w', RMap P w' k b (n + 1) (upd f kl (some val)) (if (f kl).isSome then s else s + 1) → w.grownBy w' (some b) → Kc (a.put o.dst undef) w') : Oper.wp P o a w Kc Q := by
 obtain ⟨w', hrun, r1, r2⟩ := h.store (val := val) K ht hn hkey
 unfold Oper.wp
 simp [execOp, hop, hm, hx, hv, hrun, Result.andThen]
 exact hK _ r1 r2
theorem look_of {w : World} {sb bo bw T K N : Nat} {L : List Pr} (h : IsSt w sb bo bw T K N L) (t : ByteArray) (ht : t.size ≤ maxLen) :
 ∃ A c, KS w (.slice A (keysOf L t.data.toList).length c) (keysOf L t.data.toList) ∧ ∀ W, Below w.heap.size w W → (Instr.lookup 105 (.map (some bo)) (.string t) true).run prog W = .ok (.tuple #[.slice A (keysOf L t.data.toList).length c, .bool (!(keysOf L t.data.toList).isEmpty)]) W := by
 obtain ⟨_, _, _, ⟨f, hf, hfx⟩, _⟩ := h
 have hlk : ∀ W, Below w.heap.size w W → (Instr.lookup 105 (.map (some bo)) (.string t) true).run prog W = .ok (.tuple #[(f (.string t.data.toList)).getD (.slice none 0 0), .bool (f (.string t.data.toList)).isSome]) W := fun W hW =>
  (hf.below hW hf.lt).lookOk keyed_str underlying105 (show (zeroValue 109).run prog W = .ok (.slice none 0 0) W by kernel_rfl) (key_str underlying9 t ht)
 rcases hfx t.data.toList with ⟨h1, h2⟩ | ⟨h1, v, h2, h3⟩
 · rw [h2] at hlk
   rw [h1]
   exact ⟨none, 0, KS.nil w, hlk⟩
 · obtain ⟨A, c, rfl, _⟩ := id h3
   rw [h2] at hlk
   refine ⟨A, c, h3, fun W hW => ?_⟩
   rw [hlk W hW]
   cases hk : keysOf L t.data.toList with
   | nil => exact absurd hk h1
   | cons x l => rfl
theorem wp_name3 {P : Program} {c : Code} {Q : Exit → Act → World → Prop} {a : Act} {W : World} (h : ∀ X, X = W → c.wp P Q a X) : c.wp P Q a W := h W rfl
theorem ownsBelow {w w' : World} {B sz n : Nat} {E : TypeId} {v : Value} {xs : List Value} (h : w.ownsRow B E sz v n xs) (hb : Below w.heap.size w w') : w'.ownsRow B E sz v n xs :=
 World.ownsRow.kept h (row := none) ⟨hb.os, hb.tape, hb.output, hb.size, fun k hk _ => hb.block k hk⟩ (by cases hv : v.ownBlock <;> simp)
def Only (Z : World) (b : Nat) (W : World) : Prop := Sp.Upd Z W [b]
theorem Only.refl (Z : World) (b : Nat) : Only Z b Z := Sp.Upd.refl Z [b]
theorem Only.lat {Z W W' : World} {b : Nat} (h : Only Z b W) (hb : Below W.heap.size W W') : Only Z b W' := Sp.Upd.trans h (Sp.Upd.of_below hb) (by simp)
theorem Only.drew {Z W : World} {b : Nat} (h : Only Z b W) : Only Z b W.drew := h.lat (Below.drew (Below.refl _ _))
theorem Only.alloc {Z W : World} {b : Nat} (h : Only Z b W) (o : Obj) : Only Z b (W.alloc o) := h.lat ((Below.refl _ _).alloc (Nat.le_refl _) _)
theorem Only.blk {Z W : World} {b g T : Nat} {cs : Array Value} (h : Only Z b W) (hB : Rg.Blk Z g T cs) (hn : g ≠ b) : Rg.Blk W g T cs := by
 unfold Rg.Blk at *
 rw [h.block g (Array.getElem?_eq_some_iff.1 hB).1 (by simpa using hn)]
 exact hB
theorem Only.grown {Z W W' : World} {b : Nat} {row : Option Nat} (h : Only Z b W) (hg : W.grownBy W' row) (hr : ∀ j, row = some j → j = b ∨ Z.heap.size ≤ j) : Only Z b W' :=
 Sp.Upd.trans h (Sp.Upd.of_grown hg) (fun x hx => by
  have : row = some x := by cases row <;> simp_all
  rcases hr x this with h1 | h1
  · exact .inl (by simp [h1])
  · exact .inr h1)
theorem Add_ok_true (w : World) (sb bo bw T M N : Nat) (L : List Pr) (h : IsSt w sb bo bw T M N L) (t : ByteArray) (ht : t.size ≤ 1000) (k : List UInt8) (hk : k.length = 32) (hv : validB t.data.toList = true) (hw : whoOf L k = none)
 (hb : (keysOf L t.data.toList).isEmpty = false) (hT : True) (hK : (keysOf L t.data.toList).length < M) (hN : N ≤ 1000) (hm : M ≤ 64 ∧ T ≤ 64) :
 Calls prog 48 #[.pointer (some ⟨sb, 0, none⟩), .string t, .agg (Cv.bytesV k)] w fun e w' => e = .returned .nilIface ∧ IsSt w' sb bo bw T M (N + 1) (L ++ [(t.data.toList, k)]) ∧ Sp.Upd w w' [bo, bw] := by
 have HS := ϕ h
 have HK := ϕ hk
 have HV := ϕ (show (Cv.bytesV k).size = 32 by rw [Cv.qa_, hk])
 have HW := ϕ hw
 obtain ⟨A, c, hks, hlo⟩ := look_of h t (by unfold maxLen; omega)
 have HKS := ϕ hks
 have HLO := ϕ hlo
 have HVA := ϕ (show ∀ W : World, Calls prog 88 #[.string t] W fun e w' => e = .returned (.bool true) ∧ W = w' from fun W => by have := Valid_any W t (by omega); rw [hv] at this; exact this)
 have hlo2 : ∀ W, Below w.heap.size w W → (Instr.lookup 105 (.map (some bo)) (.string t) true).run prog W = .ok (.tuple #[.slice A (keysOf L t.data.toList).length c, .bool true]) W := fun W hW => by
  rw [hlo W hW, hb]; rfl
 have HLO2 := ϕ hlo2
 have HTT := ϕ hT
 have HKK := ϕ hK
 have HM := ϕ hm
 have HNN := ϕ hN
 have HT0 := ϕ ht
 have HVV := ϕ hv
 have HBB := ϕ hb
 have HLEN := ϕ (show ∀ W, Below w.heap.size w W → ∀ ty, (Builtin.len_ #[105] ty #[.map (some bo)]).run prog W = .ok (.int .i64 ((tens L).length : Nat)) W from fun W hW ty => by
  obtain ⟨_, _, _, ⟨f, hf, _⟩, _⟩ := h.below hW
  exact hf.len underlying105 ty)
 have HKL32 := ϕ (show ∀ x ∈ keysOf L t.data.toList, x.length = 32 from fun x hx => by obtain ⟨p, hp, rfl⟩ := List.mem_map.1 hx; exact h.2.2.1.key p (List.mem_filter.1 hp).1)
 clear h hk hw hv hb hT hK hm hN ht hks hlo hlo2 HLO
 generalize hKL : keysOf L t.data.toList = kl at *
 generalize hnn : kl.length = nn at *
 go_enter func48, ntmps48
 go_upto_region 1 with (refine Rg.qh_ rfl 22 _ rfl (Cv.bytesV k) rfl ?_; intro X hX hbX hnX; have HX := ϕ hX; have HBX := ϕ hbX; clear hX hbX hnX)
 have HSX := ϕ (HS.out.below HBX.out)
 refine RL.start (RL.Aft X) (by kernel_rfl) (RL.Aft.drew (RL.Aft.refl X)) ?_
 refine RL.tu 0 ?_; go_frame
 refine RL.tu 1 ?_; go_frame
 refine RL.tu 2 ?_; go_frame
 refine' RL.tv 3 ?hk4 ?_
 case hk4 => (intro W hSW; have c3 := (HSX.out.below hSW).1.cell 3 (v := .map (some bw)) rfl; go_simp; try with_reducible rfl)
 try go_frame
 refine RL.tw 4 (v := .agg (Cv.bytesV k)) rfl (fun W hSW => RT.qy_ 22 _ rfl _ rfl _ _ (HX.out.below hSW HX.out.lt) underlying22 rfl (by rw [HV.out]; kernel_rfl)) ?_
 try go_frame
 refine' RL.tw 5 (v := .tuple #[.agg #[.string ⟨#[]⟩], .bool false]) rfl ?hk5 ?_
 case hk5 => (intro W hSW; have hl := look_who (HSX.out.below hSW) k HK.out; rw [HW.out] at hl; simp only [Option.map_some, Option.map_none, Option.getD_some, Option.getD_none, Option.isSome_some, Option.isSome_none] at hl; go_simp; try with_reducible rfl)
 try go_frame
 refine RL.tu 6 ?_; go_frame
 refine RL.tu 7 ?_; go_frame
 refine RL.tu 8 ?_; go_frame
 refine RL.sk 9 (fun wa hlwa hswa K hK => ?_)
 go_simp
 have HLA := ϕ hswa
 refine hK.out _ _ (RL.Aft.alloc hswa _) ?_
 clear hK
 try go_frame
 refine RL.sk 10 (fun wb hlwb hswb K hK => ?_)
 have hba := (Rg.Blk.new wa #[.string ⟨#[]⟩] 154).below hlwb (by simp)
 refine qg_ 154 _ _ rfl wa.heap.size #[.string ⟨#[]⟩] #[.string ⟨#[]⟩] 154 rfl rfl hba (by kernel_rfl) rfl (by simp [Value.oneCell']) ?_
 intro Y hY hgY
 have HY := ϕ hY
 have HAY := ϕ (show RL.Aft X Y from Below.grown hswb hgY hswb.size (fun k hk => by cases hk; exact HLA.out.size))
 refine hK.out _ _ HAY.out ?_
 clear hK hlwb hswb hba hY hgY hlwa hswa
 try go_frame
 refine RL.tu 11 ?_; go_frame
 refine RL.done (by kernel_rfl) (fun wd hlwd hswd => ?_)
 have HWD := ϕ (show RL.Aft X wd from hswd)
 clear hlwd hswd
 have HBD := ϕ (show Below w.heap.size w wd from HBX.out.trans (Below.mono HWD.out HBX.out.size))
 have hst := (HS.out.below HBD.out).1
 have c0 := hst.cell 0 (v := .int .i64 (T : Int)) rfl
 have c1 := hst.cell 1 (v := .int .i64 (M : Int)) rfl
 have c2 := hst.cell 2 (v := .map (some bo)) rfl
 have hl2 := HLO2.out wd HBD.out
 have hle := HLEN.out wd HBD.out
 have hleN := fun n => HLEN.out (wd.drewN n) (bdN HBD.out n)
 have hd1 : decide (M ≤ nn) = false := by rw [decide_eq_false_iff_not]; have := HKK.out; omega
 have hd1b : decide ((M : Int) ≤ (nn : Int)) = false := by rw [decide_eq_false_iff_not]; have := HKK.out; omega
 clear hst
 go_upto_region 7 with (go_at_call 88; refine (HVA.out _).mono ?_; rintro e w1 ⟨rfl, rfl⟩; skip)
 go_quiet (fail)
 go_upto_region 11 with fail
 refine wp_name3 (fun Z hZ => ?_)
 have HZB := ϕ (show Below w.heap.size w Z by rw [hZ]; exact bdN HBD.out _)
 have HSZ := ϕ (HS.out.below HZB.out)
 have HXZ := ϕ (show Rg.Blk Z w.heap.size 22 (Cv.bytesV k) by rw [hZ]; exact (show Rg.Blk wd w.heap.size 22 (Cv.bytesV k) from HX.out.below HWD.out HX.out.lt))
 have HKZ := ϕ (HKS.out.below HZB.out)
 have HBO := ϕ (show bo < w.heap.size by obtain ⟨_, _, _, ⟨f, hf, _⟩, _⟩ := HS.out; exact hf.lt)
 have HBW := ϕ (show bw < w.heap.size by obtain ⟨_, _, _, _, ⟨g, s, hg, _⟩⟩ := HS.out; exact hg.lt)
 have HNE := ϕ (show sb ≠ bo by obtain ⟨h1, _, _, ⟨f, hf, _⟩, _⟩ := HS.out; exact hf.ne h1)
 have HNW := ϕ (show sb ≠ bw by obtain ⟨h1, _, _, _, ⟨g, s, hg, _⟩⟩ := HS.out; exact hg.ne h1)
 clear hZ c0 c1 c2 hl2 hle hleN hd1 hd1b
 refine RL.start (Only Z bo) (by kernel_rfl) ((Only.refl Z bo).drew) ?_
 refine RL.tu 0 ?_; go_frame
 refine RL.tu 1 ?_; go_frame
 refine RL.tu 2 ?_; go_frame
 refine' RL.tv 3 ?hk20 ?_
 case hk20 => (intro W hSW; have c2 := (hSW.blk HSZ.out.1 HNE.out).cell 2 (v := .map (some bo)) rfl; go_simp; try with_reducible rfl)
 try go_frame
 refine RL.tu 4 ?_; go_frame
 refine RL.tu 5 ?_; go_frame
 refine RL.tw 7 (v := .agg (Cv.bytesV k)) rfl (fun W hSW => RT.qy_ 22 _ rfl _ rfl _ _ (hSW.blk HXZ.out (by have := HBO.out; omega)) underlying22 rfl (by rw [HV.out]; kernel_rfl)) ?_
 try go_frame
 refine RL.step2 (i := 6) (j := 8) rfl rfl (by kernel_rfl) (by rfl) (by rfl) (fun wa hlwa hswa K hK => ?_) (fun wa hlwa hswa K hK => ?_)
 · have HZwa := ϕ (show Below Z.heap.size Z wa from (Below.drew (Below.refl _ _)).trans hlwa)
   have HZA := ϕ (show Z.heap.size ≤ wa.heap.size from HZwa.out.size)
   have hc := Clone_any wa (.slice A nn c) kl (HKZ.out.below HZwa.out) (by have := HKK.out; have := HM.out; omega)
   go_simp
   refine hc.mono ?_
   rintro e wb ⟨v6, rfl, ho, hb⟩
   have HO := ϕ ho
   have HZwb := ϕ (HZwa.out.trans (hb.mono HZwa.out.size))
   refine hK.out _ _ (Only.lat hswa hb) ?_
   clear hK hc
   try go_frame
   refine RL.sk 8 (fun wc hlwc hswc K hK => ?_)
   have HZwc := ϕ (HZwb.out.trans (Below.mono hlwc HZwb.out.size)); have HOc := ϕ (ownsBelow HO.out hlwc)
   have hsz := HV.out
   have hfold := fold_cells (Cv.bytesV k) z32 (by rw [hsz]; rfl) 32 hsz.symm
   go_simp
   clear hsz hfold
   refine hK.out _ _ (Only.alloc hswc _) ?_
   clear hK
   try go_frame
   refine RL.sk 9 (fun we hlwe hswe K hK => ?_)
   have HZwe := ϕ ((HZwc.out.alloc HZwc.out.size _).trans (Below.mono hlwe (by have := HZwc.out.size; simp; omega)))
   have HOe := ϕ (ownsBelow (World.ownsRow.alloc HOc.out _) hlwe)
   have HRe := ϕ (show Rd we (some ⟨wc.heap.size, 0, none⟩) (bv k) from fun j x hx => ⟨wc.heap.size, 0, rfl, by have := Below.size hlwe; simp at this; omega, by rw [Nat.zero_add]; exact ((Rg.Blk.new wc (Cv.bytesV k) 22).below hlwe (by simp)).cell j (by unfold Cv.bytesV; rw [List.getElem?_toArray]; exact hx)⟩)
   have HBe := ϕ (show wa.heap.size ≤ we.heap.size by have h1 := Below.size hlwe; have h2 := Below.size hlwc; simp at h1; have h3 := HZwb.out.size; exact Nat.le_trans (show wa.heap.size ≤ wb.heap.size from hb.size) (by omega))
   refine appN_op _ _ 109 rfl underlying109 infoK rfl (by decide) (by decide) HOe.out rfl rfl (show (bv k).length = 1 * 32 by rw [jy_, HK.out]) HRe.out (bv_cells k) (by have := HKK.out; have := HM.out; omega) HBe.out ?_
   intro v9 wf hv9 hg9
   have HV9 := ϕ hv9
   have HLO9 := ϕ (show ∀ j, v6.ownBlock = some j → Z.heap.size ≤ j from fun j hj => Nat.le_trans HZA.out (World.ownsRow.lt HOe.out j hj).1)
   have HZwf := ϕ (HZwe.out.grown hg9 HZwe.out.size HLO9.out)
   refine hK.out _ _ (Only.grown hswe hg9 (fun j hj => .inr (HLO9.out j hj))) ?_
   clear hK hv9 hg9
   try go_frame
   refine RL.sk 10 (fun wg hlwg hswg K hK => ?_)
   have HZwg := ϕ (HZwf.out.trans (Below.mono hlwg HZwf.out.size))
   obtain ⟨_, _, _, ⟨f, hf, hfx⟩, _⟩ := HSZ.out.below HZwg.out
   refine jq_ _ _ _ 105 rfl 9 109 keyed_str underlying105 bo N _ f rfl hf (by have := HNN.out; unfold maxLen; omega) (.string t) v9 _ rfl rfl (key_str underlying9 t (by have := HT0.out; unfold maxLen; omega)) ?_
   intro Y hY hgY
   have HKY := ϕ (show KS wg v9 (keysOf L t.data.toList ++ [k]) from KS.own (by have h9 := ownsBelow HV9.out hlwg; rw [hKL, je_, cells_one, List.length_append]; exact h9) (fun x hx => by rcases List.mem_append.1 hx with h | h; exact HKL32.out x (by rw [← hKL]; exact h); rw [List.mem_singleton.1 h]; exact HK.out))
   obtain ⟨f2, hf2, hfx2⟩ := of_next hf hfx hY hgY HKY.out
   have HF2 := ϕ hf2; have HFX2 := ϕ hfx2
   have HGY := ϕ hgY
   refine hK.out _ _ (Only.grown hswg hgY (fun j hj => .inl (by cases hj; rfl))) ?_
   clear hK hf hfx hY hgY hf2 hfx2
   try go_frame
   refine RL.done (by kernel_rfl) (fun wh hlwh hswh => ?_)
   have HUP := ϕ (show Sp.Upd Z wh [bo] from hswh)
   have HFH := ϕ (HF2.out.below hlwh HF2.out.lt); have HXH := ϕ (HFX2.out.below hlwh)
   clear hlwh hswh
   go_upto_region 12 with fail
   have HST2 := ϕ ((show Only Z bo wh from HUP.out).blk HSZ.out.1 HNE.out)
   have HXK2 := ϕ ((show Only Z bo wh from HUP.out).blk HXZ.out (by have := HBO.out; omega))
   obtain ⟨_, hne2, hgood, _, ⟨g, s, hg, hgx⟩⟩ := HSZ.out
   have HNE2 := ϕ hne2
   have HGOOD := ϕ hgood
   have HG2 := ϕ (hg.keep (HUP.out.block bw hg.lt (by simpa using fun e => hne2 e.symm)))
   have HGX := ϕ hgx
   clear hne2 hgood hg hgx
   refine RL.start (Only wh bw) (by kernel_rfl) ((Only.refl wh bw).drew) ?_
   refine RL.tu 0 ?_; go_frame
   refine RL.tu 1 ?_; go_frame
   refine RL.tu 2 ?_; go_frame
   refine' RL.tv 3 ?hk32 ?_
   case hk32 => (intro W hSW; have c3 := (hSW.blk HST2.out HNW.out).cell 3 (v := .map (some bw)) rfl; go_simp; try with_reducible rfl)
   try go_frame
   refine RL.tw 4 (v := .agg (Cv.bytesV k)) rfl (fun W hSW => RT.qy_ 22 _ rfl _ rfl _ _ (hSW.blk HXK2.out (by have := HBW.out; omega)) underlying22 rfl (by rw [HV.out]; kernel_rfl)) ?_
   try go_frame
   refine RL.tu 5 ?_; go_frame
   refine RL.tu 6 ?_; go_frame
   refine RL.sk 7 (fun wk hlwk hswk K hK => ?_)
   have HWK := ϕ (show Below wh.heap.size wh wk from (Below.drew (Below.refl _ _)).trans hlwk)
   refine jq_ _ _ _ 106 rfl 22 154 keyed_key underlying106 bw N s g rfl (HG2.out.below HWK.out HG2.out.lt) (by have := HNN.out; unfold maxLen; omega) (.agg (Cv.bytesV k)) (.agg #[.string t]) _ rfl rfl (key32 k HK.out) ?_
   intro Y2 hY2 hgY2
   have HY2 := ϕ hY2; have HGY2 := ϕ hgY2
   refine hK.out _ _ (Only.grown hswk hgY2 (fun j hj => .inl (by cases hj; rfl))) ?_
   clear hK hY2 hgY2
   try go_frame
   refine RL.done (by kernel_rfl) (fun wl hlwl hswl => ?_)
   have HWL := ϕ (show Below Y2.heap.size Y2 wl from hlwl)
   have HU2 := ϕ (show Only wh bw wl from hswl)
   clear hlwl hswl
   go_wp2
   go_ret
   have hZw : Sp.Upd w Z [] := Sp.Upd.of_below HZB.out
   have hmap : ∃ es clock, wk.heap[bw]? = some (.map es clock) := isMap (HG2.out.below HWK.out HG2.out.lt)
   refine ⟨rfl, ⟨HU2.out.blk HST2.out HNW.out, HNE2.out, HGOOD.out.snoc HK.out HVV.out HW.out, ⟨f2, ?_, ?_⟩, ⟨_, _, (HY2.out.below HWL.out HY2.out.lt), fun x => ?_⟩⟩, ?_⟩
   · exact HFH.out.keep (HU2.out.block bo HFH.out.lt (by simpa using HNE2.out))
   · exact ((HXH.out.below HWK.out).map HGY2.out hmap).below HWL.out
   · rw [whoOf_snoc L t.data.toList k x HW.out]
     by_cases hx : x = k
     · subst hx
       rw [if_pos rfl, upd_same]
       rfl
     · rw [if_neg hx, jx_ g _ (fun e => hx (by injection e))]
       exact HGX.out x
   · exact Sp.Upd.trans (Sp.Upd.trans (Sp.Upd.trans (Sp.Upd.refl w [bo, bw]) hZw (by simp)) HUP.out (fun x hx => .inl (by simp at hx; simp [hx]))) HU2.out (fun x hx => .inl (by simp at hx; simp [hx]))
 · have HZwa := ϕ (show Below Z.heap.size Z wa from (Below.drew (Below.refl _ _)).trans hlwa)
   have hsz := HV.out
   have hfold := fold_cells (Cv.bytesV k) z32 (by rw [hsz]; rfl) 32 hsz.symm
   go_simp
   clear hsz hfold
   refine hK.out _ _ (Only.alloc hswa _) ?_
   clear hK
   try go_frame
   refine RL.sk 6 (fun wc hlwc hswc K hK => ?_)
   have HZwc := ϕ ((HZwa.out.alloc HZwa.out.size _).trans (Below.mono hlwc (by have := HZwa.out.size; simp; omega)))
   have HZA := ϕ (show Z.heap.size ≤ wc.heap.size from HZwc.out.size)
   have HRc := ϕ ((Rg.Blk.new wa (Cv.bytesV k) 22).below hlwc (by simp))
   have hc := Clone_any wc (.slice A nn c) kl (HKZ.out.below HZwc.out) (by have := HKK.out; have := HM.out; omega)
   go_simp
   refine hc.mono ?_
   rintro e wb ⟨v6, rfl, ho, hb⟩
   have HO := ϕ ho
   have HZwb := ϕ (HZwc.out.trans (hb.mono HZwc.out.size))
   refine hK.out _ _ (Only.lat hswc hb) ?_
   clear hK hc
   try go_frame
   have HRb := ϕ (HRc.out.below hb HRc.out.lt)
   refine RL.sk 9 (fun we hlwe hswe K hK => ?_)
   have HZwe := ϕ (HZwb.out.trans (Below.mono hlwe HZwb.out.size)); have HOe := ϕ (ownsBelow HO.out hlwe)
   have HRe := ϕ (show Rd we (some ⟨wa.heap.size, 0, none⟩) (bv k) from fun j x hx => ⟨wa.heap.size, 0, rfl, (HRb.out.below hlwe HRb.out.lt).lt, by rw [Nat.zero_add]; exact (HRb.out.below hlwe HRb.out.lt).cell j (by unfold Cv.bytesV; rw [List.getElem?_toArray]; exact hx)⟩)
   have HBe := ϕ (show wc.heap.size ≤ we.heap.size from Nat.le_trans hb.size (Below.size hlwe))
   refine appN_op _ _ 109 rfl underlying109 infoK rfl (by decide) (by decide) HOe.out rfl rfl (show (bv k).length = 1 * 32 by rw [jy_, HK.out]) HRe.out (bv_cells k) (by have := HKK.out; have := HM.out; omega) HBe.out ?_
   intro v9 wf hv9 hg9
   have HV9 := ϕ hv9
   have HLO9 := ϕ (show ∀ j, v6.ownBlock = some j → Z.heap.size ≤ j from fun j hj => Nat.le_trans HZA.out (World.ownsRow.lt HOe.out j hj).1)
   have HZwf := ϕ (HZwe.out.grown hg9 HZwe.out.size HLO9.out)
   refine hK.out _ _ (Only.grown hswe hg9 (fun j hj => .inr (HLO9.out j hj))) ?_
   clear hK hv9 hg9
   try go_frame
   refine RL.sk 10 (fun wg hlwg hswg K hK => ?_)
   have HZwg := ϕ (HZwf.out.trans (Below.mono hlwg HZwf.out.size))
   obtain ⟨_, _, _, ⟨f, hf, hfx⟩, _⟩ := HSZ.out.below HZwg.out
   refine jq_ _ _ _ 105 rfl 9 109 keyed_str underlying105 bo N _ f rfl hf (by have := HNN.out; unfold maxLen; omega) (.string t) v9 _ rfl rfl (key_str underlying9 t (by have := HT0.out; unfold maxLen; omega)) ?_
   intro Y hY hgY
   have HKY := ϕ (show KS wg v9 (keysOf L t.data.toList ++ [k]) from KS.own (by have h9 := ownsBelow HV9.out hlwg; rw [hKL, je_, cells_one, List.length_append]; exact h9) (fun x hx => by rcases List.mem_append.1 hx with h | h; exact HKL32.out x (by rw [← hKL]; exact h); rw [List.mem_singleton.1 h]; exact HK.out))
   obtain ⟨f2, hf2, hfx2⟩ := of_next hf hfx hY hgY HKY.out
   have HF2 := ϕ hf2; have HFX2 := ϕ hfx2
   have HGY := ϕ hgY
   refine hK.out _ _ (Only.grown hswg hgY (fun j hj => .inl (by cases hj; rfl))) ?_
   clear hK hf hfx hY hgY hf2 hfx2
   try go_frame
   refine RL.done (by kernel_rfl) (fun wh hlwh hswh => ?_)
   have HUP := ϕ (show Sp.Upd Z wh [bo] from hswh)
   have HFH := ϕ (HF2.out.below hlwh HF2.out.lt); have HXH := ϕ (HFX2.out.below hlwh)
   clear hlwh hswh
   go_upto_region 12 with fail
   have HST2 := ϕ ((show Only Z bo wh from HUP.out).blk HSZ.out.1 HNE.out)
   have HXK2 := ϕ ((show Only Z bo wh from HUP.out).blk HXZ.out (by have := HBO.out; omega))
   obtain ⟨_, hne2, hgood, _, ⟨g, s, hg, hgx⟩⟩ := HSZ.out
   have HNE2 := ϕ hne2
   have HGOOD := ϕ hgood
   have HG2 := ϕ (hg.keep (HUP.out.block bw hg.lt (by simpa using fun e => hne2 e.symm)))
   have HGX := ϕ hgx
   clear hne2 hgood hg hgx
   refine RL.start (Only wh bw) (by kernel_rfl) ((Only.refl wh bw).drew) ?_
   refine RL.tu 0 ?_; go_frame
   refine RL.tu 1 ?_; go_frame
   refine RL.tu 2 ?_; go_frame
   refine' RL.tv 3 ?hk38 ?_
   case hk38 => (intro W hSW; have c3 := (hSW.blk HST2.out HNW.out).cell 3 (v := .map (some bw)) rfl; go_simp; try with_reducible rfl)
   try go_frame
   refine RL.tw 4 (v := .agg (Cv.bytesV k)) rfl (fun W hSW => RT.qy_ 22 _ rfl _ rfl _ _ (hSW.blk HXK2.out (by have := HBW.out; omega)) underlying22 rfl (by rw [HV.out]; kernel_rfl)) ?_
   try go_frame
   refine RL.tu 5 ?_; go_frame
   refine RL.tu 6 ?_; go_frame
   refine RL.sk 7 (fun wk hlwk hswk K hK => ?_)
   have HWK := ϕ (show Below wh.heap.size wh wk from (Below.drew (Below.refl _ _)).trans hlwk)
   refine jq_ _ _ _ 106 rfl 22 154 keyed_key underlying106 bw N s g rfl (HG2.out.below HWK.out HG2.out.lt) (by have := HNN.out; unfold maxLen; omega) (.agg (Cv.bytesV k)) (.agg #[.string t]) _ rfl rfl (key32 k HK.out) ?_
   intro Y2 hY2 hgY2
   have HY2 := ϕ hY2; have HGY2 := ϕ hgY2
   refine hK.out _ _ (Only.grown hswk hgY2 (fun j hj => .inl (by cases hj; rfl))) ?_
   clear hK hY2 hgY2
   try go_frame
   refine RL.done (by kernel_rfl) (fun wl hlwl hswl => ?_)
   have HWL := ϕ (show Below Y2.heap.size Y2 wl from hlwl)
   have HU2 := ϕ (show Only wh bw wl from hswl)
   clear hlwl hswl
   go_wp2
   go_ret
   have hZw : Sp.Upd w Z [] := Sp.Upd.of_below HZB.out
   have hmap : ∃ es clock, wk.heap[bw]? = some (.map es clock) := isMap (HG2.out.below HWK.out HG2.out.lt)
   refine ⟨rfl, ⟨HU2.out.blk HST2.out HNW.out, HNE2.out, HGOOD.out.snoc HK.out HVV.out HW.out, ⟨f2, ?_, ?_⟩, ⟨_, _, (HY2.out.below HWL.out HY2.out.lt), fun x => ?_⟩⟩, ?_⟩
   · exact HFH.out.keep (HU2.out.block bo HFH.out.lt (by simpa using HNE2.out))
   · exact ((HXH.out.below HWK.out).map HGY2.out hmap).below HWL.out
   · rw [whoOf_snoc L t.data.toList k x HW.out]
     by_cases hx : x = k
     · subst hx
       rw [if_pos rfl, upd_same]
       rfl
     · rw [if_neg hx, jx_ g _ (fun e => hx (by injection e))]
       exact HGX.out x
   · exact Sp.Upd.trans (Sp.Upd.trans (Sp.Upd.trans (Sp.Upd.refl w [bo, bw]) hZw (by simp)) HUP.out (fun x hx => .inl (by simp at hx; simp [hx]))) HU2.out (fun x hx => .inl (by simp at hx; simp [hx]))
theorem Add_ok_false (w : World) (sb bo bw T M N : Nat) (L : List Pr) (h : IsSt w sb bo bw T M N L) (t : ByteArray) (ht : t.size ≤ 1000) (k : List UInt8) (hk : k.length = 32) (hv : validB t.data.toList = true) (hw : whoOf L k = none)
 (hb : (keysOf L t.data.toList).isEmpty = true) (hT : (tens L).length < T) (hK : (keysOf L t.data.toList).length < M) (hN : N ≤ 1000) (hm : M ≤ 64 ∧ T ≤ 64) :
 Calls prog 48 #[.pointer (some ⟨sb, 0, none⟩), .string t, .agg (Cv.bytesV k)] w fun e w' => e = .returned .nilIface ∧ IsSt w' sb bo bw T M (N + 1) (L ++ [(t.data.toList, k)]) ∧ Sp.Upd w w' [bo, bw] := by
 have HS := ϕ h
 have HK := ϕ hk
 have HV := ϕ (show (Cv.bytesV k).size = 32 by rw [Cv.qa_, hk])
 have HW := ϕ hw
 obtain ⟨A, c, hks, hlo⟩ := look_of h t (by unfold maxLen; omega)
 have HKS := ϕ hks
 have HLO := ϕ hlo
 have HVA := ϕ (show ∀ W : World, Calls prog 88 #[.string t] W fun e w' => e = .returned (.bool true) ∧ W = w' from fun W => by have := Valid_any W t (by omega); rw [hv] at this; exact this)
 have hlo2 : ∀ W, Below w.heap.size w W → (Instr.lookup 105 (.map (some bo)) (.string t) true).run prog W = .ok (.tuple #[.slice A (keysOf L t.data.toList).length c, .bool false]) W := fun W hW => by
  rw [hlo W hW, hb]; rfl
 have HLO2 := ϕ hlo2
 have HTT := ϕ hT
 have HKK := ϕ hK
 have HM := ϕ hm
 have HNN := ϕ hN
 have HT0 := ϕ ht
 have HVV := ϕ hv
 have HBB := ϕ hb
 have HLEN := ϕ (show ∀ W, Below w.heap.size w W → ∀ ty, (Builtin.len_ #[105] ty #[.map (some bo)]).run prog W = .ok (.int .i64 ((tens L).length : Nat)) W from fun W hW ty => by
  obtain ⟨_, _, _, ⟨f, hf, _⟩, _⟩ := h.below hW
  exact hf.len underlying105 ty)
 have HKL32 := ϕ (show ∀ x ∈ keysOf L t.data.toList, x.length = 32 from fun x hx => by obtain ⟨p, hp, rfl⟩ := List.mem_map.1 hx; exact h.2.2.1.key p (List.mem_filter.1 hp).1)
 clear h hk hw hv hb hT hK hm hN ht hks hlo hlo2 HLO
 generalize hKL : keysOf L t.data.toList = kl at *
 generalize hnn : kl.length = nn at *
 go_enter func48, ntmps48
 go_upto_region 1 with (refine Rg.qh_ rfl 22 _ rfl (Cv.bytesV k) rfl ?_; intro X hX hbX hnX; have HX := ϕ hX; have HBX := ϕ hbX; clear hX hbX hnX)
 have HSX := ϕ (HS.out.below HBX.out)
 refine RL.start (RL.Aft X) (by kernel_rfl) (RL.Aft.drew (RL.Aft.refl X)) ?_
 refine RL.tu 0 ?_; go_frame
 refine RL.tu 1 ?_; go_frame
 refine RL.tu 2 ?_; go_frame
 refine' RL.tv 3 ?hk12 ?_
 case hk12 => (intro W hSW; have c3 := (HSX.out.below hSW).1.cell 3 (v := .map (some bw)) rfl; go_simp; try with_reducible rfl)
 try go_frame
 refine RL.tw 4 (v := .agg (Cv.bytesV k)) rfl (fun W hSW => RT.qy_ 22 _ rfl _ rfl _ _ (HX.out.below hSW HX.out.lt) underlying22 rfl (by rw [HV.out]; kernel_rfl)) ?_
 try go_frame
 refine' RL.tw 5 (v := .tuple #[.agg #[.string ⟨#[]⟩], .bool false]) rfl ?hk5 ?_
 case hk5 => (intro W hSW; have hl := look_who (HSX.out.below hSW) k HK.out; rw [HW.out] at hl; simp only [Option.map_some, Option.map_none, Option.getD_some, Option.getD_none, Option.isSome_some, Option.isSome_none] at hl; go_simp; try with_reducible rfl)
 try go_frame
 refine RL.tu 6 ?_; go_frame
 refine RL.tu 7 ?_; go_frame
 refine RL.tu 8 ?_; go_frame
 refine RL.sk 9 (fun wa hlwa hswa K hK => ?_)
 go_simp
 have HLA := ϕ hswa
 refine hK.out _ _ (RL.Aft.alloc hswa _) ?_
 clear hK
 try go_frame
 refine RL.sk 10 (fun wb hlwb hswb K hK => ?_)
 have hba := (Rg.Blk.new wa #[.string ⟨#[]⟩] 154).below hlwb (by simp)
 refine qg_ 154 _ _ rfl wa.heap.size #[.string ⟨#[]⟩] #[.string ⟨#[]⟩] 154 rfl rfl hba (by kernel_rfl) rfl (by simp [Value.oneCell']) ?_
 intro Y hY hgY
 have HY := ϕ hY
 have HAY := ϕ (show RL.Aft X Y from Below.grown hswb hgY hswb.size (fun k hk => by cases hk; exact HLA.out.size))
 refine hK.out _ _ HAY.out ?_
 clear hK hlwb hswb hba hY hgY hlwa hswa
 try go_frame
 refine RL.tu 11 ?_; go_frame
 refine RL.done (by kernel_rfl) (fun wd hlwd hswd => ?_)
 have HWD := ϕ (show RL.Aft X wd from hswd)
 clear hlwd hswd
 have HBD := ϕ (show Below w.heap.size w wd from HBX.out.trans (Below.mono HWD.out HBX.out.size))
 have hst := (HS.out.below HBD.out).1
 have c0 := hst.cell 0 (v := .int .i64 (T : Int)) rfl
 have c1 := hst.cell 1 (v := .int .i64 (M : Int)) rfl
 have c2 := hst.cell 2 (v := .map (some bo)) rfl
 have hl2 := HLO2.out wd HBD.out
 have hle := HLEN.out wd HBD.out
 have hleN := fun n => HLEN.out (wd.drewN n) (bdN HBD.out n)
 have hd1 : decide (M ≤ nn) = false := by rw [decide_eq_false_iff_not]; have := HKK.out; omega
 have hd1b : decide ((M : Int) ≤ (nn : Int)) = false := by rw [decide_eq_false_iff_not]; have := HKK.out; omega
 have hd2 : decide (T ≤ (tens L).length) = false := by rw [decide_eq_false_iff_not]; have := HTT.out; omega
 have hd2b : decide ((T : Int) ≤ ((tens L).length : Int)) = false := by rw [decide_eq_false_iff_not]; have := HTT.out; omega
 clear hst
 go_upto_region 7 with (go_at_call 88; refine (HVA.out _).mono ?_; rintro e w1 ⟨rfl, rfl⟩; skip)
 go_quiet (fail)
 go_upto_region 11 with fail
 refine wp_name3 (fun Z hZ => ?_)
 have HZB := ϕ (show Below w.heap.size w Z by rw [hZ]; exact bdN HBD.out _)
 have HSZ := ϕ (HS.out.below HZB.out)
 have HXZ := ϕ (show Rg.Blk Z w.heap.size 22 (Cv.bytesV k) by rw [hZ]; exact (show Rg.Blk wd w.heap.size 22 (Cv.bytesV k) from HX.out.below HWD.out HX.out.lt))
 have HKZ := ϕ (HKS.out.below HZB.out)
 have HBO := ϕ (show bo < w.heap.size by obtain ⟨_, _, _, ⟨f, hf, _⟩, _⟩ := HS.out; exact hf.lt)
 have HBW := ϕ (show bw < w.heap.size by obtain ⟨_, _, _, _, ⟨g, s, hg, _⟩⟩ := HS.out; exact hg.lt)
 have HNE := ϕ (show sb ≠ bo by obtain ⟨h1, _, _, ⟨f, hf, _⟩, _⟩ := HS.out; exact hf.ne h1)
 have HNW := ϕ (show sb ≠ bw by obtain ⟨h1, _, _, _, ⟨g, s, hg, _⟩⟩ := HS.out; exact hg.ne h1)
 clear hZ c0 c1 c2 hl2 hle hleN hd1 hd1b hd2 hd2b
 refine RL.start (Only Z bo) (by kernel_rfl) ((Only.refl Z bo).drew) ?_
 refine RL.tu 0 ?_; go_frame
 refine RL.tu 1 ?_; go_frame
 refine RL.tu 2 ?_; go_frame
 refine' RL.tv 3 ?hk26 ?_
 case hk26 => (intro W hSW; have c2 := (hSW.blk HSZ.out.1 HNE.out).cell 2 (v := .map (some bo)) rfl; go_simp; try with_reducible rfl)
 try go_frame
 refine RL.tu 4 ?_; go_frame
 refine RL.tu 5 ?_; go_frame
 refine RL.tw 7 (v := .agg (Cv.bytesV k)) rfl (fun W hSW => RT.qy_ 22 _ rfl _ rfl _ _ (hSW.blk HXZ.out (by have := HBO.out; omega)) underlying22 rfl (by rw [HV.out]; kernel_rfl)) ?_
 try go_frame
 refine RL.step2 (i := 6) (j := 8) rfl rfl (by kernel_rfl) (by rfl) (by rfl) (fun wa hlwa hswa K hK => ?_) (fun wa hlwa hswa K hK => ?_)
 · have HZwa := ϕ (show Below Z.heap.size Z wa from (Below.drew (Below.refl _ _)).trans hlwa)
   have HZA := ϕ (show Z.heap.size ≤ wa.heap.size from HZwa.out.size)
   have hc := Clone_any wa (.slice A nn c) kl (HKZ.out.below HZwa.out) (by have := HKK.out; have := HM.out; omega)
   go_simp
   refine hc.mono ?_
   rintro e wb ⟨v6, rfl, ho, hb⟩
   have HO := ϕ ho
   have HZwb := ϕ (HZwa.out.trans (hb.mono HZwa.out.size))
   refine hK.out _ _ (Only.lat hswa hb) ?_
   clear hK hc
   try go_frame
   refine RL.sk 8 (fun wc hlwc hswc K hK => ?_)
   have HZwc := ϕ (HZwb.out.trans (Below.mono hlwc HZwb.out.size)); have HOc := ϕ (ownsBelow HO.out hlwc)
   have hsz := HV.out
   have hfold := fold_cells (Cv.bytesV k) z32 (by rw [hsz]; rfl) 32 hsz.symm
   go_simp
   clear hsz hfold
   refine hK.out _ _ (Only.alloc hswc _) ?_
   clear hK
   try go_frame
   refine RL.sk 9 (fun we hlwe hswe K hK => ?_)
   have HZwe := ϕ ((HZwc.out.alloc HZwc.out.size _).trans (Below.mono hlwe (by have := HZwc.out.size; simp; omega)))
   have HOe := ϕ (ownsBelow (World.ownsRow.alloc HOc.out _) hlwe)
   have HRe := ϕ (show Rd we (some ⟨wc.heap.size, 0, none⟩) (bv k) from fun j x hx => ⟨wc.heap.size, 0, rfl, by have := Below.size hlwe; simp at this; omega, by rw [Nat.zero_add]; exact ((Rg.Blk.new wc (Cv.bytesV k) 22).below hlwe (by simp)).cell j (by unfold Cv.bytesV; rw [List.getElem?_toArray]; exact hx)⟩)
   have HBe := ϕ (show wa.heap.size ≤ we.heap.size by have h1 := Below.size hlwe; have h2 := Below.size hlwc; simp at h1; have h3 := HZwb.out.size; exact Nat.le_trans (show wa.heap.size ≤ wb.heap.size from hb.size) (by omega))
   refine appN_op _ _ 109 rfl underlying109 infoK rfl (by decide) (by decide) HOe.out rfl rfl (show (bv k).length = 1 * 32 by rw [jy_, HK.out]) HRe.out (bv_cells k) (by have := HKK.out; have := HM.out; omega) HBe.out ?_
   intro v9 wf hv9 hg9
   have HV9 := ϕ hv9
   have HLO9 := ϕ (show ∀ j, v6.ownBlock = some j → Z.heap.size ≤ j from fun j hj => Nat.le_trans HZA.out (World.ownsRow.lt HOe.out j hj).1)
   have HZwf := ϕ (HZwe.out.grown hg9 HZwe.out.size HLO9.out)
   refine hK.out _ _ (Only.grown hswe hg9 (fun j hj => .inr (HLO9.out j hj))) ?_
   clear hK hv9 hg9
   try go_frame
   refine RL.sk 10 (fun wg hlwg hswg K hK => ?_)
   have HZwg := ϕ (HZwf.out.trans (Below.mono hlwg HZwf.out.size))
   obtain ⟨_, _, _, ⟨f, hf, hfx⟩, _⟩ := HSZ.out.below HZwg.out
   refine jq_ _ _ _ 105 rfl 9 109 keyed_str underlying105 bo N _ f rfl hf (by have := HNN.out; unfold maxLen; omega) (.string t) v9 _ rfl rfl (key_str underlying9 t (by have := HT0.out; unfold maxLen; omega)) ?_
   intro Y hY hgY
   have HKY := ϕ (show KS wg v9 (keysOf L t.data.toList ++ [k]) from KS.own (by have h9 := ownsBelow HV9.out hlwg; rw [hKL, je_, cells_one, List.length_append]; exact h9) (fun x hx => by rcases List.mem_append.1 hx with h | h; exact HKL32.out x (by rw [← hKL]; exact h); rw [List.mem_singleton.1 h]; exact HK.out))
   obtain ⟨f2, hf2, hfx2⟩ := of_next hf hfx hY hgY HKY.out
   have HF2 := ϕ hf2; have HFX2 := ϕ hfx2
   have HGY := ϕ hgY
   refine hK.out _ _ (Only.grown hswg hgY (fun j hj => .inl (by cases hj; rfl))) ?_
   clear hK hf hfx hY hgY hf2 hfx2
   try go_frame
   refine RL.done (by kernel_rfl) (fun wh hlwh hswh => ?_)
   have HUP := ϕ (show Sp.Upd Z wh [bo] from hswh)
   have HFH := ϕ (HF2.out.below hlwh HF2.out.lt); have HXH := ϕ (HFX2.out.below hlwh)
   clear hlwh hswh
   go_upto_region 12 with fail
   have HST2 := ϕ ((show Only Z bo wh from HUP.out).blk HSZ.out.1 HNE.out)
   have HXK2 := ϕ ((show Only Z bo wh from HUP.out).blk HXZ.out (by have := HBO.out; omega))
   obtain ⟨_, hne2, hgood, _, ⟨g, s, hg, hgx⟩⟩ := HSZ.out
   have HNE2 := ϕ hne2
   have HGOOD := ϕ hgood
   have HG2 := ϕ (hg.keep (HUP.out.block bw hg.lt (by simpa using fun e => hne2 e.symm)))
   have HGX := ϕ hgx
   clear hne2 hgood hg hgx
   refine RL.start (Only wh bw) (by kernel_rfl) ((Only.refl wh bw).drew) ?_
   refine RL.tu 0 ?_; go_frame
   refine RL.tu 1 ?_; go_frame
   refine RL.tu 2 ?_; go_frame
   refine' RL.tv 3 ?hk44 ?_
   case hk44 => (intro W hSW; have c3 := (hSW.blk HST2.out HNW.out).cell 3 (v := .map (some bw)) rfl; go_simp; try with_reducible rfl)
   try go_frame
   refine RL.tw 4 (v := .agg (Cv.bytesV k)) rfl (fun W hSW => RT.qy_ 22 _ rfl _ rfl _ _ (hSW.blk HXK2.out (by have := HBW.out; omega)) underlying22 rfl (by rw [HV.out]; kernel_rfl)) ?_
   try go_frame
   refine RL.tu 5 ?_; go_frame
   refine RL.tu 6 ?_; go_frame
   refine RL.sk 7 (fun wk hlwk hswk K hK => ?_)
   have HWK := ϕ (show Below wh.heap.size wh wk from (Below.drew (Below.refl _ _)).trans hlwk)
   refine jq_ _ _ _ 106 rfl 22 154 keyed_key underlying106 bw N s g rfl (HG2.out.below HWK.out HG2.out.lt) (by have := HNN.out; unfold maxLen; omega) (.agg (Cv.bytesV k)) (.agg #[.string t]) _ rfl rfl (key32 k HK.out) ?_
   intro Y2 hY2 hgY2
   have HY2 := ϕ hY2; have HGY2 := ϕ hgY2
   refine hK.out _ _ (Only.grown hswk hgY2 (fun j hj => .inl (by cases hj; rfl))) ?_
   clear hK hY2 hgY2
   try go_frame
   refine RL.done (by kernel_rfl) (fun wl hlwl hswl => ?_)
   have HWL := ϕ (show Below Y2.heap.size Y2 wl from hlwl)
   have HU2 := ϕ (show Only wh bw wl from hswl)
   clear hlwl hswl
   go_wp2
   go_ret
   have hZw : Sp.Upd w Z [] := Sp.Upd.of_below HZB.out
   have hmap : ∃ es clock, wk.heap[bw]? = some (.map es clock) := isMap (HG2.out.below HWK.out HG2.out.lt)
   refine ⟨rfl, ⟨HU2.out.blk HST2.out HNW.out, HNE2.out, HGOOD.out.snoc HK.out HVV.out HW.out, ⟨f2, ?_, ?_⟩, ⟨_, _, (HY2.out.below HWL.out HY2.out.lt), fun x => ?_⟩⟩, ?_⟩
   · exact HFH.out.keep (HU2.out.block bo HFH.out.lt (by simpa using HNE2.out))
   · exact ((HXH.out.below HWK.out).map HGY2.out hmap).below HWL.out
   · rw [whoOf_snoc L t.data.toList k x HW.out]
     by_cases hx : x = k
     · subst hx
       rw [if_pos rfl, upd_same]
       rfl
     · rw [if_neg hx, jx_ g _ (fun e => hx (by injection e))]
       exact HGX.out x
   · exact Sp.Upd.trans (Sp.Upd.trans (Sp.Upd.trans (Sp.Upd.refl w [bo, bw]) hZw (by simp)) HUP.out (fun x hx => .inl (by simp at hx; simp [hx]))) HU2.out (fun x hx => .inl (by simp at hx; simp [hx]))
 · have HZwa := ϕ (show Below Z.heap.size Z wa from (Below.drew (Below.refl _ _)).trans hlwa)
   have hsz := HV.out
   have hfold := fold_cells (Cv.bytesV k) z32 (by rw [hsz]; rfl) 32 hsz.symm
   go_simp
   clear hsz hfold
   refine hK.out _ _ (Only.alloc hswa _) ?_
   clear hK
   try go_frame
   refine RL.sk 6 (fun wc hlwc hswc K hK => ?_)
   have HZwc := ϕ ((HZwa.out.alloc HZwa.out.size _).trans (Below.mono hlwc (by have := HZwa.out.size; simp; omega)))
   have HZA := ϕ (show Z.heap.size ≤ wc.heap.size from HZwc.out.size)
   have HRc := ϕ ((Rg.Blk.new wa (Cv.bytesV k) 22).below hlwc (by simp))
   have hc := Clone_any wc (.slice A nn c) kl (HKZ.out.below HZwc.out) (by have := HKK.out; have := HM.out; omega)
   go_simp
   refine hc.mono ?_
   rintro e wb ⟨v6, rfl, ho, hb⟩
   have HO := ϕ ho
   have HZwb := ϕ (HZwc.out.trans (hb.mono HZwc.out.size))
   refine hK.out _ _ (Only.lat hswc hb) ?_
   clear hK hc
   try go_frame
   have HRb := ϕ (HRc.out.below hb HRc.out.lt)
   refine RL.sk 9 (fun we hlwe hswe K hK => ?_)
   have HZwe := ϕ (HZwb.out.trans (Below.mono hlwe HZwb.out.size)); have HOe := ϕ (ownsBelow HO.out hlwe)
   have HRe := ϕ (show Rd we (some ⟨wa.heap.size, 0, none⟩) (bv k) from fun j x hx => ⟨wa.heap.size, 0, rfl, (HRb.out.below hlwe HRb.out.lt).lt, by rw [Nat.zero_add]; exact (HRb.out.below hlwe HRb.out.lt).cell j (by unfold Cv.bytesV; rw [List.getElem?_toArray]; exact hx)⟩)
   have HBe := ϕ (show wc.heap.size ≤ we.heap.size from Nat.le_trans hb.size (Below.size hlwe))
   refine appN_op _ _ 109 rfl underlying109 infoK rfl (by decide) (by decide) HOe.out rfl rfl (show (bv k).length = 1 * 32 by rw [jy_, HK.out]) HRe.out (bv_cells k) (by have := HKK.out; have := HM.out; omega) HBe.out ?_
   intro v9 wf hv9 hg9
   have HV9 := ϕ hv9
   have HLO9 := ϕ (show ∀ j, v6.ownBlock = some j → Z.heap.size ≤ j from fun j hj => Nat.le_trans HZA.out (World.ownsRow.lt HOe.out j hj).1)
   have HZwf := ϕ (HZwe.out.grown hg9 HZwe.out.size HLO9.out)
   refine hK.out _ _ (Only.grown hswe hg9 (fun j hj => .inr (HLO9.out j hj))) ?_
   clear hK hv9 hg9
   try go_frame
   refine RL.sk 10 (fun wg hlwg hswg K hK => ?_)
   have HZwg := ϕ (HZwf.out.trans (Below.mono hlwg HZwf.out.size))
   obtain ⟨_, _, _, ⟨f, hf, hfx⟩, _⟩ := HSZ.out.below HZwg.out
   refine jq_ _ _ _ 105 rfl 9 109 keyed_str underlying105 bo N _ f rfl hf (by have := HNN.out; unfold maxLen; omega) (.string t) v9 _ rfl rfl (key_str underlying9 t (by have := HT0.out; unfold maxLen; omega)) ?_
   intro Y hY hgY
   have HKY := ϕ (show KS wg v9 (keysOf L t.data.toList ++ [k]) from KS.own (by have h9 := ownsBelow HV9.out hlwg; rw [hKL, je_, cells_one, List.length_append]; exact h9) (fun x hx => by rcases List.mem_append.1 hx with h | h; exact HKL32.out x (by rw [← hKL]; exact h); rw [List.mem_singleton.1 h]; exact HK.out))
   obtain ⟨f2, hf2, hfx2⟩ := of_next hf hfx hY hgY HKY.out
   have HF2 := ϕ hf2; have HFX2 := ϕ hfx2
   have HGY := ϕ hgY
   refine hK.out _ _ (Only.grown hswg hgY (fun j hj => .inl (by cases hj; rfl))) ?_
   clear hK hf hfx hY hgY hf2 hfx2
   try go_frame
   refine RL.done (by kernel_rfl) (fun wh hlwh hswh => ?_)
   have HUP := ϕ (show Sp.Upd Z wh [bo] from hswh)
   have HFH := ϕ (HF2.out.below hlwh HF2.out.lt); have HXH := ϕ (HFX2.out.below hlwh)
   clear hlwh hswh
   go_upto_region 12 with fail
   have HST2 := ϕ ((show Only Z bo wh from HUP.out).blk HSZ.out.1 HNE.out)
   have HXK2 := ϕ ((show Only Z bo wh from HUP.out).blk HXZ.out (by have := HBO.out; omega))
   obtain ⟨_, hne2, hgood, _, ⟨g, s, hg, hgx⟩⟩ := HSZ.out
   have HNE2 := ϕ hne2
   have HGOOD := ϕ hgood
   have HG2 := ϕ (hg.keep (HUP.out.block bw hg.lt (by simpa using fun e => hne2 e.symm)))
   have HGX := ϕ hgx
   clear hne2 hgood hg hgx
   refine RL.start (Only wh bw) (by kernel_rfl) ((Only.refl wh bw).drew) ?_
   refine RL.tu 0 ?_; go_frame
   refine RL.tu 1 ?_; go_frame
   refine RL.tu 2 ?_; go_frame
   refine' RL.tv 3 ?hk50 ?_
   case hk50 => (intro W hSW; have c3 := (hSW.blk HST2.out HNW.out).cell 3 (v := .map (some bw)) rfl; go_simp; try with_reducible rfl)
   try go_frame
   refine RL.tw 4 (v := .agg (Cv.bytesV k)) rfl (fun W hSW => RT.qy_ 22 _ rfl _ rfl _ _ (hSW.blk HXK2.out (by have := HBW.out; omega)) underlying22 rfl (by rw [HV.out]; kernel_rfl)) ?_
   try go_frame
   refine RL.tu 5 ?_; go_frame
   refine RL.tu 6 ?_; go_frame
   refine RL.sk 7 (fun wk hlwk hswk K hK => ?_)
   have HWK := ϕ (show Below wh.heap.size wh wk from (Below.drew (Below.refl _ _)).trans hlwk)
   refine jq_ _ _ _ 106 rfl 22 154 keyed_key underlying106 bw N s g rfl (HG2.out.below HWK.out HG2.out.lt) (by have := HNN.out; unfold maxLen; omega) (.agg (Cv.bytesV k)) (.agg #[.string t]) _ rfl rfl (key32 k HK.out) ?_
   intro Y2 hY2 hgY2
   have HY2 := ϕ hY2; have HGY2 := ϕ hgY2
   refine hK.out _ _ (Only.grown hswk hgY2 (fun j hj => .inl (by cases hj; rfl))) ?_
   clear hK hY2 hgY2
   try go_frame
   refine RL.done (by kernel_rfl) (fun wl hlwl hswl => ?_)
   have HWL := ϕ (show Below Y2.heap.size Y2 wl from hlwl)
   have HU2 := ϕ (show Only wh bw wl from hswl)
   clear hlwl hswl
   go_wp2
   go_ret
   have hZw : Sp.Upd w Z [] := Sp.Upd.of_below HZB.out
   have hmap : ∃ es clock, wk.heap[bw]? = some (.map es clock) := isMap (HG2.out.below HWK.out HG2.out.lt)
   refine ⟨rfl, ⟨HU2.out.blk HST2.out HNW.out, HNE2.out, HGOOD.out.snoc HK.out HVV.out HW.out, ⟨f2, ?_, ?_⟩, ⟨_, _, (HY2.out.below HWL.out HY2.out.lt), fun x => ?_⟩⟩, ?_⟩
   · exact HFH.out.keep (HU2.out.block bo HFH.out.lt (by simpa using HNE2.out))
   · exact ((HXH.out.below HWK.out).map HGY2.out hmap).below HWL.out
   · rw [whoOf_snoc L t.data.toList k x HW.out]
     by_cases hx : x = k
     · subst hx
       rw [if_pos rfl, upd_same]
       rfl
     · rw [if_neg hx, jx_ g _ (fun e => hx (by injection e))]
       exact HGX.out x
   · exact Sp.Upd.trans (Sp.Upd.trans (Sp.Upd.trans (Sp.Upd.refl w [bo, bw]) hZw (by simp)) HUP.out (fun x hx => .inl (by simp at hx; simp [hx]))) HU2.out (fun x hx => .inl (by simp at hx; simp [hx]))
end Go.Proofs.YtciibogkfbicfaaGreatDoor.St
namespace Go.Proofs
open Go.Shelf
def Tryz.keys66_ren : Go.Shelf.Ren := ⟨fun | 7 => 66 | 10 => 108 | n => n, fun | 23 => 105 | 26 => 9 | 3 => 109 | 28 => 134 | 0 => 0 | 27 => 133 | 33 => 123 | 4 => 4 | n => n, fun | n => n⟩
theorem Tryz.keys66 : Go.Proofs.SlLaysZ.n7 prog Tryz.keys66_ren := {
 mixed := by kernel_rfl
 f7 := ⟨Tryz.f66.name, by decide, func66.trans (congrArg some (by kernel_rfl))⟩
 f10 := ⟨Tryz.f108.name, by decide, func108.trans (congrArg some (by kernel_rfl))⟩
 t0 := underlying0
 a0 := isAgg0
 z0 := sizeOf0
 v0 := zeroValue0
 t4 := underlying4
 a4 := isAgg4
 z4 := sizeOf4
 v4 := zeroValue4
 t23 := underlying105
 a23 := isAgg105
 z23 := sizeOf105
 v23 := zeroValue105
 t26 := underlying9
 a26 := isAgg9
 z26 := sizeOf9
 v26 := zeroValue9
 t27 := underlying133
 a27 := isAgg133
 z27 := sizeOf133
 v27 := zeroValue133
 t28 := underlying134
 a28 := isAgg134
 z28 := sizeOf134
 v28 := zeroValue134
 t33 := underlying123
 a33 := isAgg123
 z33 := sizeOf123
 v33 := zeroValue123 }
def Tryz.sorted65_ren : Go.Shelf.Ren := ⟨fun | 6 => 65 | 8 => 106 | 9 => 107 | 11 => 138 | 13 => 140 | 12 => 139 | 23 => 161 | 24 => 162 | 14 => 152 | 15 => 153 | 16 => 154 | 17 => 155 | 18 => 156 | 19 => 157 | 20 => 158 | 21 => 159 | 22 => 160 | 25 => 174 | 26 => 175 | 27 => 176 | 28 => 177 | 29 => 178 | 30 => 179 | 31 => 186 | n => n, fun | 26 => 9 | 28 => 134 | 24 => 31 | 0 => 0 | 3 => 3 | 37 => 149 | 48 => 100 | 50 => 73 | 4 => 4 | 40 => 241 | 39 => 240 | 45 => 246 | 5 => 5 | 9 => 9 | 51 => 257 | 55 => 261 | 57 => 267 | 58 => 268 | 33 => 123 | n => n, fun | n => n⟩
theorem Tryz.sorted65 : Go.Proofs.SlLaysZ.n6 prog Tryz.sorted65_ren := {
 mixed := by kernel_rfl
 f6 := ⟨Tryz.f65.name, by decide, func65.trans (congrArg some (by kernel_rfl))⟩
 f8 := ⟨Tryz.f106.name, by decide, func106.trans (congrArg some (by kernel_rfl))⟩
 f11 := ⟨Tryz.f138.name, by decide, func138.trans (congrArg some (by kernel_rfl))⟩
 t0 := underlying0
 a0 := isAgg0
 z0 := sizeOf0
 v0 := zeroValue0
 t24 := underlying31
 a24 := isAgg31
 z24 := sizeOf31
 v24 := zeroValue31
 t26 := underlying9
 a26 := isAgg9
 z26 := sizeOf9
 v26 := zeroValue9
 t28 := underlying134
 a28 := isAgg134
 z28 := sizeOf134
 v28 := zeroValue134
 i26 := by kernel_rfl }
def Tryz.sort107_ren : Go.Shelf.Ren := ⟨fun | 6 => 107 | 8 => 140 | 9 => 139 | 19 => 161 | 20 => 162 | 21 => 152 | 22 => 153 | 23 => 154 | 24 => 155 | 25 => 156 | 26 => 157 | 27 => 158 | 28 => 159 | 29 => 160 | 36 => 174 | 31 => 175 | 32 => 176 | 37 => 177 | 38 => 178 | 39 => 179 | 41 => 186 | n => n, fun | 27 => 31 | 29 => 9 | 3 => 3 | 32 => 149 | 26 => 31 | 0 => 0 | 44 => 100 | 46 => 73 | 4 => 4 | 36 => 241 | 35 => 240 | 41 => 246 | 5 => 5 | 9 => 9 | 53 => 257 | 57 => 261 | 63 => 267 | 64 => 268 | n => n, fun | n => n⟩
theorem Tryz.sort107 : Go.Proofs.SlLaysM.n6 prog Tryz.sort107_ren := {
 mixed := by kernel_rfl
 f6 := ⟨Tryz.f107.name, by decide, func107.trans (congrArg some (by kernel_rfl))⟩
 f8 := func140.trans (congrArg some (by kernel_rfl))
 f9 := ⟨Tryz.f139.name, by decide, func139.trans (congrArg some (by kernel_rfl))⟩
 f19 := func161.trans (congrArg some (by kernel_rfl))
 f20 := func162.trans (congrArg some (by kernel_rfl))
 f21 := ⟨Tryz.f152.name, by decide, func152.trans (congrArg some (by kernel_rfl))⟩
 f22 := ⟨Tryz.f153.name, by decide, func153.trans (congrArg some (by kernel_rfl))⟩
 f23 := ⟨Tryz.f154.name, by decide, func154.trans (congrArg some (by kernel_rfl))⟩
 f24 := ⟨Tryz.f155.name, by decide, func155.trans (congrArg some (by kernel_rfl))⟩
 f25 := ⟨Tryz.f156.name, by decide, func156.trans (congrArg some (by kernel_rfl))⟩
 f26 := ⟨Tryz.f157.name, by decide, func157.trans (congrArg some (by kernel_rfl))⟩
 f27 := ⟨Tryz.f158.name, by decide, func158.trans (congrArg some (by kernel_rfl))⟩
 f28 := ⟨Tryz.f159.name, by decide, func159.trans (congrArg some (by kernel_rfl))⟩
 f29 := ⟨Tryz.f160.name, by decide, func160.trans (congrArg some (by kernel_rfl))⟩
 f31 := func175.trans (congrArg some (by kernel_rfl))
 f32 := func176.trans (congrArg some (by kernel_rfl))
 f36 := ⟨Tryz.f174.name, by decide, func174.trans (congrArg some (by kernel_rfl))⟩
 f37 := ⟨Tryz.f177.name, by decide, func177.trans (congrArg some (by kernel_rfl))⟩
 f38 := ⟨Tryz.f178.name, by decide, func178.trans (congrArg some (by kernel_rfl))⟩
 f39 := ⟨Tryz.f179.name, by decide, func179.trans (congrArg some (by kernel_rfl))⟩
 f41 := ⟨Tryz.f186.name, by decide, func186.trans (congrArg some (by kernel_rfl))⟩
 t0 := underlying0
 a0 := isAgg0
 z0 := sizeOf0
 v0 := zeroValue0
 t3 := underlying3
 a3 := isAgg3
 z3 := sizeOf3
 v3 := zeroValue3
 t4 := underlying4
 a4 := isAgg4
 z4 := sizeOf4
 v4 := zeroValue4
 t5 := underlying5
 a5 := isAgg5
 z5 := sizeOf5
 v5 := zeroValue5
 t9 := underlying9
 a9 := isAgg9
 z9 := sizeOf9
 v9 := zeroValue9
 t26 := underlying31
 a26 := isAgg31
 z26 := sizeOf31
 v26 := zeroValue31
 t27 := underlying31
 a27 := isAgg31
 z27 := sizeOf31
 v27 := zeroValue31
 t29 := underlying9
 a29 := isAgg9
 z29 := sizeOf9
 v29 := zeroValue9
 t32 := underlying149
 a32 := isAgg149
 z32 := sizeOf149
 v32 := zeroValue149
 t35 := underlying240
 a35 := isAgg240
 z35 := sizeOf240
 v35 := zeroValue240
 t36 := underlying241
 a36 := isAgg241
 z36 := sizeOf241
 v36 := zeroValue241
 t41 := underlying246
 a41 := isAgg246
 z41 := sizeOf246
 v41 := zeroValue246
 t44 := underlying100
 a44 := isAgg100
 z44 := sizeOf100
 v44 := zeroValue100
 t46 := underlying73
 a46 := isAgg73
 z46 := sizeOf73
 v46 := zeroValue73
 t53 := underlying257
 a53 := isAgg257
 z53 := sizeOf257
 v53 := zeroValue257
 t57 := underlying261
 a57 := isAgg261
 z57 := sizeOf261
 v57 := zeroValue261
 t63 := underlying267
 a63 := isAgg267
 z63 := sizeOf267
 v63 := zeroValue267
 t64 := underlying268
 a64 := isAgg268
 z64 := sizeOf268
 v64 := zeroValue268 }
open Go.RowKit Go.Maps Go.Sort
theorem Tryz.sorts65 (m : Nat) : AnyZ.SortsIn prog Tryz.sorted65_ren Fence.wide m :=
 ⟨fun blk off cap ss W hH hblk hsz => callsIn_wide.2 (AnyM.slices_Sort_string Tryz.sort107 blk off cap ss W hH hblk hsz),
  fun p cap W => callsIn_wide.2 (AnyM.slices_Sort_string_none Tryz.sort107 p cap W)⟩
theorem Tryz.maps_Keys_66 (mb : Option Nat) (W : World) : CallsIn Fence.wide 5 prog 66 #[.map mb] W fun e w' => e = .returned (.func (.func 108) #[] #[.pointer (some ⟨W.heap.size, 0, none⟩)]) ∧ w' = W.alloc (.cells #[.map mb] 105) :=
 AnyZ.keys_in Tryz.keys66 Fence.wide 5 trivial rfl mb W
theorem Tryz.slices_Sorted_keys_65_66 {H : Type} (b nn : Nat) (D0 : DataW H) (R : Value → Option (DataW H × List MemPlace)) (w : World) (hown : w.ownsMap prog 9 R b nn D0) (hmax : Maps.size D0 ≤ maxLen) (hbytes : Maps.size D0 * 16 ≤ 140737488355328) :
 CallsIn Fence.wide 5 prog 65 #[.func (.func 108) #[] #[.pointer (some ⟨w.heap.size, 0, none⟩)]] (w.alloc (.cells #[.map (some b)] 105)) fun e w' => ∃ (v : Value) (ss : List (List UInt8)), e = .returned v ∧ ss.Perm (strKeys D0) ∧
  w'.ownsRow (w.alloc (.cells #[.map (some b)] 105)).heap.size 9 1 v ss.length ((ss.mergeSort (fun x y => decide (x ≤ y))).map encStr) ∧ (v = .slice none 0 0 ↔ ss = []) ∧ Below (w.alloc (.cells #[.map (some b)] 105)).heap.size (w.alloc (.cells #[.map (some b)] 105)) w' := by
 have hbl := hown.lt
 have hseq : SeqGives Fence.wide 2 prog 108 #[.pointer (some ⟨w.heap.size, 0, none⟩)] encStr (fun ss => ss.Perm (strKeys D0)) (Maps.size D0) (w.alloc (.cells #[.map (some b)] 105)) :=
  AnyZ.keys_gives (ρ := Tryz.keys66_ren) { Tryz.keys66 with } Fence.wide _ trivial rfl (by omega) w.heap.size b nn D0 _ (by simp) (by simp) (by
   obtain ⟨es, clock, hb, Ft, hs, hD⟩ := hown
   exact ⟨es, clock, (Below.heap_alloc _ _ b hbl).trans hb, Ft, hs, hD⟩)
 exact AnyZ.sorted_in Tryz.sorted65 Fence.wide 5 trivial trivial trivial trivial rfl (by omega) (Tryz.sorts65 _) (enters_of func107 (by kernel_rfl) rfl) 108 #[.pointer (some ⟨w.heap.size, 0, none⟩)] trivial (enters_of func108 (by kernel_rfl) rfl) _ _ hmax hbytes _ hseq
end Go.Proofs
namespace Go.Proofs.YtciibogkfbicfaaGreatDoor.St
open Go.RowKit Go.Proofs.YtciibogkfbicfaaGreatDoor.Ow Go.Proofs.YtciibogkfbicfaaGreatDoor.Mp Go.Maps Go.Proofs
theorem tens_perm {w : World} {b n : Nat} {f : Lit → Option Value} {L : List Pr} {D : DataW Value} (hD : w.ownsMap prog 9 raw b n D) (hf : ∀ kl, (f kl = none ∧ has D kl = false) ∨ ∃ v, f kl = some v ∧ has D kl = true ∧ ∀ z, D.atKey kl z = .held v)
 (hfx : ∀ x, (keysOf L x = [] ∧ f (.string x) = none) ∨ (keysOf L x ≠ [] ∧ ∃ v, f (.string x) = some v ∧ KS w v (keysOf L x))) : (tens L).Perm (strKeys D) := by
 obtain ⟨es, rfl, hp⟩ := hD.tidy keyed_str
 obtain ⟨es2, e2, hk⟩ := hD.keysOf
 injection e2 with e2
 subst e2
 refine perm_strKeys hp (fun p hp => ?_) (nodup_ddup _) fun x => ?_
 · obtain ⟨v, hv⟩ := hk p hp
   obtain ⟨x, _, h, _⟩ := Maps.keyOf_str underlying9 hv
   exact ⟨x, h⟩
 · rw [mem_tens]
   rcases hfx x with ⟨h1, h2⟩ | ⟨h1, v, h2, _⟩
   · rcases hf (.string x) with ⟨h3, h4⟩ | ⟨v, h3, _⟩
     · rw [h4]; simp [h1]
     · rw [h2] at h3; cases h3
   · rcases hf (.string x) with ⟨h3, h4⟩ | ⟨v', h3, h4, _⟩
     · rw [h2] at h3; cases h3
     · rw [h4]; simp [h1]
theorem Tenants_any (w : World) (sb bo bw T K N : Nat) (L : List Pr) (h : IsSt w sb bo bw T K N L) (hN : (tens L).length ≤ 1000000) :
 Calls prog 32 #[.pointer (some ⟨sb, 0, none⟩)] w fun e w' => ∃ v, e = .returned v ∧ Owns w' w.heap.size 9 v ((namesL L).map encStr) ∧ Below w.heap.size w w' := by
 obtain ⟨hB, hne, hG, ⟨f, ⟨D, hD, hsz, hf⟩, hfx⟩, _⟩ := h
 have HP := ϕ (tens_perm hD hf hfx)
 have c2 := hB.cell 2 (v := .map (some bo)) rfl
 have HK := ϕ (callsIn_wide.1 (Tryz.maps_Keys_66 (some bo) w))
 have HS := ϕ (callsIn_wide.1 (Tryz.slices_Sorted_keys_65_66 bo N D raw w hD (by unfold maxLen; omega) (by omega)))
 have HB := ϕ (show Below w.heap.size w (w.alloc (.cells #[.map (some bo)] 105)) from (Below.refl _ _).alloc (Nat.le_refl _) _)
 clear hB hG hf hfx hD hsz hN
 go_enter func32, ntmps32
 go_wp2_with (first
  | (go_at_call 66; refine HK.out.mono ?_; rintro e w1 ⟨rfl, rfl⟩; skip)
  | (go_at_call 65; refine HS.out.mono ?_; rintro e w2 ⟨v, ss, rfl, hp, hr, hn, hb⟩; have HPS := ϕ hp; have HR := ϕ hr; have HB2 := ϕ hb; clear hp hr hn hb))
 go_ret
 have e1 : ss.mergeSort leB = namesL L := mergeSort_of_perm (HPS.out.trans HP.out.symm)
 refine ⟨_, rfl, ?_, HB.out.trans (HB2.out.mono (by simp))⟩
 have hr := HR.out
 rw [show (ss.mergeSort fun x y => decide (x ≤ y)) = namesL L from e1] at hr
 have el : ss.length = ((namesL L).map encStr).length := by rw [← e1]; simp
 rw [el] at hr
 refine ⟨hr.1, hr.2.imp id fun ⟨g, cap, cur, hv, hb, rest⟩ => ⟨g, cap, cur, hv, ?_, rest⟩⟩
 simp at hb
 omega
def delP (L : List Pr) (k : List UInt8) : List Pr := L.filter fun p => decide (p.2 ≠ k)
theorem keysOf_del (L : List Pr) (k x : List UInt8) : keysOf (delP L k) x = (keysOf L x).filter fun y => decide (y ≠ k) := by
 unfold keysOf delP
 rw [List.filter_filter, List.filter_map, List.filter_filter]
 congr 1
 apply List.filter_congr
 intro p _
 simp [Bool.and_comm]
theorem whoOf_mem {L : List Pr} {k t : List UInt8} (h : whoOf L k = some t) : (t, k) ∈ L := by
 unfold whoOf at h
 rw [Option.map_eq_some_iff] at h
 obtain ⟨p, hp, rfl⟩ := h
 have h1 := List.mem_of_find?_eq_some hp
 have h2 := List.find?_some hp
 have h3 : p.2 = k := of_decide_eq_true h2
 rw [← h3]; exact h1
theorem whoOf_del (L : List Pr) (k x : List UInt8) : whoOf (delP L k) x = if x = k then none else whoOf L x := by
 by_cases h : x = k
 · rw [if_pos h, whoOf_none]
   intro hm
   obtain ⟨p, hp, e⟩ := List.mem_map.1 hm
   have := of_decide_eq_true (List.mem_filter.1 hp).2
   exact this (e.trans h)
 · rw [if_neg h]
   unfold whoOf delP
   rw [List.find?_filter]
   congr 2
   funext p
   by_cases e : p.2 = x
   · simp [e, h]
   · simp [e]
theorem Good.del {L : List Pr} (h : Good L) (k : List UInt8) : Good (delP L k) :=
 ⟨fun p hp => h.key p (List.mem_filter.1 hp).1, fun p hp => h.val p (List.mem_filter.1 hp).1, h.nd.sublist (List.filter_sublist.map _)⟩
theorem inj_of_nodup : ∀ {L : List Pr}, (L.map (·.2)).Nodup → ∀ p ∈ L, ∀ q ∈ L, p.2 = q.2 → p = q
 | [], _, p, hp, _, _, _ => by simp at hp
 | x :: L, h, p, hp, q, hq, e => by
  rw [List.map_cons, List.nodup_cons] at h
  rcases List.mem_cons.1 hp with rfl | hp2
  · rcases List.mem_cons.1 hq with rfl | hq2
    · rfl
    · exact (h.1 (List.mem_map.2 ⟨q, hq2, e.symm⟩)).elim
  · rcases List.mem_cons.1 hq with rfl | hq2
    · exact (h.1 (List.mem_map.2 ⟨p, hp2, e⟩)).elim
    · exact inj_of_nodup h.2 p hp2 q hq2 e
theorem tens_del {L : List Pr} (hg : Good L) {k t : List UInt8} (h : whoOf L k = some t) : (tens (delP L k)).length = if keysOf (delP L k) t = [] then (tens L).length - 1 else (tens L).length := by
 have hm : ∀ x, x ≠ t → (x ∈ tens (delP L k) ↔ x ∈ tens L) := fun x hx => by
  rw [mem_tens, mem_tens, keysOf_del]
  have : (keysOf L x).filter (fun y => decide (y ≠ k)) = keysOf L x := by
   rw [List.filter_eq_self]
   intro y hy
   simp only [decide_eq_true_eq, ne_eq]
   rintro rfl
   unfold keysOf at hy
   obtain ⟨p, hp, e⟩ := List.mem_map.1 hy
   obtain ⟨hp1, hp2⟩ := List.mem_filter.1 hp
   have hq := whoOf_mem h
   have hpe : p.1 = x := of_decide_eq_true hp2
   have : p = (t, y) := inj_of_nodup hg.nd p hp1 _ hq e
   rw [this] at hpe
   exact hx hpe.symm
  rw [this]
 have ht : t ∈ tens L := by
  rw [mem_tens]
  intro e
  have hq := whoOf_mem h
  have : k ∈ keysOf L t := List.mem_map.2 ⟨(t, k), List.mem_filter.2 ⟨hq, decide_eq_true rfl⟩, rfl⟩
  rw [e] at this
  simp at this
 by_cases he : keysOf (delP L k) t = []
 · rw [if_pos he]
   have hp : (tens (delP L k)).Perm ((tens L).erase t) := (List.perm_ext_iff_of_nodup (za_ _) ((za_ _).erase t)).2 fun x => by
    by_cases hx : x = t
    · subst hx
      constructor
      · intro h1; exact absurd he (mem_tens.1 h1)
      · intro h1; exact absurd h1 (List.Nodup.not_mem_erase (za_ _))
    · rw [hm x hx, List.mem_erase_of_ne hx]
   rw [hp.length_eq, List.length_erase_of_mem ht]
 · rw [if_neg he]
   have hp : (tens (delP L k)).Perm (tens L) := (List.perm_ext_iff_of_nodup (za_ _) (za_ _)).2 fun x => by
    by_cases hx : x = t
    · subst hx
      exact ⟨fun _ => ht, fun _ => mem_tens.2 he⟩
    · exact hm x hx
   exact hp.length_eq
theorem zb_ {w : World} {b o : Nat} {x y : List Value} : w.rangeAt b o (x ++ y) ↔ w.rangeAt b o x ∧ w.rangeAt b (o + x.length) y := by
 constructor
 · intro h
   refine ⟨fun j v hv => h j v ?_, fun j v hv => ?_⟩
   · rw [List.getElem?_append_left (List.getElem?_eq_some_iff.1 hv).1]; exact hv
   · have := h (x.length + j) v (by rw [List.getElem?_append_right (by omega), show x.length + j - x.length = j by omega]; exact hv)
     rw [← Nat.add_assoc] at this; exact this
 · rintro ⟨h1, h2⟩ j v hv
   by_cases hj : j < x.length
   · rw [List.getElem?_append_left hj] at hv; exact h1 j v hv
   · rw [List.getElem?_append_right (by omega)] at hv
     have := h2 _ v hv
     rw [show o + x.length + (j - x.length) = o + j by omega] at this; exact this
theorem grown_setCells (b : Nat) : ∀ (vs : List Value) (o : Nat) (w : World), w.grownBy (w.setCells b o vs) (some b)
 | [], _, w => World.grownBy.refl w _
 | v :: r, o, w => by
  rw [World.setCells]
  have g1 := Cl.grown_setCell w b o v
  have g2 := grown_setCells b r (o + 1) (w.setCell ⟨b, o, none⟩ v)
  exact ⟨g2.os.trans g1.os, g2.tape.trans g1.tape, g2.output.trans g1.output, Nat.le_trans g1.size g2.size, fun k hk hne => (g2.block k (Nat.lt_of_lt_of_le hk g1.size) hne).trans (g1.block k hk hne)⟩
def KR (w : World) (g : Nat) (M : List (List UInt8)) : Prop := w.rangeAt g 0 (cells M) ∧ w.there g 0 (M.length * 32)
theorem KR.set {w : World} {g : Nat} {M : List (List UInt8)} (h : KR w g M) (hM : ∀ y ∈ M, y.length = 32) {p : Nat} (hp : p < M.length) {x : List UInt8} (hx : x.length = 32) : KR (w.setCells g (p * 32) (bv x)) g (M.set p x) := by
 have e1 : M = M.take p ++ (M[p] :: M.drop (p + 1)) := by rw [← List.drop_eq_getElem_cons hp, List.take_append_drop]
 have e2 : M.set p x = M.take p ++ (x :: M.drop (p + 1)) := by rw [List.set_eq_take_append_cons_drop, if_pos hp]
 have lt : (cells (M.take p)).length = p * 32 := by rw [jz_ _ (fun y hy => hM y (List.mem_of_mem_take hy)), List.length_take, Nat.min_eq_left (by omega)]
 have lb : (bv x).length = 32 := by rw [jy_, hx]
 have h1 := h.1
 rw [e1, je_, show M[p] :: M.drop (p + 1) = [M[p]] ++ M.drop (p + 1) from rfl, je_, cells_one] at h1
 obtain ⟨ha, hb⟩ := zb_.1 h1
 obtain ⟨_, hc⟩ := zb_.1 hb
 rw [jy_, hM _ (List.getElem_mem hp), lt] at hc
 have ht : w.there g (p * 32) (bv x).length := fun j hj => by
  have := h.2 (p * 32 + j) (by rw [lb] at hj; omega)
  rw [Nat.zero_add] at this; exact this
 refine ⟨?_, by rw [List.length_set]; exact World.there_setCells h.2 _ _ _⟩
 rw [e2, je_, show x :: M.drop (p + 1) = [x] ++ M.drop (p + 1) from rfl, je_, cells_one]
 refine zb_.2 ⟨World.rangeAt_setCells_apart ha _ _ _ (.inr (.inl (by omega))), zb_.2 ⟨?_, ?_⟩⟩
 · rw [lt, Nat.zero_add]; exact World.rangeAt_setCells_same w g (p * 32) (bv x) ht
 · rw [lt, lb]
   exact World.rangeAt_setCells_apart hc _ _ _ (.inr (.inr (by omega)))
theorem KR.at_ {w : World} {g : Nat} {M : List (List UInt8)} (h : KR w g M) (hM : ∀ y ∈ M, y.length = 32) {j : Nat} {x : List UInt8} (hx : M[j]? = some x) : w.rangeAt g (j * 32) (bv x) := fun i v hv => by
 have := h.1 (j * 32 + i) v (cells_at hM hx i v hv)
 rw [Nat.zero_add] at this; exact this
theorem KR.own {w : World} {B g c n : Nat} {l : List (List UInt8)} (h : w.ownsRow B 22 32 (.slice (some ⟨g, 0, none⟩) n c) n (cells l)) (hn : l.length = n) : KR w g l := by
 rcases h.2 with ⟨hv, _⟩ | ⟨g', cap, cur, hv, _, hg, hc, _, hs, ht⟩
 · cases hv
 · injection hv with hv
   injection hv with hv
   injection hv with hv
   subst hv
   have hlen := h.1
   refine ⟨fun j v hv => ?_, fun j hj => ?_⟩
   · have := World.ownsRow.cells h (g := g) rfl j v hv
     rw [Addr.add_mid] at this; exact this
   · have hj2 : j < (cells l).length := by rw [hlen, ← hn]; exact hj
     have := World.ownsRow.cells h (g := g) rfl j _ (List.getElem?_eq_getElem hj2)
     rw [Addr.add_mid] at this
     exact ⟨by rw [this]; rfl, frozen_of_row w g _ _ _ hg⟩
theorem KR.below {w w' : World} {g : Nat} {M : List (List UInt8)} (h : KR w g M) (hb : Below w.heap.size w w') : KR w' g M := by
 refine ⟨fun j v hv => (hb.cell (World.block_lt_of_cell? w _ (h.1 j v hv))).trans (h.1 j v hv), fun j hj => ?_⟩
 obtain ⟨h1, h2⟩ := h.2 j hj
 obtain ⟨u, hu⟩ := Option.isSome_iff_exists.1 h1
 have hl := World.block_lt_of_cell? w _ hu
 exact ⟨by rw [hb.cell hl]; exact h1, (hb.frozen hl).trans h2⟩
open Go.Proofs.YtciibogkfbicfaaGreatDoor.Cv
theorem infoB : (prog.info? 5).map (fun i => (i.zero, i.size, i.bytes)) = some (some (.int .u8 0), 1, 1) := by kernel_rfl
theorem Same_any (w : World) (x k : List UInt8) (hx : x.length = 32) (hk : k.length = 32) (kb : Nat) (hB : Rg.Blk w kb 22 (bytesV k)) :
 Calls prog 52 #[.agg (bytesV x), .pointer (some ⟨kb, 0, none⟩)] w fun e w' => e = .returned (.bool (x == k)) ∧ Below w.heap.size w w' := by
 have HB := ϕ hB
 have HVX := ϕ (show (bytesV x).size = 32 by rw [qa_, hx])
 have HVK := ϕ (show (bytesV k).size = 32 by rw [qa_, hk])
 have HQ := ϕ (fun W : World => jm_ (P := prog) W 22 5 32 underlying22 underlying5 infoB x k hx hk)
 clear hB hx hk
 go_enter func52, ntmps52
 go_wp2_with (first
  | (refine Rg.qh_ rfl 22 _ rfl (bytesV x) rfl ?_; intro X hX hbX hnX; have HX := ϕ hX; have HBX := ϕ hbX; have HKX := ϕ (HB.out.below hbX HB.out.lt); have hq := HQ.out X; clear hX hbX hnX)
  | (refine qi_ rfl 22 _ rfl w.heap.size 0 rfl (bytesV x) _ (Bytes.of_blk HX.out).cells underlying22 rfl (by rw [HVX.out]; kernel_rfl) ?_; skip)
  | (refine qi_ rfl 22 _ rfl kb 0 rfl (bytesV k) _ (Bytes.of_blk HKX.out).cells underlying22 rfl (by rw [HVK.out]; kernel_rfl) ?_; skip))
 go_ret
 exact ⟨rfl, HBX.out⟩
def idx (l : List (List UInt8)) (k : List UInt8) : Nat := l.findIdx (· == k)
theorem idx_at {l : List (List UInt8)} {k : List UInt8} {i : Nat} {x : List UInt8} (hx : l[i]? = some x) (h : x = k) (hn : ∀ j y, j < i → l[j]? = some y → y ≠ k) : idx l k = i := by
 have hi := (List.getElem?_eq_some_iff.1 hx).1
 unfold idx
 refine (List.findIdx_eq hi).2 ⟨?_, fun j hj => ?_⟩
 · rw [(List.getElem?_eq_some_iff.1 hx).2, h]; exact beq_self_eq_true k
 · rw [beq_eq_false_iff_ne]
   exact hn j _ hj (List.getElem?_eq_getElem (by omega))
theorem idx_none {l : List (List UInt8)} {k : List UInt8} (hn : ∀ (j : Nat) y, l[j]? = some y → y ≠ k) : idx l k = l.length := by
 unfold idx
 refine List.findIdx_eq_length.2 fun x hx => ?_
 obtain ⟨j, hj⟩ := List.mem_iff_getElem?.1 hx
 rw [beq_eq_false_iff_ne]
 exact hn j x hj
@[irreducible] def idxR (l : List (List UInt8)) (k : List UInt8) (n : Nat) : Int := if idx l k < n then (idx l k : Int) else -1
theorem Index_any (w : World) (v : Value) (l : List (List UInt8)) (h : KS w v l) (hz : l.length ≤ 1000000) (k : List UInt8) (hk : k.length = 32) (kb : Nat) (hB : Rg.Blk w kb 22 (bytesV k)) :
 Calls prog 89 #[v, .func (.func 52) #[] #[.pointer (some ⟨kb, 0, none⟩)]] w fun e w' => e = .returned (.int .i64 (idxR l k l.length)) ∧ Below w.heap.size w w' := by
 obtain ⟨A, c, rfl, hc, hm, hR, hl⟩ := h
 have HR := ϕ hR
 have HL := ϕ hl
 have HB := ϕ hB
 have HK := ϕ hk
 generalize hn : l.length = n at *
 have HN := ϕ hn
 clear hR hl hB hk hn
 go_enter func89, ntmps89
 go_wp2
 go_loopw [8] (fun i wr => ∃ j : Nat, j ≤ n ∧ i = .int .i64 j ∧ (∀ (m : Nat) y, m < j → l[m]? = some y → y ≠ k) ∧ Below w.heap.size w wr) (fun i _ => n - (intOf i).toNat)
 case atStart => exact ⟨0, Nat.zero_le _, rfl, fun m y h => by omega, Below.refl _ _⟩
 case round =>
  obtain ⟨j, hj, rfl, hne, hb⟩ := hrel
  have HNE := ϕ hne
  have HW := ϕ hb
  clear hne hb
  by_cases hlt : j < n
  · have hd : decide (j < n) = true := by simp; exact hlt
    have hik : (j : Int) < n := by omega
    have hik0 : (0 : Int) ≤ j := by omega
    obtain ⟨x, hx⟩ : ∃ x, l[j]? = some x := ⟨_, List.getElem?_eq_getElem (by rw [HN.out]; exact hlt)⟩
    have HX := ϕ hx
    have hxl := HL.out x (List.mem_of_getElem? hx)
    have HXL := ϕ hxl
    have hp : 0 < (cells l).length := by rw [jz_ l HL.out, HN.out]; omega
    obtain ⟨b, o, rfl, hbl, hcell⟩ := HR.out.place hp
    have HC := ϕ (show ∀ i v, (bytesV x)[i]? = some v → wr.cell? ⟨b, (o + j * 32) + i, none⟩ = some v from fun i v hv => by
     have := hcell (j * 32 + i) v (cells_at HL.out hx i v (by unfold bytesV at hv; rw [List.getElem?_toArray] at hv; exact hv))
     rw [← Nat.add_assoc] at this
     exact (HW.out.cell (p := ⟨b, o + j * 32 + i, none⟩) hbl).trans this)
    have HVX := ϕ (show (bytesV x).size = 32 by rw [qa_, hxl])
    have HS := ϕ (Same_any wr x k hxl HK.out kb (HB.out.below HW.out HB.out.lt))
    clear hxl hp hcell hx
    by_cases he : x = k
    · have hxk : (x == k) = true := by rw [he]; exact beq_self_eq_true k
      rw [hxk] at HS
      have HI := ϕ (show idxR l k n = j by unfold idxR; rw [idx_at HX.out he HNE.out, if_pos hlt])
      clear he hxk
      go_wp2_with (first
       | (refine qi_ rfl 22 _ rfl b (o + j * 32) rfl (bytesV x) _ HC.out underlying22 rfl (by rw [HVX.out]; kernel_rfl) ?_; skip)
       | (go_at_call 52; refine HS.out.mono ?_; rintro e ws ⟨rfl, hs⟩; have HS1 := ϕ hs; clear hs))
      go_ret
      exact ⟨by rw [HI.out]; rfl, HW.out.trans (HS1.out.mono HW.out.size)⟩
    · have hxk : (x == k) = false := by rw [beq_eq_false_iff_ne]; exact he
      rw [hxk] at HS
      have HNE2 := ϕ (show ∀ (m : Nat) y, m < j + 1 → l[m]? = some y → y ≠ k from fun m y hm hy => by
       by_cases e : m = j
       · subst e; rw [HX.out] at hy; cases hy; exact he
       · exact HNE.out m y (by omega) hy)
      clear he hxk
      go_wp2_with (first
       | (refine qi_ rfl 22 _ rfl b (o + j * 32) rfl (bytesV x) _ HC.out underlying22 rfl (by rw [HVX.out]; kernel_rfl) ?_; skip)
       | (go_at_call 52; refine HS.out.mono ?_; rintro e ws ⟨rfl, hs⟩; have HS1 := ϕ hs; clear hs))
      go_roundw
      case rel =>
       first
        | exact ⟨j + 1, by omega, by go_num, HNE2.out, HW.out.trans (HS1.out.mono HW.out.size)⟩
        | ((repeat apply Exists.intro); refine ⟨?_, rfl⟩; exact ⟨j + 1, by omega, by go_num, HNE2.out, HW.out.trans (HS1.out.mono HW.out.size)⟩)
      case measure => (first | (simp [intOf]; done) | (simp [intOf]; omega))
  · obtain rfl : j = n := by omega
    have hd : decide (j < j) = false := by simp
    have HI := ϕ (show idxR l k j = -1 by unfold idxR; rw [idx_none (fun m y hy => HNE.out m y (by rw [← HN.out]; exact (List.getElem?_eq_some_iff.1 hy).1) hy), HN.out, if_neg (by omega)])
    go_wp2
    go_ret
    exact ⟨by rw [HI.out]; rfl, HW.out⟩
theorem zeroK (w : World) : (zeroValue 22).run prog w = .ok (.agg #[.int .u8 0, .int .u8 0, .int .u8 0, .int .u8 0, .int .u8 0, .int .u8 0, .int .u8 0, .int .u8 0, .int .u8 0, .int .u8 0, .int .u8 0, .int .u8 0, .int .u8 0, .int .u8 0, .int .u8 0, .int .u8 0, .int .u8 0, .int .u8 0, .int .u8 0, .int .u8 0, .int .u8 0, .int .u8 0, .int .u8 0, .int .u8 0, .int .u8 0, .int .u8 0, .int .u8 0, .int .u8 0, .int .u8 0, .int .u8 0, .int .u8 0, .int .u8 0]) w := by kernel_rfl
theorem run_clear32 (w : World) (ty : TypeId) (g o n c : Nat) (hn : 0 < n) (ht : w.there g o (n * 32)) :
 ∃ vs : List Value, (Builtin.clear_ #[109] ty #[.slice (some ⟨g, o, none⟩) n c]).run prog w = .ok (.tuple #[]) (w.setCells g o vs) ∧ vs.length = n * 32 := by
 have hzc : ((Value.agg z32).cells) = z32 := rfl
 have hl : (Builtin.zeroCells z32 n).toList.length = n * 32 := by simp [Builtin.zeroCells]
 have h1 : ∀ v ∈ (Builtin.zeroCells z32 n).toList, v.oneCell' = true := by
  intro v hv
  unfold Builtin.zeroCells at hv
  rw [Array.toList_map] at hv
  obtain ⟨i, _, rfl⟩ := List.mem_map.1 hv
  have hd : ∀ j : Fin 32, ((z32)[j.val]!).oneCell' = true := by decide
  exact hd ⟨i % 32, Nat.mod_lt _ (by decide)⟩
 have hst := run_storeCells_cells (P := prog) g o (Builtin.zeroCells z32 n).toList 0 w (fun j hj => by simpa using (ht j (by rw [hl] at hj; exact hj)).1) (fun j hj => by simpa using (ht j (by rw [hl] at hj; exact hj)).2) h1
 refine ⟨_, ?_, hl⟩
 simp only [Nat.add_zero] at hst
 obtain ⟨m, rfl⟩ : ∃ m, n = m + 1 := ⟨n - 1, by omega⟩
 simp [Builtin.clear_, run_underlying underlying109, zeroK, Value.cells, hst]
abbrev kept (l : List (List UInt8)) (k : List UInt8) : List (List UInt8) := l.filter fun y => decide (y ≠ k)
theorem idx_lt {l : List (List UInt8)} {k : List UInt8} (h : k ∈ l) : idx l k < l.length := by
 unfold idx
 exact List.findIdx_lt_length_of_exists ⟨k, h, beq_self_eq_true k⟩
theorem idx_kept {l : List (List UInt8)} {k : List UInt8} (h : k ∈ l) : kept (l.take (idx l k + 1)) k = l.take (idx l k) := by
 have hi := idx_lt h
 have hx : l[idx l k] = k := by
  have := List.findIdx_getElem (w := hi)
  have h2 := eq_of_beq this
  exact h2
 rw [List.take_succ_eq_append_getElem hi]
 unfold kept
 rw [List.filter_append, hx]
 have e1 : (l.take (idx l k)).filter (fun y => decide (y ≠ k)) = l.take (idx l k) := by
  rw [List.filter_eq_self]
  intro y hy
  obtain ⟨j, hj⟩ := List.mem_iff_getElem?.1 hy
  have hj2 : j < idx l k := by have := (List.getElem?_eq_some_iff.1 hj).1; rw [List.length_take] at this; omega
  rw [List.getElem?_take_of_lt hj2] at hj
  have := List.not_of_lt_findIdx (p := (· == k)) hj2
  rw [(List.getElem?_eq_some_iff.1 hj).2] at this
  simpa using this
 rw [e1]
 simp
structure DSt (l : List (List UInt8)) (k : List UInt8) (p q : Nat) (M : List (List UInt8)) : Prop where
 pq : p < q
 qn : q ≤ l.length
 len : M.length = l.length
 all : ∀ y ∈ M, y.length = 32
 front : M.take p = kept (l.take q) k
 back : M.drop q = l.drop q
theorem DSt.at_ {l : List (List UInt8)} {k : List UInt8} {p q : Nat} {M : List (List UInt8)} (h : DSt l k p q M) {x : List UInt8} (hx : l[q]? = some x) : M[q]? = some x := by
 have := congrArg (·[0]?) h.back
 simpa [hx] using this
theorem DSt.skip {l : List (List UInt8)} {k : List UInt8} {p q : Nat} {M : List (List UInt8)} (h : DSt l k p q M) {x : List UInt8} (hx : l[q]? = some x) (he : x = k) : DSt l k p (q + 1) M := by
 have hq := (List.getElem?_eq_some_iff.1 hx).1
 refine ⟨by have := h.pq; omega, hq, h.len, h.all, ?_, ?_⟩
 · rw [h.front, List.take_succ_eq_append_getElem hq, (List.getElem?_eq_some_iff.1 hx).2]
   unfold kept
   rw [List.filter_append, he]
   simp
 · have := congrArg (·.drop 1) h.back
   simpa using this
theorem DSt.move {l : List (List UInt8)} {k : List UInt8} {p q : Nat} {M : List (List UInt8)} (h : DSt l k p q M) {x : List UInt8} (hx : l[q]? = some x) (hl : x.length = 32) (he : x ≠ k) : DSt l k (p + 1) (q + 1) (M.set p x) := by
 have hq := (List.getElem?_eq_some_iff.1 hx).1
 have hp : p < M.length := by have := h.pq; have := h.len; omega
 refine ⟨by have := h.pq; omega, hq, by rw [List.length_set]; exact h.len, fun y hy => ?_, ?_, ?_⟩
 · rcases List.mem_or_eq_of_mem_set hy with h1 | h1
   · exact h.all y h1
   · rw [h1]; exact hl
 · rw [List.take_succ_eq_append_getElem (by rw [List.length_set]; exact hp), List.getElem_set_self, List.take_set_of_le (Nat.le_refl _), h.front, List.take_succ_eq_append_getElem hq, (List.getElem?_eq_some_iff.1 hx).2]
   unfold kept
   rw [List.filter_append]
   simp [he]
 · rw [List.drop_set_of_lt (by have := h.pq; omega)]
   have := congrArg (·.drop 1) h.back
   simpa using this
theorem blk_kept {w w' : World} {b g T : Nat} {cs : Array Value} (h : Rg.Blk w b T cs) (hg : w.grownBy w' (some g)) (hn : b ≠ g) : Rg.Blk w' b T cs := by
 unfold Rg.Blk at *
 rw [hg.block b (Array.getElem?_eq_some_iff.1 h).1 (fun e => hn (Option.some.inj e))]
 exact h
theorem grown_then {a b c : World} {g : Nat} (h : a.grownBy b (some g)) (hb : Below b.heap.size b c) : a.grownBy c (some g) :=
 ⟨hb.os.trans h.os, hb.tape.trans h.tape, hb.output.trans h.output, Nat.le_trans h.size hb.size, fun k hk hne => (hb.block k (Nat.lt_of_lt_of_le hk h.size)).trans (h.block k hk hne)⟩
theorem grown_set2 {a b : World} {g : Nat} (h : a.grownBy b (some g)) (o : Nat) (vs : List Value) : a.grownBy (b.setCells g o vs) (some g) :=
 have k := grown_setCells g vs o b
 ⟨k.os.trans h.os, k.tape.trans h.tape, k.output.trans h.output, Nat.le_trans h.size k.size, fun i hi hne => (k.block i (Nat.lt_of_lt_of_le hi h.size) hne).trans (h.block i hi hne)⟩
theorem Delete_any (w : World) (g c n : Nat) (l : List (List UInt8)) (h : KR w g l) (hks : KS w (.slice (some ⟨g, 0, none⟩) n c) l) (hn : l.length = n) (hz : n ≤ 1000000) (hc : n ≤ c) (hcm : c ≤ maxLen) (hl : ∀ x ∈ l, x.length = 32) (hgl : g < w.heap.size) (k : List UInt8) (hk : k.length = 32) (hkm : k ∈ l) (kb : Nat) (hB : Rg.Blk w kb 22 (bytesV k)) (hne : kb ≠ g) :
 Calls prog 50 #[.slice (some ⟨g, 0, none⟩) n c, .func (.func 52) #[] #[.pointer (some ⟨kb, 0, none⟩)]] w fun e w' => ∃ p, p = (kept l k).length ∧ e = .returned (.slice (some ⟨g, 0, none⟩) p c) ∧ w'.rangeAt g 0 (cells (kept l k)) ∧ w.grownBy w' (some g) := by
 obtain ⟨i0, hi0⟩ : ∃ i, idx l k = i := exr
 have hlt := idx_lt hkm
 rw [hi0, hn] at hlt
 have HIX := ϕ (show Calls prog 89 #[.slice (some ⟨g, 0, none⟩) n c, .func (.func 52) #[] #[.pointer (some ⟨kb, 0, none⟩)]] w fun e w' => e = .returned (.int .i64 (i0 : Int)) ∧ Below w.heap.size w w' by
  have := Index_any w _ l hks (by omega) k hk kb hB
  have e : idxR l k l.length = (i0 : Int) := by unfold idxR; rw [hi0, if_pos (by omega)]
  rw [e] at this; exact this)
 have HD0 := ϕ (show DSt l k i0 (i0 + 1) l from ⟨by omega, by omega, rfl, hl, by have := idx_kept hkm; rw [hi0] at this; exact this.symm, rfl⟩)
 have HKR := ϕ h
 have HN := ϕ hn
 have HL := ϕ hl
 have HB := ϕ hB
 have HK := ϕ hk
 have HNE := ϕ hne
 have HGL := ϕ hgl
 have hm1 : ((i0 : Int) == -1) = false := by rw [beq_eq_false_iff_ne]; omega
 have hm2 : ¬ (i0 : Int) = -1 := by omega
 clear h hks hn hl hk hkm hB hne hi0 hgl
 go_enter func50, ntmps50
 go_wp2_with (go_at_call 89; refine HIX.out.mono ?_; rintro e w1 ⟨rfl, hb⟩; have HB1 := ϕ hb; clear hb)
 go_loopw [5, 6] (fun i j wr => ∃ (p q : Nat) (M : List (List UInt8)), i = .int .i64 p ∧ j = .int .i64 q ∧ DSt l k p q M ∧ KR wr g M ∧ w.grownBy wr (some g)) (fun _ j _ => n - (intOf j).toNat)
 case atStart => exact ⟨i0, i0 + 1, l, rfl, by go_num, HD0.out, HKR.out.below HB1.out, ⟨HB1.out.os, HB1.out.tape, HB1.out.output, HB1.out.size, fun k hk _ => HB1.out.block k hk⟩⟩
 case round =>
  obtain ⟨p, q, M, rfl, rfl, hd, hkr, hgr⟩ := hrel
  have HD := ϕ hd
  have HR := ϕ hkr
  have HG := ϕ hgr
  have hpq := hd.pq
  have hqn := hd.qn
  rw [HN.out] at hqn
  clear hd hkr hgr
  by_cases hlt2 : q < n
  · have hdd : decide (q < n) = true := by simp; exact hlt2
    have hik : (q : Int) < n := by omega
    have hik0 : (0 : Int) ≤ q := by omega
    have hip : (p : Int) < n := by omega
    have hip0 : (0 : Int) ≤ p := by omega
    obtain ⟨x, hx⟩ : ∃ x, l[q]? = some x := ⟨_, List.getElem?_eq_getElem (by rw [HN.out]; exact hlt2)⟩
    have hxl := HL.out x (List.mem_of_getElem? hx)
    have HX := ϕ hx
    have HXL := ϕ hxl
    have HVX := ϕ (show (bytesV x).size = 32 by rw [qa_, hxl])
    have HC := ϕ (show ∀ i v, (bytesV x)[i]? = some v → wr.cell? ⟨g, q * 32 + i, none⟩ = some v from fun i v hv => HR.out.at_ HD.out.all (HD.out.at_ hx) i v (by unfold bytesV at hv; rw [List.getElem?_toArray] at hv; exact hv))
    have HBW := ϕ (blk_kept HB.out HG.out HNE.out)
    clear hx hxl
    go_upto_region 8 with (first
     | (refine qi_ rfl 22 _ rfl g (q * 32) rfl (bytesV x) _ HC.out underlying22 rfl (by rw [HVX.out]; kernel_rfl) ?_; skip)
     | (refine Rg.qf_ rfl 22 _ _ rfl (bytesV x) _ 22 rfl rfl (by rw [HVX.out]; kernel_rfl) (by rw [HVX.out]; rfl) (qn_ _) ?_; intro X hX hbX; have HXX := ϕ hX; have HBX := ϕ hbX; clear hX hbX))
    have HBK := ϕ (HBW.out.below HBX.out HBW.out.lt)
    have HS := ϕ (Same_any X x k HXL.out HK.out kb HBK.out)
    have HGX := ϕ (grown_then HG.out HBX.out)
    by_cases he : x = k
    · have hxk : (x == k) = true := by rw [he]; exact beq_self_eq_true k
      rw [hxk] at HS
      have HD2 := ϕ (HD.out.skip HX.out he)
      clear he hxk
      go_wp2_with (first
       | (refine qi_ rfl 22 _ rfl wr.heap.size 0 rfl (bytesV x) _ (Bytes.of_blk HXX.out).cells underlying22 rfl (by rw [HVX.out]; kernel_rfl) ?_; skip)
       | (go_at_call 52; refine HS.out.mono ?_; rintro e ws ⟨rfl, hs⟩; have HS1 := ϕ hs; clear hs))
      have HKS := ϕ ((HR.out.below HBX.out).below HS1.out)
      have HGS := ϕ (grown_then HGX.out HS1.out)
      go_roundw
      case rel =>
       first
        | exact ⟨p, q + 1, M, rfl, by go_num, HD2.out, HKS.out, HGS.out⟩
        | ((repeat apply Exists.intro); refine ⟨?_, rfl⟩; exact ⟨p, q + 1, M, rfl, by go_num, HD2.out, HKS.out, HGS.out⟩)
      case measure => (first | (simp [intOf]; done) | (simp [intOf]; omega))
    · have hxk : (x == k) = false := by rw [beq_eq_false_iff_ne]; exact he
      rw [hxk] at HS
      have HD2 := ϕ (HD.out.move HX.out HXL.out he)
      clear he hxk
      have tok := trivial
      go_wp2_with (first
       | (have _t := tok; refine qi_ rfl 22 _ rfl wr.heap.size 0 rfl (bytesV x) _ (Bytes.of_blk HXX.out).cells underlying22 rfl (by rw [HVX.out]; kernel_rfl) ?_; clear _t tok)
       | (go_at_call 52; refine HS.out.mono ?_; rintro e ws ⟨rfl, hs⟩; have HS1 := ϕ hs; have HXS := ϕ (HXX.out.below hs HXX.out.lt); have HKS := ϕ ((HR.out.below HBX.out).below hs); have HGS := ϕ (grown_then HGX.out hs); have tok2 := trivial; clear hs)
       | (have _t := tok2; refine qi_ rfl 22 _ rfl wr.heap.size 0 rfl (bytesV x) _ (Bytes.of_blk HXS.out).cells underlying22 rfl (by rw [HVX.out]; kernel_rfl) ?_; clear _t tok2)
       | (refine wpList_store_mid rfl 22 _ _ rfl g (p * 32) (bytesV x) rfl rfl (fun j hj => by have := HKS.out.2 (p * 32 + j) (by rw [HVX.out] at hj; have := HD.out.len; have := HN.out; omega); rw [Nat.zero_add] at this; exact this) (by rw [HVX.out]; kernel_rfl) (qn_ _) ?_; skip))
      have e1 : (bytesV x).toList = bv x := by unfold bytesV bv; rfl
      have HKF := ϕ (show KR (ws.setCells g (p * 32) (bytesV x).toList) g (M.set p x) by rw [e1]; exact HKS.out.set HD.out.all (by have := HD.out.len; have := HN.out; omega) HXL.out)
      have HGF := ϕ (grown_set2 HGS.out (p * 32) (bytesV x).toList)
      clear e1
      go_roundw
      case rel =>
       first
        | exact ⟨p + 1, q + 1, M.set p x, by go_num, by go_num, HD2.out, HKF.out, HGF.out⟩
        | ((repeat apply Exists.intro); refine ⟨?_, rfl⟩; exact ⟨p + 1, q + 1, M.set p x, by go_num, by go_num, HD2.out, HKF.out, HGF.out⟩)
      case measure => (first | (simp [intOf]; done) | (simp [intOf]; omega))
  · obtain rfl : q = n := by omega
    have hdd : decide (q < q) = false := by simp
    have hMl := HD.out.len
    obtain ⟨vs, hcl, hvl⟩ := run_clear32 wr 0 g (p * 32) (q - p) (c - p) (by omega) (fun j hj => by have := HR.out.2 (p * 32 + j) (by have := HN.out; omega); rw [Nat.zero_add] at this; exact this)
    have HVL := ϕ hvl
    have HML := ϕ hMl
    have hip : (p : Int) ≤ q := by omega
    have hip1 : (p : Int) ≤ c := by omega
    have hip0 : (0 : Int) ≤ p := by omega
    have hpc : ¬ p = c := by omega
    clear hvl hMl
    go_wp2
    go_ret
    have hfr := HD.out.front
    rw [show l.take q = l from List.take_of_length_le (by rw [HN.out]; exact Nat.le_refl _)] at hfr
    have hpl : p = (kept l k).length := by rw [← hfr, List.length_take]; have := HML.out; have := HN.out; omega
    refine ⟨p, hpl, rfl, ?_, grown_set2 HG.out _ _⟩
    have hR := HR.out.1
    rw [← List.take_append_drop p M, je_] at hR
    have h1 := (zb_.1 hR).1
    rw [hfr] at h1
    exact World.rangeAt_setCells_apart h1 _ _ _ (.inr (.inl (by rw [jz_ _ (fun y hy => HL.out y (List.mem_filter.1 hy).1), ← hpl]; omega)))
theorem keysOf_other {L : List Pr} (hg : Good L) {k t x : List UInt8} (h : whoOf L k = some t) (hx : x ≠ t) : keysOf (delP L k) x = keysOf L x := by
 rw [keysOf_del, List.filter_eq_self]
 intro y hy
 simp only [decide_eq_true_eq, ne_eq]
 rintro rfl
 unfold keysOf at hy
 obtain ⟨p, hp, e⟩ := List.mem_map.1 hy
 obtain ⟨hp1, hp2⟩ := List.mem_filter.1 hp
 have hq := whoOf_mem h
 have hpe : p.1 = x := of_decide_eq_true hp2
 have : p = (t, y) := inj_of_nodup hg.nd p hp1 _ hq e
 rw [this] at hpe
 exact hx hpe.symm
theorem keysOf_mem {L : List Pr} {k t : List UInt8} (h : whoOf L k = some t) : k ∈ keysOf L t :=
 List.mem_map.2 ⟨(t, k), List.mem_filter.2 ⟨whoOf_mem h, decide_eq_true rfl⟩, rfl⟩
theorem of_del {w Y : World} {bo N : Nat} {L : List Pr} (hg : Good L) {f : Lit → Option Value} {t k : List UInt8} {v : Value} (hw : whoOf L k = some t) (hf : RMap prog w 9 bo N f (tens L).length) (hfx : OfSpec w L f) (hY : RMap prog Y 9 bo (N + 1) (upd f (.string t) (some v)) (if (f (.string t)).isSome then (tens L).length else (tens L).length + 1)) (hgr : w.grownBy Y (some bo)) (hne : keysOf (delP L k) t ≠ []) (hk : KS w v (keysOf (delP L k) t)) :
 ∃ f', RMap prog Y 9 bo (N + 1) f' (tens (delP L k)).length ∧ OfSpec Y (delP L k) f' := by
 have ht : (f (.string t)).isSome = true := by
  rcases hfx t with ⟨h1, _⟩ | ⟨_, v', h2, _⟩
  · have := keysOf_mem hw
    rw [h1] at this
    cases this
  · rw [h2]; rfl
 rw [ht, if_pos rfl] at hY
 have hs := tens_del hg hw
 rw [if_neg hne] at hs
 rw [← hs] at hY
 refine ⟨_, hY, fun x => ?_⟩
 by_cases hx : x = t
 · subst hx
   rw [upd_same]
   exact .inr ⟨hne, v, rfl, hk.map hgr (isMap hf)⟩
 · rw [keysOf_other hg hw hx, jx_ f _ (fun e => hx (by injection e))]
   exact hfx.map hgr (isMap hf) x
theorem of_gone {w Y Z : World} {bo N : Nat} {L : List Pr} (hg : Good L) {f : Lit → Option Value} {t k : List UInt8} {v : Value} (hw : whoOf L k = some t) (hf : RMap prog w 9 bo N f (tens L).length) (hfx : OfSpec w L f) (hY : RMap prog Y 9 bo (N + 1) (upd f (.string t) (some v)) (if (f (.string t)).isSome then (tens L).length else (tens L).length + 1)) (hgr : w.grownBy Y (some bo)) (hne : keysOf (delP L k) t = [])
 (hZ : RMap prog Z 9 bo (N + 1) (upd (upd f (.string t) (some v)) (.string t) none) (if (upd f (.string t) (some v) (.string t)).isSome then (if (f (.string t)).isSome then (tens L).length else (tens L).length + 1) - 1 else (if (f (.string t)).isSome then (tens L).length else (tens L).length + 1))) (hgz : Y.grownBy Z (some bo)) :
 ∃ f', RMap prog Z 9 bo (N + 1) f' (tens (delP L k)).length ∧ OfSpec Z (delP L k) f' := by
 have ht : (f (.string t)).isSome = true := by
  rcases hfx t with ⟨h1, _⟩ | ⟨_, v', h2, _⟩
  · have := keysOf_mem hw
    rw [h1] at this
    cases this
  · rw [h2]; rfl
 have hu : (upd f (.string t) (some v) (.string t)).isSome = true := by rw [upd_same]; rfl
 rw [hu, if_pos rfl, ht, if_pos rfl] at hZ
 have hs := tens_del hg hw
 rw [if_pos hne] at hs
 rw [← hs] at hZ
 refine ⟨_, hZ, fun x => ?_⟩
 by_cases hx : x = t
 · subst hx
   rw [upd_same]
   exact .inl ⟨hne, rfl⟩
 · rw [keysOf_other hg hw hx, jx_ _ _ (fun e => hx (by injection e)), jx_ f _ (fun e => hx (by injection e))]
   have h1 := hfx.map hgr (isMap hf)
   exact h1.map hgz (isMap hY) x
theorem mapDelete_op {P : Program} {o : Oper} {a : Act} {w : World} {Kc : Act → World → Prop} {Q : Exit → Act → World → Prop} (m x : Operand) (t k : TypeId) (hop : o.op = Op.call { callee := Callee.builtin Builtin.delete, args := #[m, x], argTypes := #[t, k] }) (e : TypeId) (K : Keyed P k) (ht : P.underlying t = some (.map k e)) (b n s : Nat) (f : Lit → Option Value)
 (hm : a.eval m = .map (some b)) (h : RMap P w k b n f s) (key : Value) (kl : Lit) (hx : a.eval x = key) (hkey : keyOf P k key = some kl)
 (hK : ∀ w', RMap P w' k b n (upd f kl none) (if (f kl).isSome then s - 1 else s) → w.grownBy w' (some b) → Kc (a.put o.dst (.tuple #[])) w') : Oper.wp P o a w Kc Q := by
 obtain ⟨w', hrun, r1, r2⟩ := h.drop K ht hkey o.type
 unfold Oper.wp
 simp [execOp, hop, resolve, invoke, builtin, hm, hx, hrun, Result.andThen]
 exact hK _ r1 r2
theorem OfSpec.only {w w' : World} {L : List Pr} {f : Lit → Option Value} {b : Nat} (h : OfSpec w L f) (hu : Only w b w') (hm : ∃ es clock, w.heap[b]? = some (.map es clock)) : OfSpec w' L f := h.map (Sp.Upd.grown1 hu) hm
theorem Revoke_none (w : World) (sb bo bw T M N : Nat) (L : List Pr) (h : IsSt w sb bo bw T M N L) (k : List UInt8) (hk : k.length = 32) (a : Nat → Addr) (hE : Ei.ErrsA w a) (hw : whoOf L k = none) :
 Calls prog 19 #[.pointer (some ⟨sb, 0, none⟩), .agg (Cv.bytesV k)] w fun e w' => e = .returned (.tuple #[.string ⟨#[]⟩, .iface 271 (.pointer (some (a 8)))]) ∧ Below w.heap.size w w' := by
 have HC := ϕ (fun W (hW : Below w.heap.size w W) => Lookup_none W sb bo bw T M N L (h.below hW) k hk a (hE.below hW) hw)
 have HV := ϕ (show (Cv.bytesV k).size = 32 by rw [Cv.qa_, hk])
 clear h hk hE hw
 go_enter func19, ntmps19
 go_wp2_with (first
  | (refine Rg.qh_ rfl 22 _ rfl (Cv.bytesV k) rfl ?_; intro X hX hbX hnX; have HX := ϕ hX; have HBX := ϕ hbX; clear hX hbX hnX)
  | (refine Cv.qi_ rfl 22 _ rfl w.heap.size 0 rfl (Cv.bytesV k) _ (Cv.Bytes.of_blk HX.out).cells underlying22 rfl (by rw [HV.out]; kernel_rfl) ?_; skip)
  | (go_at_call 49; refine (HC.out _ HBX.out).mono ?_; rintro e w1 ⟨rfl, hb⟩; have HB1 := ϕ (HBX.out.trans (Below.mono hb HBX.out.size)); clear hb))
 go_ret2
 exact ⟨rfl, HB1.out⟩
theorem own_form {w : World} {B n : Nat} {v : Value} {l : List (List UInt8)} (h : w.ownsRow B 22 32 v n (cells l)) (hl : l ≠ []) (hlen : n = l.length := by rfl) :
 ∃ g n2 c, v = .slice (some ⟨g, 0, none⟩) n2 c ∧ l.length = n2 ∧ n2 ≤ c ∧ c ≤ maxLen ∧ B ≤ g ∧ g < w.heap.size := by
 rcases h.2 with ⟨hv, hn⟩ | ⟨g, cap, cur, hv, hB, hg, hc, hm, _⟩
 · subst hlen
   exact absurd (List.eq_nil_of_length_eq_zero hn) hl
 · exact ⟨g, n, cap, hv, hlen.symm, hc, hm, hB, (Array.getElem?_eq_some_iff.1 hg).1⟩
theorem keysOf_len {L : List Pr} (h : Good L) (t : List UInt8) : ∀ x ∈ keysOf L t, x.length = 32 := fun x hx => by
 obtain ⟨p, hp, rfl⟩ := List.mem_map.1 hx
 exact h.key p (List.mem_filter.1 hp).1
theorem Revoke_some (w : World) (sb bo bw T M N : Nat) (L : List Pr) (h : IsSt w sb bo bw T M N L) (k : List UInt8) (hk : k.length = 32) (t : List UInt8) (hw : whoOf L k = some t) (hN : N ≤ 1000) (hM : (keysOf L t).length ≤ 1000) (ht : t.length ≤ 1000) (bl : Bool) (hbl : decide (keysOf (delP L k) t = []) = bl) :
 Calls prog 19 #[.pointer (some ⟨sb, 0, none⟩), .agg (Cv.bytesV k)] w fun e w' => e = .returned (.tuple #[.string (strB t), .nilIface]) ∧ IsSt w' sb bo bw T M (N + 1) (delP L k) ∧ Sp.Upd w w' [bo, bw] := by
 have HS := ϕ h
 have HK := ϕ hk
 have HW := ϕ hw
 have HNN := ϕ hN
 have HML := ϕ hM
 have HTL := ϕ ht
 have HC := ϕ (fun W (hW : Below w.heap.size w W) => Lookup_some W sb bo bw T M N L (h.below hW) k hk t hw)
 have HV := ϕ (show (Cv.bytesV k).size = 32 by rw [Cv.qa_, hk])
 have HBW := ϕ (show bw < w.heap.size by obtain ⟨_, _, _, _, ⟨g, s, hg, _⟩⟩ := h; exact hg.lt)
 have HNO := ϕ (show sb ≠ bo by obtain ⟨h1, _, _, ⟨f, hf, _⟩, _⟩ := h; exact hf.ne h1)
 have HNW := ϕ (show sb ≠ bw by obtain ⟨h1, _, _, _, ⟨g, s, hg, _⟩⟩ := h; exact hg.ne h1)
 have HOW := ϕ h.2.1
 have HGD := ϕ h.2.2.1
 clear h hk hw hN hM ht
 go_enter func19, ntmps19
 go_upto_region 1 with (refine Rg.qh_ rfl 22 _ rfl (Cv.bytesV k) rfl ?_; intro X hX hbX hnX; have HX := ϕ hX; have HBX := ϕ hbX; clear hX hbX hnX)
 go_upto_region 4 with (first
  | (refine Cv.qi_ rfl 22 _ rfl w.heap.size 0 rfl (Cv.bytesV k) _ (Cv.Bytes.of_blk HX.out).cells underlying22 rfl (by rw [HV.out]; kernel_rfl) ?_; skip)
  | (go_at_call 49; refine (HC.out _ HBX.out).mono ?_; rintro e Z ⟨rfl, hb⟩; have HBZ := ϕ (HBX.out.trans (Below.mono hb HBX.out.size)); have HXZ := ϕ (HX.out.below hb HX.out.lt); clear hb))
 have HSZ := ϕ (HS.out.below HBZ.out)
 obtain ⟨_, _, _, ⟨f, hf, hfx⟩, ⟨g, s, hg, hgx⟩⟩ := HSZ.out
 have HF := ϕ hf
 have HFX := ϕ (show OfSpec Z L f from hfx)
 have HG := ϕ hg
 have HGX := ϕ hgx
 clear hf hfx hg hgx
 refine RL.start (Only Z bw) (by kernel_rfl) ((Only.refl Z bw).drew) ?_
 refine RL.tu 0 ?_; go_frame
 refine RL.tu 1 ?_; go_frame
 refine RL.tu 2 ?_; go_frame
 refine' RL.tv 3 ?hk4 ?_
 case hk4 => (intro W hSW; have c3 := (hSW.blk HSZ.out.1 HNW.out).cell 3 (v := .map (some bw)) rfl; go_simp; try with_reducible rfl)
 try go_frame
 refine RL.tw 4 (v := .agg (Cv.bytesV k)) rfl (fun W hSW => RT.qy_ 22 _ rfl _ rfl _ _ (hSW.blk HXZ.out (by have := HBW.out; omega)) underlying22 rfl (by rw [HV.out]; kernel_rfl)) ?_
 try go_frame
 refine RL.sk 5 (fun wk hlwk hswk K hK => ?_)
 have HWK := ϕ (show Below Z.heap.size Z wk from (Below.drew (Below.refl _ _)).trans hlwk)
 refine mapDelete_op _ _ 106 22 rfl 154 keyed_key underlying106 bw N s g rfl (HG.out.below HWK.out HG.out.lt) (.agg (Cv.bytesV k)) _ rfl (key32 k HK.out) ?_
 intro Y hY hgY
 have HY := ϕ hY; have HGY := ϕ hgY
 refine hK.out _ _ (Only.grown hswk hgY (fun j hj => .inl (by cases hj; rfl))) ?_
 clear hK hY hgY
 try go_frame
 refine RL.done (by kernel_rfl) (fun wd hlwd hswd => ?_)
 have HWY := ϕ (HY.out.below hlwd HY.out.lt)
 have HU := ϕ (show Only Z bw wd from hswd)
 clear hlwd hswd
 have HBZW := ϕ (show ∃ es clock, Z.heap[bw]? = some (.map es clock) from isMap HG.out)
 have HST := ϕ (HU.out.blk HSZ.out.1 HNW.out)
 have HXD := ϕ (HU.out.blk HXZ.out (by have := HBW.out; omega))
 have HFD := ϕ (HF.out.keep (HU.out.block bo HF.out.lt (by simpa using HOW.out)))
 have HFXD := ϕ (HFX.out.only HU.out HBZW.out)
 have HTB := ϕ (show (strB t).size ≤ maxLen by have := HTL.out; unfold strB maxLen; show t.toArray.size ≤ _; rw [List.size_toArray]; omega)
 obtain ⟨v, hv, hks⟩ : ∃ v, f (.string t) = some v ∧ KS wd v (keysOf L t) := by
  rcases HFXD.out t with ⟨h1, _⟩ | ⟨_, v, h2, h3⟩
  · have := keysOf_mem HW.out
    rw [h1] at this
    cases this
  · exact ⟨v, h2, h3⟩
 have HKS := ϕ hks
 have HFT := ϕ hv
 have HL1 := ϕ (show ∀ W, Below wd.heap.size wd W → (Instr.lookup 105 (.map (some bo)) (.string (strB t)) false).run prog W = .ok v W from fun W hW => by
  have := (HFD.out.below hW HFD.out.lt).look keyed_str underlying105 (show (zeroValue 109).run prog W = .ok (.slice none 0 0) W by kernel_rfl) (key_str underlying9 (strB t) HTB.out)
  rw [show f (.string (strB t).data.toList) = some v from hv] at this
  exact this)
 have HCL := ϕ (fun W (hW : Below wd.heap.size wd W) => Clone_any W v (keysOf L t) (hks.below hW) (by have := HML.out; omega))
 clear hks hv
 have c2 := HST.out.cell 2 (v := .map (some bo)) rfl
 have hl1 := HL1.out wd (Below.refl _ _)
 go_upto_region 6 with (first
  | (go_at_call 51; refine (HCL.out _ (Below.refl _ _)).mono ?_; rintro e w2 ⟨v2, rfl, ho, hb2⟩; have HO := ϕ ho; have HB2 := ϕ hb2; clear ho hb2)
  | (go_at_call 50; obtain ⟨gb, n2, cp, hv2, hn2, hc2, hm2, hgb⟩ := own_form HO.out (List.ne_nil_of_mem (keysOf_mem HW.out)); subst hv2; refine (Delete_any w2 gb cp n2 (keysOf L t) (KR.own (by rw [hn2] at HO; exact HO.out) hn2) (by have := KS.own HO.out (keysOf_len HGD.out t); exact this) hn2 (by have := HML.out; omega) hc2 hm2 (keysOf_len HGD.out t) hgb.2 k HK.out (keysOf_mem HW.out) w.heap.size (HXD.out.below HB2.out HXD.out.lt) (by have := HXD.out.lt; have := hgb.1; omega)).mono ?_; rintro e w3 ⟨p, hp, rfl, hra, hgr⟩; have HRA := ϕ hra; have HP := ϕ hp; have HGB := ϕ hgb; have HC2 := ϕ hc2; have HM2 := ϕ hm2; have HB3 := ϕ (show Below wd.heap.size wd w3 from HB2.out.grown hgr HB2.out.size (fun j hj => by cases hj; exact hgb.1)); have HN2 := ϕ hn2; have HGR := ϕ hgr; clear hra hp hgb hc2 hm2 hgr))
 have HPL := ϕ (show p = (keysOf (delP L k) t).length by rw [HP.out, keysOf_del])
 have HKV := ϕ (show KS w3 (.slice (some ⟨gb, 0, none⟩) p cp) (keysOf (delP L k) t) by
  refine ⟨some ⟨gb, 0, none⟩, cp, by rw [HPL.out], ?_, HM2.out, ?_, keysOf_len (HGD.out.del k) t⟩
  · have h1 : (keysOf (delP L k) t).length ≤ (keysOf L t).length := by rw [keysOf_del]; exact List.length_filter_le _ _
    have := HC2.out; have := HN2.out; omega
  · intro j x hx
    refine ⟨gb, 0, rfl, Nat.lt_of_lt_of_le HGB.out.2 HGR.out.size, ?_⟩
    rw [keysOf_del] at hx
    exact HRA.out j x hx)
 have HST3 := ϕ (HST.out.below HB3.out HST.out.lt)
 have HF3 := ϕ (HFD.out.below HB3.out HFD.out.lt)
 have HFX3 := ϕ (HFXD.out.below HB3.out)
 have HW3 := ϕ (HWY.out.below HB3.out HWY.out.lt)
 have HUZ := ϕ (show Sp.Upd w w3 [bw] from Sp.Upd.trans (Sp.Upd.trans (Sp.Upd.trans (Sp.Upd.refl w [bw]) (Sp.Upd.of_below HBZ.out) (by simp)) HU.out (fun x hx => .inl hx)) (Sp.Upd.of_below HB3.out) (by simp))
 clear c2 hl1
 have d2 := HST3.out.cell 2 (v := .map (some bo)) rfl
 go_upto_region 7 with (refine Mp.store_op rfl _ _ _ 105 rfl 9 109 keyed_str underlying105 bo N _ f rfl HF3.out (by have := HNN.out; unfold maxLen; omega) (.string (strB t)) (.slice (some ⟨gb, 0, none⟩) p cp) _ rfl rfl (key_str underlying9 (strB t) HTB.out) ?_; intro V hV hgV; have HV1 := ϕ hV; have HGV := ϕ hgV; clear hV hgV)
 have HWV := ϕ (HW3.out.keep (HGV.out.block bw HW3.out.lt (fun e => HOW.out (Option.some.inj e).symm)))
 have HSV := ϕ (blk_kept HST3.out HGV.out HNO.out)
 have HUV := ϕ (show Sp.Upd w V [bo, bw] from Sp.Upd.trans (Sp.Upd.trans (Sp.Upd.refl w [bo, bw]) HUZ.out (fun x hx => .inl (by simp at hx; simp [hx]))) (Sp.Upd.of_grown1 HGV.out) (fun x hx => .inl (by simp at hx; simp [hx])))
 clear d2
 have hwho : ∀ x, upd g (.string k) none (.string x) = (whoOf (delP L k) x).map fun t => Value.agg #[.string (strB t)] := fun x => by
  rw [whoOf_del]
  by_cases hx : x = k
  · subst hx
    rw [if_pos rfl, upd_same]; rfl
  · rw [if_neg hx, jx_ g _ (fun e => hx (by injection e))]
    exact HGX.out x
 have HWHO := ϕ hwho
 clear hwho
 cases bl with
 | true =>
  have he := of_decide_eq_true hbl
  have HE := ϕ he
  have hp0 : p = 0 := by rw [HPL.out, he]; rfl
  clear he
  subst hp0
  have e2 := HSV.out.cell 2 (v := .map (some bo)) rfl
  go_upto_region 9 with (refine Mp.delete_op rfl _ _ 105 9 rfl 109 keyed_str underlying105 bo (N + 1) _ _ rfl HV1.out (.string (strB t)) _ rfl (key_str underlying9 (strB t) HTB.out) ?_; intro Y2 hY2 hgY2; have HY2 := ϕ hY2; have HGY2 := ϕ hgY2; clear hY2 hgY2)
  clear e2
  go_wp2
  go_ret2
  obtain ⟨f2, hf2, hfx2⟩ := of_gone HGD.out HW.out HF3.out HFX3.out HV1.out HGV.out HE.out HY2.out HGY2.out
  refine ⟨rfl, ⟨blk_kept HSV.out HGY2.out HNO.out, HOW.out, HGD.out.del k, ⟨f2, hf2, hfx2⟩, ⟨_, _, (HWV.out.keep (HGY2.out.block bw HWV.out.lt (fun e => HOW.out (Option.some.inj e).symm))).mono (Nat.le_succ N), HWHO.out⟩⟩, ?_⟩
  exact Sp.Upd.trans HUV.out (Sp.Upd.of_grown1 HGY2.out) (fun x hx => .inl (by simp at hx; simp [hx]))
 | false =>
  have he := of_decide_eq_false hbl
  have HE := ϕ he
  have hp0 : ¬ p = 0 := by rw [HPL.out]; exact fun e => he (List.eq_nil_of_length_eq_zero e)
  clear he
  go_wp2
  go_ret2
  obtain ⟨f2, hf2, hfx2⟩ := of_del HGD.out HW.out HF3.out HFX3.out HV1.out HGV.out HE.out HKV.out
  exact ⟨rfl, ⟨HSV.out, HOW.out, HGD.out.del k, ⟨f2, hf2, hfx2⟩, ⟨_, _, HWV.out.mono (Nat.le_succ N), HWHO.out⟩⟩, HUV.out⟩
end Go.Proofs.YtciibogkfbicfaaGreatDoor.St
namespace Go.Proofs.YtciibogkfbicfaaGreatDoor.Au
open Go.RowKit Go.Proofs.YtciibogkfbicfaaGreatDoor.Wi Go.Proofs.YtciibogkfbicfaaGreatDoor.Ow Go.Proofs.YtciibogkfbicfaaGreatDoor.Be Go.Proofs.YtciibogkfbicfaaGreatDoor.Bl Go.Proofs.YtciibogkfbicfaaGreatDoor.Cv Go.Proofs.YtciibogkfbicfaaGreatDoor.Kx Go.Proofs.YtciibogkfbicfaaGreatDoor.Mg Go.Proofs.YtciibogkfbicfaaGreatDoor.Ed
def i4 (n : Int) : Nat := (n % 4).toNat
theorem i4_lt (n : Int) : i4 n < 4 := by unfold i4; omega
theorem and3 (n : Int) : bits .and .i64 n 3 = (i4 n : Int) := by
 have h127 : (BitVec.ofInt 64 3).toNat = 2 ^ 2 - 1 := by decide
 have key : (BitVec.ofInt 64 n &&& BitVec.ofInt 64 3).toNat = (n % ((2 ^ 64 : Nat) : Int)).toNat % 2 ^ 2 := by
  rw [BitVec.toNat_and, BitVec.toNat_ofInt, h127, Nat.and_two_pow_sub_one_eq_mod]
 show IntKind.i64.wrap ((BitVec.ofInt 64 n &&& BitVec.ofInt 64 3).toNat : Nat) = _
 unfold i4
 rw [key, IntKind.wrap_i64]
 omega
theorem i4_cases (n : Int) : i4 n = 0 ∨ i4 n = 1 ∨ i4 n = 2 ∨ i4 n = 3 := by have := i4_lt n; omega
theorem sd_built0 : prog.built 22 [(0, .int .u8 7), (1, .int .u8 0)] = some (bytesV (sdN 0)) := by kernel_rfl
theorem sd_built1 : prog.built 22 [(0, .int .u8 7), (1, .int .u8 1)] = some (bytesV (sdN 1)) := by kernel_rfl
theorem sd_built2 : prog.built 22 [(0, .int .u8 7), (1, .int .u8 2)] = some (bytesV (sdN 2)) := by kernel_rfl
theorem sd_built3 : prog.built 22 [(0, .int .u8 7), (1, .int .u8 3)] = some (bytesV (sdN 3)) := by kernel_rfl
theorem seed_0 (w : World) (n : Int) (h : i4 n = 0) : Calls prog 10 #[.int .i64 n] w fun e w' => e = .returned (.agg (bytesV (sdN 0))) ∧ Below w.heap.size w w' := by
 have h3 := and3 n
 rw [h] at h3
 have h3 : bits .and .i64 n 3 = 0 := h3
 have HV := ϕ (show (bytesV (sdN 0)).size = 32 by rw [qa_, sdN_len])
 clear h
 go_enter func10, ntmps10
 go_wp2_with (first
  | ((with_reducible refine qd_ ?_); refine ji_ rfl 22 _ rfl #[(0, .int .u8 7), (1, .int .u8 0)] (by go_simp; try (first | rfl | exact ⟨rfl, rfl⟩)) (bytesV (sdN 0)) sd_built0 ?_)
  | ((with_reducible refine qd_ ?_); refine Rg.qf_ rfl 22 _ _ rfl (bytesV (sdN 0)) _ 22 rfl rfl (by rw [HV.out]; kernel_rfl) (by rw [HV.out]; rfl) (qn_ _) ?_; intro X hX hbX; have HX := ϕ hX; have HBX := ϕ hbX; clear hX hbX))
 refine bodyPost_ret (v := .agg (bytesV (sdN 0)))
  (results_cell_row results10 _ _ w.heap.size 22 _ (0, 0) _ rfl HX.out underlying22 rfl (by rw [HV.out]; kernel_rfl)) rfl ?_
 exact ⟨rfl, HBX.out⟩
theorem seed_1 (w : World) (n : Int) (h : i4 n = 1) : Calls prog 10 #[.int .i64 n] w fun e w' => e = .returned (.agg (bytesV (sdN 1))) ∧ Below w.heap.size w w' := by
 have h3 := and3 n
 rw [h] at h3
 have h3 : bits .and .i64 n 3 = 1 := h3
 have HV := ϕ (show (bytesV (sdN 1)).size = 32 by rw [qa_, sdN_len])
 clear h
 go_enter func10, ntmps10
 go_wp2_with (first
  | ((with_reducible refine qd_ ?_); refine ji_ rfl 22 _ rfl #[(0, .int .u8 7), (1, .int .u8 1)] (by go_simp; try (first | rfl | exact ⟨rfl, rfl⟩)) (bytesV (sdN 1)) sd_built1 ?_)
  | ((with_reducible refine qd_ ?_); refine Rg.qf_ rfl 22 _ _ rfl (bytesV (sdN 1)) _ 22 rfl rfl (by rw [HV.out]; kernel_rfl) (by rw [HV.out]; rfl) (qn_ _) ?_; intro X hX hbX; have HX := ϕ hX; have HBX := ϕ hbX; clear hX hbX))
 refine bodyPost_ret (v := .agg (bytesV (sdN 1)))
  (results_cell_row results10 _ _ w.heap.size 22 _ (0, 0) _ rfl HX.out underlying22 rfl (by rw [HV.out]; kernel_rfl)) rfl ?_
 exact ⟨rfl, HBX.out⟩
theorem seed_2 (w : World) (n : Int) (h : i4 n = 2) : Calls prog 10 #[.int .i64 n] w fun e w' => e = .returned (.agg (bytesV (sdN 2))) ∧ Below w.heap.size w w' := by
 have h3 := and3 n
 rw [h] at h3
 have h3 : bits .and .i64 n 3 = 2 := h3
 have HV := ϕ (show (bytesV (sdN 2)).size = 32 by rw [qa_, sdN_len])
 clear h
 go_enter func10, ntmps10
 go_wp2_with (first
  | ((with_reducible refine qd_ ?_); refine ji_ rfl 22 _ rfl #[(0, .int .u8 7), (1, .int .u8 2)] (by go_simp; try (first | rfl | exact ⟨rfl, rfl⟩)) (bytesV (sdN 2)) sd_built2 ?_)
  | ((with_reducible refine qd_ ?_); refine Rg.qf_ rfl 22 _ _ rfl (bytesV (sdN 2)) _ 22 rfl rfl (by rw [HV.out]; kernel_rfl) (by rw [HV.out]; rfl) (qn_ _) ?_; intro X hX hbX; have HX := ϕ hX; have HBX := ϕ hbX; clear hX hbX))
 refine bodyPost_ret (v := .agg (bytesV (sdN 2)))
  (results_cell_row results10 _ _ w.heap.size 22 _ (0, 0) _ rfl HX.out underlying22 rfl (by rw [HV.out]; kernel_rfl)) rfl ?_
 exact ⟨rfl, HBX.out⟩
theorem seed_3 (w : World) (n : Int) (h : i4 n = 3) : Calls prog 10 #[.int .i64 n] w fun e w' => e = .returned (.agg (bytesV (sdN 3))) ∧ Below w.heap.size w w' := by
 have h3 := and3 n
 rw [h] at h3
 have h3 : bits .and .i64 n 3 = 3 := h3
 have HV := ϕ (show (bytesV (sdN 3)).size = 32 by rw [qa_, sdN_len])
 clear h
 go_enter func10, ntmps10
 go_wp2_with (first
  | ((with_reducible refine qd_ ?_); refine ji_ rfl 22 _ rfl #[(0, .int .u8 7), (1, .int .u8 3)] (by go_simp; try (first | rfl | exact ⟨rfl, rfl⟩)) (bytesV (sdN 3)) sd_built3 ?_)
  | ((with_reducible refine qd_ ?_); refine Rg.qf_ rfl 22 _ _ rfl (bytesV (sdN 3)) _ 22 rfl rfl (by rw [HV.out]; kernel_rfl) (by rw [HV.out]; rfl) (qn_ _) ?_; intro X hX hbX; have HX := ϕ hX; have HBX := ϕ hbX; clear hX hbX))
 refine bodyPost_ret (v := .agg (bytesV (sdN 3)))
  (results_cell_row results10 _ _ w.heap.size 22 _ (0, 0) _ rfl HX.out underlying22 rfl (by rw [HV.out]; kernel_rfl)) rfl ?_
 exact ⟨rfl, HBX.out⟩
theorem seed_any (w : World) (n : Int) : Calls prog 10 #[.int .i64 n] w fun e w' => e = .returned (.agg (bytesV (sdN (i4 n)))) ∧ Below w.heap.size w w' := by
 rcases i4_cases n with h | h | h | h
 · rw [h]; exact seed_0 w n h
 · rw [h]; exact seed_1 w n h
 · rw [h]; exact seed_2 w n h
 · rw [h]; exact seed_3 w n h
theorem whose_0 (w : World) (n : Int) (h : i4 n = 0) : Calls prog 24 #[.int .i64 n] w fun e w' => e = .returned (.string (mkS (whoseN 0))) ∧ Below w.heap.size w w' := by
 have h3 := and3 n
 rw [h] at h3
 have h3 : bits .and .i64 n 3 = 0 := h3
 clear h
 go_enter func24, ntmps24
 go_wp2_with fail
 go_ret
 exact ⟨rfl, (Below.refl _ _).alloc (Nat.le_refl _) _⟩
theorem whose_1 (w : World) (n : Int) (h : i4 n = 1) : Calls prog 24 #[.int .i64 n] w fun e w' => e = .returned (.string (mkS (whoseN 1))) ∧ Below w.heap.size w w' := by
 have h3 := and3 n
 rw [h] at h3
 have h3 : bits .and .i64 n 3 = 1 := h3
 clear h
 go_enter func24, ntmps24
 go_wp2_with fail
 go_ret
 exact ⟨rfl, (Below.refl _ _).alloc (Nat.le_refl _) _⟩
theorem whose_2 (w : World) (n : Int) (h : i4 n = 2) : Calls prog 24 #[.int .i64 n] w fun e w' => e = .returned (.string (mkS (whoseN 2))) ∧ Below w.heap.size w w' := by
 have h3 := and3 n
 rw [h] at h3
 have h3 : bits .and .i64 n 3 = 2 := h3
 clear h
 go_enter func24, ntmps24
 go_wp2_with fail
 go_ret
 exact ⟨rfl, (Below.refl _ _).alloc (Nat.le_refl _) _⟩
theorem whose_3 (w : World) (n : Int) (h : i4 n = 3) : Calls prog 24 #[.int .i64 n] w fun e w' => e = .returned (.string (mkS (whoseN 3))) ∧ Below w.heap.size w w' := by
 have h3 := and3 n
 rw [h] at h3
 have h3 : bits .and .i64 n 3 = 3 := h3
 clear h
 go_enter func24, ntmps24
 go_wp2_with fail
 go_ret
 exact ⟨rfl, (Below.refl _ _).alloc (Nat.le_refl _) _⟩
theorem whose_any (w : World) (n : Int) : Calls prog 24 #[.int .i64 n] w fun e w' => e = .returned (.string (mkS (whoseN (i4 n)))) ∧ Below w.heap.size w w' := by
 rcases i4_cases n with h | h | h | h
 · rw [h]; exact whose_0 w n h
 · rw [h]; exact whose_1 w n h
 · rw [h]; exact whose_2 w n h
 · rw [h]; exact whose_3 w n h
theorem service_any (w : World) (s : ByteArray) :
 Calls prog 22 #[.string s] w fun e w' => ∃ g, e = .returned (.agg (askV 5 g 1)) ∧ w.heap.size ≤ g ∧ Rg.Blk w' g 9 #[.string s] ∧ Below w.heap.size w w' := by
 go_enter func22, ntmps22
 go_wp2_with fail
 refine bodyPost_ret (v := .agg (askV 5 (w.heap.size + 1) 1))
  (results_cell_row results22 _ _ w.heap.size 39 _ (0, 0) _ rfl ((Rg.Blk.new w (askV 5 (w.heap.size + 1) 1) 39).below ((Below.refl _ _).alloc (Nat.le_refl _) _) (Rg.Blk.new w (askV 5 (w.heap.size + 1) 1) 39).lt) underlying39 rfl (by kernel_rfl)) rfl ?_
 exact ⟨w.heap.size + 1, rfl, Nat.le_succ _, Rg.Blk.newAt (by show _ = (w.heap.push _).size; rw [Array.size_push]) _ _, ((Below.refl _ _).alloc (Nat.le_refl _) _).alloc (by show _ ≤ (w.heap.push _).size; rw [Array.size_push]; omega) _⟩
theorem MsgAt.srv {w : World} {g : Nat} {s : ByteArray} (h : Rg.Blk w g 9 #[.string s]) : IsMsg w ⟨5, [], [s], [], []⟩ (.slice none 0 0) (.slice (some ⟨g, 0, none⟩) 1 1) (.slice none 0 0) (.slice none 0 0) := ⟨SL.nil w, sl_blk (xs := [.string s]) h (Nat.le_of_ble_eq_true rfl), SLN.nil w, SL.nil w⟩
theorem fit_texts {k : Int} {xs : List ByteArray} (h : ∀ x ∈ xs, x.size ≤ 1000000) : Fit ⟨k, [], xs, [], []⟩ := ⟨fun x hx => by simp at hx, h, fun l hl => by simp at hl⟩
theorem k1_none : St.whoOf [(tL, kyN 0)] (kyN 1) = none := by
 unfold St.whoOf
 rw [List.find?_cons_of_neg (by simpa using ne01)]
 rfl
theorem k2_none : St.whoOf [(tL, kyN 0), (tL, kyN 1)] (kyN 2) = none := by
 unfold St.whoOf
 rw [List.find?_cons_of_neg (by simpa using ne02), List.find?_cons_of_neg (by simpa using ne12)]
 rfl
theorem upd_belowL {B : Nat} {w W W' : World} {s : List Nat} (hb : Below B w W) (hu : Sp.Upd W W' s) (hs : ∀ x ∈ s, B ≤ x) (hB : B ≤ W.heap.size) : Below B w W' := qm_ hb hu hs hB
theorem Keys_law (w : World) (hG : Sg w) : Calls prog 18 #[] w fun e w' => ∃ sb bo bw, e = .returned (.pointer (some ⟨sb, 0, none⟩)) ∧ St.IsSt w' sb bo bw 8 8 3 L0 ∧ Below w.heap.size w w' ∧ w.heap.size ≤ sb ∧ w.heap.size ≤ bo ∧ w.heap.size ≤ bw := by
 have HN := ϕ (show ∀ W, Calls prog 47 #[.int .i64 8, .int .i64 8] W fun e w' => ∃ sb bo bw, e = .returned (.pointer (some ⟨sb, 0, none⟩)) ∧ St.IsSt w' sb bo bw 8 8 0 [] ∧ Below W.heap.size W w' ∧ W.heap.size ≤ sb ∧ W.heap.size ≤ bo ∧ W.heap.size ≤ bw from fun W => St.New_any W 8 8)
 have HS0 := ϕ (fun W => seed_0 W 0 rfl)
 have HS1 := ϕ (fun W => seed_1 W 1 rfl)
 have HS2 := ϕ (fun W => seed_2 W 2 rfl)
 have HK0 := ϕ (show ∀ W, Below w.heap.size w W → Calls prog 9 #[.agg (bytesV (sdN 0))] W fun e w' => e = .returned (.agg (bytesV (kyN 0))) ∧ Below W.heap.size W w' from fun W hW => Key_any W (sdN 0) (sdN_len 0) (hG.below hW).t)
 have HK1 := ϕ (show ∀ W, Below w.heap.size w W → Calls prog 9 #[.agg (bytesV (sdN 1))] W fun e w' => e = .returned (.agg (bytesV (kyN 1))) ∧ Below W.heap.size W w' from fun W hW => Key_any W (sdN 1) (sdN_len 1) (hG.below hW).t)
 have HK2 := ϕ (show ∀ W, Below w.heap.size w W → Calls prog 9 #[.agg (bytesV (sdN 2))] W fun e w' => e = .returned (.agg (bytesV (kyN 2))) ∧ Below W.heap.size W w' from fun W hW => Key_any W (sdN 2) (sdN_len 2) (hG.below hW).t)
 have HA0 := ϕ (show ∀ W sb bo bw, St.IsSt W sb bo bw 8 8 0 [] → Calls prog 48 #[.pointer (some ⟨sb, 0, none⟩), .string ⟨#[116]⟩, .agg (bytesV (kyN 0))] W fun e w' => e = .returned .nilIface ∧ St.IsSt w' sb bo bw 8 8 1 [(tL, kyN 0)] ∧ Sp.Upd W w' [bo, bw] from fun W sb bo bw h => St.Add_ok_false W sb bo bw 8 8 0 [] h ⟨#[116]⟩ (by decide) (kyN 0) (kyN_len 0) (by decide) rfl rfl (by decide) (by decide) (by decide) (by decide))
 have HA1 := ϕ (show ∀ W sb bo bw, St.IsSt W sb bo bw 8 8 1 [(tL, kyN 0)] → Calls prog 48 #[.pointer (some ⟨sb, 0, none⟩), .string ⟨#[116]⟩, .agg (bytesV (kyN 1))] W fun e w' => e = .returned .nilIface ∧ St.IsSt w' sb bo bw 8 8 2 [(tL, kyN 0), (tL, kyN 1)] ∧ Sp.Upd W w' [bo, bw] from fun W sb bo bw h => St.Add_ok_true W sb bo bw 8 8 1 [(tL, kyN 0)] h ⟨#[116]⟩ (by decide) (kyN 1) (kyN_len 1) (by decide) k1_none rfl trivial (by decide) (by decide) (by decide))
 have HA2 := ϕ (show ∀ W sb bo bw, St.IsSt W sb bo bw 8 8 2 [(tL, kyN 0), (tL, kyN 1)] → Calls prog 48 #[.pointer (some ⟨sb, 0, none⟩), .string ⟨#[117]⟩, .agg (bytesV (kyN 2))] W fun e w' => e = .returned .nilIface ∧ St.IsSt w' sb bo bw 8 8 3 L0 ∧ Sp.Upd W w' [bo, bw] from fun W sb bo bw h => St.Add_ok_false W sb bo bw 8 8 2 [(tL, kyN 0), (tL, kyN 1)] h ⟨#[117]⟩ (by decide) (kyN 2) (kyN_len 2) (by decide) k2_none rfl (by decide) (by decide) (by decide) (by decide))
 clear hG
 have tk0 := trivial
 go_enter func18, ntmps18
 go_wp2_with (first
  | (go_at_call 47; refine (HN.out _).mono ?_; rintro e w1 ⟨sb, bo, bw, rfl, h1, hb1, hsb, hbo, hbw⟩; have H1 := ϕ h1; have HB := ϕ hb1; have HSB := ϕ hsb; have HBO := ϕ hbo; have HBW := ϕ hbw; clear h1 hb1 hsb hbo hbw)
  | (go_at_call 10; have _t := tk0; refine (HS0.out _).mono ?_; rintro e w2 ⟨rfl, hb1⟩; have H1 := ϕ (H1.out.below hb1); have HB := tm HB hb1; have tk1 := trivial; clear hb1 _t tk0)
  | (go_at_call 9; have _t := tk1; refine (HK0.out _ HB.out).mono ?_; rintro e w3 ⟨rfl, hb1⟩; have H1 := ϕ (H1.out.below hb1); have HB := tm HB hb1; have tk2 := trivial; clear hb1 _t tk1)
  | (go_at_call 48; have _t := tk2; refine (HA0.out _ _ _ _ H1.out).mono ?_; rintro e w4 ⟨rfl, h2, hu⟩; have H1 := ϕ h2; have HB := ϕ (upd_belowL HB.out hu (by intro x hx; simp at hx; rcases hx with rfl | rfl; exact HBO.out; exact HBW.out) HB.out.size); have tk3 := trivial; clear h2 hu _t tk2)
  | (go_at_call 10; have _t := tk3; refine (HS1.out _).mono ?_; rintro e w2 ⟨rfl, hb1⟩; have H1 := ϕ (H1.out.below hb1); have HB := tm HB hb1; have tk4 := trivial; clear hb1 _t tk3)
  | (go_at_call 9; have _t := tk4; refine (HK1.out _ HB.out).mono ?_; rintro e w3 ⟨rfl, hb1⟩; have H1 := ϕ (H1.out.below hb1); have HB := tm HB hb1; have tk5 := trivial; clear hb1 _t tk4)
  | (go_at_call 48; have _t := tk5; refine (HA1.out _ _ _ _ H1.out).mono ?_; rintro e w4 ⟨rfl, h2, hu⟩; have H1 := ϕ h2; have HB := ϕ (upd_belowL HB.out hu (by intro x hx; simp at hx; rcases hx with rfl | rfl; exact HBO.out; exact HBW.out) HB.out.size); have tk6 := trivial; clear h2 hu _t tk5)
  | (go_at_call 10; have _t := tk6; refine (HS2.out _).mono ?_; rintro e w2 ⟨rfl, hb1⟩; have H1 := ϕ (H1.out.below hb1); have HB := tm HB hb1; have tk7 := trivial; clear hb1 _t tk6)
  | (go_at_call 9; have _t := tk7; refine (HK2.out _ HB.out).mono ?_; rintro e w3 ⟨rfl, hb1⟩; have H1 := ϕ (H1.out.below hb1); have HB := tm HB hb1; have tk8 := trivial; clear hb1 _t tk7)
  | (go_at_call 48; have _t := tk8; refine (HA2.out _ _ _ _ H1.out).mono ?_; rintro e w4 ⟨rfl, h2, hu⟩; have H1 := ϕ h2; have HB := ϕ (upd_belowL HB.out hu (by intro x hx; simp at hx; rcases hx with rfl | rfl; exact HBO.out; exact HBW.out) HB.out.size); have tk9 := trivial; clear h2 hu _t tk8))
 go_ret
 exact ⟨sb, bo, bw, rfl, H1.out, HB.out, HSB.out, HBO.out, HBW.out⟩
theorem msg_one {w : World} {m : Msg} {vu vs vn vb : Value} (h : IsMsg w m vu vs vn vb) (k : Int) : (mC k vu vs vn vb).all (·.oneCell') = true := by
 obtain ⟨_, _, _, rfl, _⟩ := h.u
 obtain ⟨_, _, _, rfl, _⟩ := h.s
 obtain ⟨_, h3, _⟩ := h.n
 obtain ⟨_, _, _, rfl, _⟩ := h3
 obtain ⟨_, _, _, rfl, _⟩ := h.b
 simp [mC, Value.oneCell']
theorem MsgAt.ask {w : World} {g : Nat} {user c mt rest : ByteArray} (h : Rg.Blk w g 9 #[.string user, .string c, .string mt, .string rest]) : IsMsg w (askM user c mt rest) (.slice none 0 0) (.slice (some ⟨g, 0, none⟩) 4 4) (.slice none 0 0) (.slice none 0 0) := ⟨SL.nil w, sl_blk (xs := [.string user, .string c, .string mt, .string rest]) h (Nat.le_of_ble_eq_true rfl), SLN.nil w, SL.nil w⟩
def Got (w : World) (P : Nat → Prop) (b sb bo bw T K N : Nat) (L : List St.Pr) (id : List UInt8) (most : Nat) (a : Nat → Addr) (r : Nat × Msg × Sv) (e : Ending) (w' : World) : Prop :=
 ∃ vu vs vn vb, e = .returned (.tuple #[.agg (mC r.2.1.kind vu vs vn vb), Ei.evA a r.1]) ∧ (mC r.2.1.kind vu vs vn vb).all (·.oneCell') = true ∧ IsMsg w' r.2.1 vu vs vn vb ∧ IsSv w' P b sb bo bw T K N L id most r.2.2 ∧ Sp.Upd w w' [b]
theorem Did.got {w : World} {P : Nat → Prop} {b sb bo bw T K N : Nat} {L : List St.Pr} {id : List UInt8} {most : Nat} {a : Nat → Addr} {r : Nat × Msg × Sv} {e : Ending} {w' : World} (h : Did w P b sb bo bw T K N L id most a r e w') : Got w P b sb bo bw T K N L id most a r e w' := by
 obtain ⟨v, h1, ⟨vu, vs, vn, vb, rfl, h2⟩, h3, h4⟩ := h
 exact ⟨vu, vs, vn, vb, h1, msg_one h2 _, h2, h3, h4⟩
def Got0 (w : World) (P : Nat → Prop) (b sb bo bw T K N : Nat) (L : List St.Pr) (id : List UInt8) (most : Nat) (m : Msg) (st : Sv) (e : Ending) (w' : World) : Prop :=
 ∃ vu vs vn vb, e = .returned (.tuple #[.agg (mC m.kind vu vs vn vb), .nilIface]) ∧ (mC m.kind vu vs vn vb).all (·.oneCell') = true ∧ IsMsg w' m vu vs vn vb ∧ IsSv w' P b sb bo bw T K N L id most st ∧ Sp.Upd w w' [b]
theorem Got.zero {w : World} {P : Nat → Prop} {b sb bo bw T K N : Nat} {L : List St.Pr} {id : List UInt8} {most : Nat} {a : Nat → Addr} {m : Msg} {st : Sv} {e : Ending} {w' : World} (h : Got w P b sb bo bw T K N L id most a (0, m, st) e w') : Got0 w P b sb bo bw T K N L id most m st e w' := h
theorem Handle_req (w : World) (a : Nat → Addr) (hE : Ei.ErrsA w a) (hT : TabR w) (hG : Sg w) (P : Nat → Prop) (b sb bo bw T K N : Nat) (L : List St.Pr) (id : List UInt8) (most : Nat) (st : Sv) (h : IsSv w P b sb bo bw T K N L id most st) (hml : most ≤ 1000) (g i : Nat) (user : ByteArray) (hb : Rg.Blk w g 9 #[.string user, .string connB, .string methB, .string (reqR i id user.data.toList)]) (h1 : user.size ≤ 1000) (ht : st.ten = []) (ha : st.acc = true) (hn : st.tries < most) (hw : St.whoOf L (kyN i) = some user.data.toList) :
 Calls prog 23 #[.pointer (some ⟨b, 0, none⟩), .agg (askV 50 g 4)] w (Got0 w P b sb bo bw T K N L id most sucM { st with ten := user.data.toList, key := kyN i }) := by
 obtain ⟨k1, k2, k3, k4, k5⟩ := rd_req (s := reqR i id user.data.toList) (key := kyN i) (sig := sigN i id user.data.toList) rfl (kyN_len i) (sigN_len _ _ _)
 have hc : checkC (askM user connB methB (reqR i id user.data.toList)) = 0 := ask_ok (by omega) (by rw [conn_size]; decide) (by rw [meth_size]; decide) (by rw [reqR_size]; decide)
 have := ha_reqT w a hE hT hG P b sb bo bw T K N L id most st h 50 [] [user, connB, methB, reqR i id user.data.toList] [] [] _ _ _ _ (MsgAt.ask hb) (fit_texts (fun x hx => by simp at hx; have c1 := conn_size; have c2 := meth_size; have c3 := reqR_size i id user.data.toList; rcases hx with rfl | rfl | rfl | rfl <;> omega)) rfl hc user connB methB (reqR i id user.data.toList) rfl ht ha hn hml k1 k2 _ (by rw [k4]; exact hw) rfl rfl rfl (by rw [k4, k5]; exact verL_own _ _ _) h1
 rw [k4] at this
 exact this.mono fun e w' h => h.got.zero
theorem Handle_none (w : World) (a : Nat → Addr) (hE : Ei.ErrsA w a) (hT : TabR w) (hG : Sg w) (P : Nat → Prop) (b sb bo bw T K N : Nat) (L : List St.Pr) (id : List UInt8) (most : Nat) (st : Sv) (h : IsSv w P b sb bo bw T K N L id most st) (hml : most ≤ 1000) (g i : Nat) (user : ByteArray) (hb : Rg.Blk w g 9 #[.string user, .string connB, .string methB, .string (reqR i id user.data.toList)]) (h1 : user.size ≤ 1000) (ht : st.ten = []) (ha : st.acc = true) (hn : st.tries < most) (hw : St.whoOf L (kyN i) = none) :
 Calls prog 23 #[.pointer (some ⟨b, 0, none⟩), .agg (askV 50 g 4)] w (Got0 w P b sb bo bw T K N L id most failM { st with tries := st.tries + 1 }) := by
 obtain ⟨k1, k2, k3, k4, k5⟩ := rd_req (s := reqR i id user.data.toList) (key := kyN i) (sig := sigN i id user.data.toList) rfl (kyN_len i) (sigN_len _ _ _)
 have hc : checkC (askM user connB methB (reqR i id user.data.toList)) = 0 := ask_ok (by omega) (by rw [conn_size]; decide) (by rw [meth_size]; decide) (by rw [reqR_size]; decide)
 have := ha_noneT w a hE hT hG P b sb bo bw T K N L id most st h 50 [] [user, connB, methB, reqR i id user.data.toList] [] [] _ _ _ _ (MsgAt.ask hb) (fit_texts (fun x hx => by simp at hx; have c1 := conn_size; have c2 := meth_size; have c3 := reqR_size i id user.data.toList; rcases hx with rfl | rfl | rfl | rfl <;> omega)) rfl hc user connB methB (reqR i id user.data.toList) rfl ht ha hn hml k1 k2 (by rw [k4]; exact hw)
 exact this.mono fun e w' h => h.got.zero
theorem Service_auth (w : World) (a : Nat → Addr) (hE : Ei.ErrsA w a) (hT : TabR w) (P : Nat → Prop) (b sb bo bw T K N : Nat) (L : List St.Pr) (id : List UInt8) (most : Nat) (st : Sv) (h : IsSv w P b sb bo bw T K N L id most st) (g : Nat) (hb : Rg.Blk w g 9 #[.string authB]) :
 Calls prog 21 #[.pointer (some ⟨b, 0, none⟩), .agg (askV 5 g 1)] w (Got0 w P b sb bo bw T K N L id most (accM authB) { st with acc := true }) :=
 (sv_auth w a hE hT P b sb bo bw T K N L id most st h 5 [] [authB] [] [] _ _ _ _ (MsgAt.srv hb) (fit_texts (fun x hx => by simp at hx; rw [hx, auth_size]; decide)) rfl (srv_ok (by rw [auth_size]; decide)) authB rfl rfl).mono fun e w' h => h.got.zero
theorem eqg : prog.eqGuardType prog.depth 22 = false := by kernel_rfl
theorem run_eql32 {o : Oper} {a : Act} {W : World} (x y : Operand) (ty : TypeId) (ho : o.op = .binOp .eql 22 x y ty) (l m : List UInt8) (hx : a.eval x = .agg (bytesV l)) (hy : a.eval y = .agg (bytesV m)) (hl : l.length = 32) (hm : m.length = 32) : (execOp a.eval o).run prog W = .ok (.value (.bool (l == m))) W := by
 have h1 := run_eql_bytes (P := prog) W 22 5 32 underlying22 underlying5 Wi.infoU8 l m hl hm
 have h2 := run_eqGuard_agg (P := prog) (w := W) .eql 22 x y (bytesV l) (bytesV m) eqg
 unfold execOp
 simp only [ho, hx, hy, Sem.run_bind, Sem.run_pure, Sem.run_map, h2, Result.andThen_ok, h1]
def idle : Sv := ⟨false, 0, [], zB 32⟩
def open0 : Sv := ⟨true, 0, [], zB 32⟩
theorem Request_law (w : World) (id : List UInt8) (i : Nat) (user : ByteArray) (hi : id.length = 32) (hu : user.size ≤ 1000) (hG : Sg w) :
 Calls prog 17 #[.agg (bytesV id), .agg (bytesV (sdN i)), .string user] w fun e w' => ∃ g, e = .returned (.agg (askV 50 g 4)) ∧ w.heap.size ≤ g ∧ Rg.Blk w' g 9 #[.string user, .string connB, .string methB, .string (reqR i id user.data.toList)] ∧ Below w.heap.size w w' := Request_any w id (sdN i) user hi (sdN_len i) hu hG
theorem upd_two {a b c : World} {s : List Nat} (h : Sp.Upd a b s) (k : Sp.Upd b c s) : Sp.Upd a c s := h.trans k (fun x hx => .inl hx)
theorem L0_tens : (St.tens L0).length = 2 := rfl
theorem awake17 (w : World) (a : Nat → Addr) (hE : Ei.ErrsA w a) (hT : TabR w) (hG : Sg w) : Calls prog 7 #[] w fun e w' => e = .returned (.bool true) ∧ Below w.heap.size w w' := by
 have HKY := ϕ (fun W (hW : Below w.heap.size w W) => Keys_law W (hG.below hW))
 have HTN := ϕ (show ∀ W sb bo bw, St.IsSt W sb bo bw 8 8 3 L0 → Calls prog 32 #[.pointer (some ⟨sb, 0, none⟩)] W fun e w' => ∃ A c, e = .returned (.slice A 2 c) ∧ Below W.heap.size W w' from fun W sb bo bw h => by
  refine (St.Tenants_any W sb bo bw 8 8 3 L0 h (by rw [L0_tens]; decide)).mono ?_
  rintro e w' ⟨v, rfl, ho, hb⟩
  obtain ⟨A, c, rfl, _⟩ := ho.form
  rw [List.length_map, St.namesL_length, L0_tens]
  exact ⟨A, c, rfl, hb⟩)
 have HNW := ϕ (show ∀ W sb bo bw, St.IsSt W sb bo bw 8 8 3 L0 → Calls prog 20 #[.pointer (some ⟨sb, 0, none⟩), .agg (bytesV Ed.s1), .int .i64 3] W fun e w' => ∃ b, e = .returned (.pointer (some ⟨b, 0, none⟩)) ∧ W.heap.size ≤ b ∧ IsSv w' (fun k => W.heap.size ≤ k) b sb bo bw 8 8 3 L0 Ed.s1 3 idle ∧ Below W.heap.size W w' from fun W sb bo bw h => New_sv W sb bo bw 8 8 3 L0 h Ed.s1 3 s1_len)
 have HSR := ϕ (show ∀ W, Calls prog 22 #[.string ⟨#[115, 115, 104, 45, 117, 115, 101, 114, 97, 117, 116, 104]⟩] W fun e w' => ∃ g, e = .returned (.agg (askV 5 g 1)) ∧ W.heap.size ≤ g ∧ Rg.Blk w' g 9 #[.string authB] ∧ Below W.heap.size W w' from fun W => by
  have := service_any W ⟨#[115, 115, 104, 45, 117, 115, 101, 114, 97, 117, 116, 104]⟩
  rw [auth_eq] at this ⊢
  exact this)
 have HSC := ϕ (show ∀ W P b sb bo bw g, Below w.heap.size w W → IsSv W P b sb bo bw 8 8 3 L0 Ed.s1 3 idle → Rg.Blk W g 9 #[.string authB] → Calls prog 21 #[.pointer (some ⟨b, 0, none⟩), .agg (askV 5 g 1)] W (Got0 W P b sb bo bw 8 8 3 L0 Ed.s1 3 (accM authB) open0) from fun W P b sb bo bw g hW h hg => Service_auth W a (hE.below hW) (hT.below hW) P b sb bo bw 8 8 3 L0 Ed.s1 3 idle h g hg)
 have HSD := ϕ (fun W => seed_2 W 2 rfl)
 have HRQ := ϕ (show ∀ W, Below w.heap.size w W → Calls prog 17 #[.agg (bytesV Ed.s1), .agg (bytesV (sdN 2)), .string ⟨#[117]⟩] W fun e w' => ∃ g, e = .returned (.agg (askV 50 g 4)) ∧ W.heap.size ≤ g ∧ Rg.Blk w' g 9 #[.string ⟨#[117]⟩, .string connB, .string methB, .string (reqR 2 Ed.s1 uL)] ∧ Below W.heap.size W w' from fun W hW => Request_law W Ed.s1 2 ⟨#[117]⟩ s1_len (by decide) (hG.below hW))
 have HHA := ϕ (show ∀ W P b sb bo bw g, Below w.heap.size w W → IsSv W P b sb bo bw 8 8 3 L0 Ed.s1 3 open0 → Rg.Blk W g 9 #[.string ⟨#[117]⟩, .string connB, .string methB, .string (reqR 2 Ed.s1 uL)] → Calls prog 23 #[.pointer (some ⟨b, 0, none⟩), .agg (askV 50 g 4)] W (Got0 W P b sb bo bw 8 8 3 L0 Ed.s1 3 sucM { open0 with ten := uL, key := kyN 2 }) from fun W P b sb bo bw g hW h hg => Handle_req W a (hE.below hW) (hT.below hW) (hG.below hW) P b sb bo bw 8 8 3 L0 Ed.s1 3 open0 h (by decide) g 2 ⟨#[117]⟩ hg (by decide) rfl rfl (by decide) who2)
 have HIN := ϕ (show ∀ W P b sb bo bw, IsSv W P b sb bo bw 8 8 3 L0 Ed.s1 3 { open0 with ten := uL, key := kyN 2 } → Calls prog 26 #[.pointer (some ⟨b, 0, none⟩)] W fun e w' => e = .returned (.tuple #[.string ⟨#[117]⟩, .agg (bytesV (kyN 2)), .bool true]) ∧ Below W.heap.size W w' from fun W P b sb bo bw h => by
  obtain ⟨cs, h1, h2⟩ := h.blk
  exact In_any W b cs h1 sb Ed.s1 3 _ h2)
 have HKE := ϕ (show ∀ W, Below w.heap.size w W → Calls prog 9 #[.agg (bytesV (sdN 2))] W fun e w' => e = .returned (.agg (bytesV (kyN 2))) ∧ Below W.heap.size W w' from fun W hW => Key_any W (sdN 2) (sdN_len 2) (hG.below hW).t)
 have HVK := ϕ (show (bytesV (kyN 2)).size = 32 by rw [qa_, kyN_len])
 have HVL := ϕ (kyN_len 2)
 have HB := ϕ (Below.refl w.heap.size w)
 have HB1 := ϕ (show prog.built 22 [(0, .int .u8 1)] = some (bytesV Ed.s1) by kernel_rfl)
 clear hE hT hG
 generalize reqR 2 Ed.s1 uL = rq at *
 generalize kyN 2 = k2 at *
 generalize sdN 2 = s2 at *
 go_enter func7, ntmps7
 go_upto_region 2 with (go_at_call 18; refine (HKY.out _ HB.out).mono ?_; rintro e w1 ⟨sb, bo, bw, rfl, h1, hb1, _, _, _⟩; have HST := ϕ h1; have HB := tm HB hb1; clear h1 hb1)
 go_upto_region 4 with (go_at_call 32; refine (HTN.out _ _ _ _ HST.out).mono ?_; rintro e w2 ⟨A, c, rfl, hb1⟩; have HST := ϕ (HST.out.below hb1); have HB := tm HB hb1; clear hb1)
 go_upto_region 5 with (first
  | ((with_reducible refine qd_ ?_); refine ji_ rfl 22 _ rfl #[(0, .int .u8 1)] (by go_simp; try rfl) (bytesV Ed.s1) HB1.out ?_)
  | (go_at_call 20; refine (HNW.out _ _ _ _ HST.out).mono ?_; rintro e w3 ⟨b, rfl, hbw, hs, hb1⟩; have HWB := ϕ (Nat.le_trans HB.out.size hbw); have HS := ϕ hs; have HB := tm HB hb1; clear hs hb1 hbw))
 go_upto_region 8 with (first
  | (go_at_call 22; refine (HSR.out _).mono ?_; rintro e w4 ⟨gs, rfl, _, hg, hb1⟩; have HGS := ϕ hg; have HS := ϕ (HS.out.below hb1); have HB := tm HB hb1; clear hg hb1)
  | (go_at_call 21; refine (HSC.out _ _ _ _ _ _ _ HB.out HS.out HGS.out).mono ?_; rintro e w5 ⟨vu, vs, vn, vb, rfl, ho, hm, hs, hu⟩; have HO3 := ϕ ho; have HS := ϕ hs; have HS5 := ϕ hs; have HB := ϕ (qm_ HB.out hu (fun k hk => by simp at hk; rw [hk]; exact HWB.out) HB.out.size); clear ho hm hs hu)
  | (refine Rg.qf_ rfl 39 _ _ rfl (mC 6 vu vs vn vb) _ 39 rfl rfl (by kernel_rfl) rfl HO3.out ?_; intro w6 hX hb1; have H3 := ϕ hX; have HS := ϕ (HS.out.below hb1); have HB := tm HB hb1; clear hX hb1))
 obtain ⟨b3, hb3⟩ : ∃ n, w5.heap.size = n := exr
 have H3 := ϕ (show Rg.Blk w6 b3 39 (mC 6 vu vs vn vb) from hb3 ▸ H3.out)
 have H3B := ϕ (show ¬ b3 = b from fun e => by obtain ⟨cs, h1, _⟩ := HS5.out.blk; have := h1.lt; omega)
 try rw [hb3]
 clear hb3 HS5
 go_upto_region 9 with (first
  | ((with_reducible refine qd_ ?_); refine ji_ rfl 22 _ rfl #[(0, .int .u8 1)] (by go_simp; try rfl) (bytesV Ed.s1) HB1.out ?_)
  | (go_at_call 10; refine (HSD.out _).mono ?_; rintro e w7 ⟨rfl, hb1⟩; have HS := ϕ (HS.out.below hb1); have HB := tm HB hb1; have H3 := ϕ (H3.out.below hb1 H3.out.lt); clear hb1)
  | (go_at_call 17; refine (HRQ.out _ HB.out).mono ?_; rintro e w8 ⟨gr, rfl, _, hg, hb1⟩; have HGR := ϕ hg; have HS := ϕ (HS.out.below hb1); have HB := tm HB hb1; have H3 := ϕ (H3.out.below hb1 H3.out.lt); clear hg hb1)
  | (go_at_call 23; refine (HHA.out _ _ _ _ _ _ _ HB.out HS.out HGR.out).mono ?_; rintro e w9 ⟨xu, xs, xn, xb, rfl, ho, hm, hs, hu⟩; have HO5 := ϕ ho; have HS := ϕ hs; have HB3 := ϕ (qk_ hu H3.out (by have := H3B.out; simpa using this)); have HB := ϕ (qm_ HB.out hu (fun k hk => by simp at hk; rw [hk]; exact HWB.out) HB.out.size); clear ho hm hs hu)
  | (refine Rg.qf_ rfl 39 _ _ rfl (mC 52 xu xs xn xb) _ 39 rfl rfl (by kernel_rfl) rfl HO5.out ?_; intro w10 hX hb1; have H5 := ϕ hX; have H3 := ϕ (HB3.out.below hb1 HB3.out.lt); have HS := ϕ (HS.out.below hb1); have HB := tm HB hb1; clear hX hb1))
 obtain ⟨b5, hb5⟩ : ∃ n, w9.heap.size = n := exr
 have H5 := ϕ (show Rg.Blk w10 b5 39 (mC 52 xu xs xn xb) from hb5 ▸ H5.out)
 try rw [hb5]
 clear hb5
 go_upto_region 10 with (first
  | (go_at_call 26; refine (HIN.out _ _ _ _ _ _ HS.out).mono ?_; rintro e w11 ⟨rfl, hb1⟩; have HB := tm HB hb1; have H3 := ϕ (H3.out.below hb1 H3.out.lt); have H5 := ϕ (H5.out.below hb1 H5.out.lt); clear hb1)
  | (refine Rg.qf_ rfl 22 _ _ rfl (bytesV k2) _ 22 rfl rfl (by rw [HVK.out]; kernel_rfl) (by rw [HVK.out]; rfl) (qn_ _) ?_; intro w12 hX hb1; have H8 := ϕ hX; have HB := tm HB hb1; have H3 := ϕ (H3.out.below hb1 H3.out.lt); have H5 := ϕ (H5.out.below hb1 H5.out.lt); clear hX hb1))
 obtain ⟨b8, hb8⟩ : ∃ n, w11.heap.size = n := exr
 have H8 := ϕ (show Rg.Blk w12 b8 22 (bytesV k2) from hb8 ▸ H8.out)
 try rw [hb8]
 clear hb8
 refine RL.start (RL.Aft w12) (by kernel_rfl) (RL.Aft.drew (RL.Aft.refl w12)) ?_
 refine RL.tu 0 ?_; go_frame
 refine RL.tu 1 ?_; go_frame
 refine RL.tu 2 ?_; go_frame
 refine RL.tu 3 ?_; go_frame
 refine RL.tu 4 ?_; go_frame
 refine RL.tu 5 ?_; go_frame
 refine RL.tu 6 ?_; go_frame
 refine RL.tu 7 ?_; go_frame
 refine' RL.tv 8 ?hk9 ?_
 case hk9 => (intro W hSW; have c1 := (qc_ hSW H3.out).cell 0 (v := .int .i64 6) rfl; go_simp; try with_reducible rfl)
 try go_frame
 refine RL.tu 9 ?_; go_frame
 refine RL.tu 10 ?_; go_frame
 refine RL.tu 11 ?_; go_frame
 refine RL.tu 12 ?_; go_frame
 refine' RL.tv 13 ?hk14 ?_
 case hk14 => (intro W hSW; have c1 := (qc_ hSW H5.out).cell 0 (v := .int .i64 52) rfl; go_simp; try with_reducible rfl)
 try go_frame
 refine RL.tu 14 ?_; go_frame
 refine RL.tu 15 ?_; go_frame
 refine RL.tu 16 ?_; go_frame
 refine RL.tu 17 ?_; go_frame
 refine RL.tu 18 ?_; go_frame
 refine RL.tu 19 ?_; go_frame
 refine RL.tu 20 ?_; go_frame
 refine RL.tw 21 (v := .agg (bytesV k2)) rfl (fun W hSW => RT.qy_ 22 _ rfl _ rfl _ _ (qc_ hSW H8.out) underlying22 rfl (by rw [HVK.out]; kernel_rfl)) ?_
 try go_frame
 refine' RL.td 22 (v := (.agg (bytesV s2))) 10 #[.int .i64 2] ?hc22 ?_
 case hc22 => (intro W hSW; exact (HSD.out W).mono (fun e w9 h9 => ⟨h9.1, h9.2, RL.Aft.lat hSW h9.2⟩))
 try go_frame
 refine' RL.td 23 (v := (.agg (bytesV k2))) 9 #[.agg (bytesV s2)] ?hc23 ?_
 case hc23 => (intro W hSW; exact (HKE.out W (HB.out.trans (Below.mono hSW HB.out.size))).mono (fun e w9 h9 => ⟨h9.1, h9.2, RL.Aft.lat hSW h9.2⟩))
 try go_frame
 refine RL.tw 24 (v := .bool true) rfl (fun W hSW => (run_eql32 _ _ _ rfl k2 k2 rfl rfl HVL.out HVL.out).trans (by rw [beq_self_eq_true])) ?_
 try go_frame
 refine RL.tu 25 ?_; go_frame
 refine RL.tu 26 ?_; go_frame
 refine RL.tu 27 ?_; go_frame
 refine RL.tu 28 ?_; go_frame
 refine RL.tu 29 ?_; go_frame
 refine RL.done (by kernel_rfl) (fun V hlV hsV => ?_)
 have HB := ϕ (HB.out.trans (Below.mono (show RL.Aft w12 V from hsV) HB.out.size))
 clear hlV hsV
 go_wp2_with fail
 go_ret
 exact ⟨rfl, HB.out⟩
end Go.Proofs.YtciibogkfbicfaaGreatDoor.Au
namespace Go.Proofs.YtciibogkfbicfaaGreatDoor.RL
open Go.RowKit
theorem rest_v {T : Value → Value → Value → Value → Nat → Nat → World → Prop} {G : Prop} (F : Value → Value → Value → Value → Nat → Nat → World → Prop) (h1 : (∀ u s n b c d W, F u s n b c d W → T u s n b c d W) → G) (h2 : ∀ u s n b c d W, F u s n b c d W → T u s n b c d W) : G := h1 h2
end Go.Proofs.YtciibogkfbicfaaGreatDoor.RL
namespace Go.Proofs.YtciibogkfbicfaaGreatDoor.Au
open Go.RowKit Go.Proofs.YtciibogkfbicfaaGreatDoor.Wi Go.Proofs.YtciibogkfbicfaaGreatDoor.Ow Go.Proofs.YtciibogkfbicfaaGreatDoor.Be Go.Proofs.YtciibogkfbicfaaGreatDoor.Bl Go.Proofs.YtciibogkfbicfaaGreatDoor.Cv Go.Proofs.YtciibogkfbicfaaGreatDoor.Kx Go.Proofs.YtciibogkfbicfaaGreatDoor.Mg Go.Proofs.YtciibogkfbicfaaGreatDoor.Ed
theorem ky_ne {i j : Nat} (hi : i < 4) (hj : j < 4) (h : i ≠ j) : kyN i ≠ kyN j := by
 have a01 := ne01; have a02 := ne02; have a03 := ne03; have a12 := ne12; have a13 := ne13; have a23 := ne23
 have : (i = 0 ∨ i = 1 ∨ i = 2 ∨ i = 3) ∧ (j = 0 ∨ j = 1 ∨ j = 2 ∨ j = 3) := ⟨by omega, by omega⟩
 rcases this with ⟨rfl | rfl | rfl | rfl, rfl | rfl | rfl | rfl⟩ <;> first | exact absurd rfl h | assumption | exact Ne.symm (by assumption)
theorem i4_succ (n : Int) : i4 (IntKind.i64.wrap (n + 1)) = (i4 n + 1) % 4 := by
 unfold i4
 rw [IntKind.wrap_i64]
 omega
theorem whose_nil {i : Nat} (hi : i < 4) : whoseN i = [] ↔ i = 3 := by
 have : i = 0 ∨ i = 1 ∨ i = 2 ∨ i = 3 := by omega
 rcases this with rfl | rfl | rfl | rfl <;> decide
theorem whose_len (i : Nat) : (whoseN i).length ≤ 1 := by
 unfold whoseN
 repeat' split
 all_goals decide
theorem st_mono {w : World} {sb bo bw T K N N' : Nat} {L : List St.Pr} (h : St.IsSt w sb bo bw T K N L) (hN : N ≤ N') : St.IsSt w sb bo bw T K N' L := by
 obtain ⟨h1, h2, h3, ⟨f, hf, hfx⟩, ⟨g, s, hg, hgx⟩⟩ := h
 exact ⟨h1, h2, h3, ⟨f, hf.mono hN, hfx⟩, ⟨g, s, hg.mono hN, hgx⟩⟩
def Ldel (i : Nat) : List St.Pr := St.delP L0 (kyN i)
theorem del_none {k : List UInt8} (h : St.whoOf L0 k = none) : St.delP L0 k = L0 := by
 unfold St.delP
 refine List.filter_eq_self.2 fun p hp => ?_
 have h' : L0.find? (fun p => decide (p.2 = k)) = none := by unfold St.whoOf at h; exact Option.map_eq_none_iff.1 h
 have := List.find?_eq_none.1 h' p hp
 simpa using this
theorem who_del {i : Nat} (j : Nat) : St.whoOf (Ldel i) (kyN j) = if kyN j = kyN i then none else St.whoOf L0 (kyN j) := by
 unfold Ldel St.delP
 exact whoOf_del
theorem Revoke_law (w : World) (a : Nat → Addr) (hE : Ei.ErrsA w a) (sb bo bw : Nat) (h : St.IsSt w sb bo bw 8 8 3 L0) (i : Nat) (hi : i < 4) :
 Calls prog 19 #[.pointer (some ⟨sb, 0, none⟩), .agg (bytesV (kyN i))] w fun e w' => (∃ x v, e = .returned (.tuple #[.string x, v])) ∧ St.IsSt w' sb bo bw 8 8 4 (Ldel i) ∧ Sp.Upd w w' [bo, bw] := by
 cases hw : St.whoOf L0 (kyN i) with
 | none =>
  refine (St.Revoke_none w sb bo bw 8 8 3 L0 h (kyN i) (kyN_len i) a hE hw).mono fun e w' ⟨h1, h2⟩ => ⟨⟨_, _, h1⟩, ?_, Sp.Upd.trans (Sp.Upd.refl _ _) (Sp.Upd.of_below h2) (by simp)⟩
  unfold Ldel
  rw [del_none hw]
  exact st_mono (h.below h2) (by decide)
 | some t =>
  have ht : t = whoseN i := ((who_iff hi t).1 hw).2
  refine (St.Revoke_some w sb bo bw 8 8 3 L0 h (kyN i) (kyN_len i) t hw (by decide) ?_ (by rw [ht]; have := whose_len i; omega) _ rfl).mono fun e w' ⟨h1, h2, h3⟩ => ⟨⟨_, _, h1⟩, h2, h3⟩
  unfold St.keysOf
  rw [List.length_map]
  exact Nat.le_trans (List.length_filter_le _ _) (by decide)
theorem New_nil (w : World) (id : List UInt8) (n : Int) (hi : id.length = 32) :
 Calls prog 20 #[.pointer none, .agg (bytesV id), .int .i64 n] w fun e w' => ∃ b sb bo bw, e = .returned (.pointer (some ⟨b, 0, none⟩)) ∧ w.heap.size ≤ b ∧ w.heap.size ≤ sb ∧ w.heap.size ≤ bo ∧ w.heap.size ≤ bw ∧ IsSv w' (fun k => k ≠ sb ∧ k ≠ bo ∧ k ≠ bw) b sb bo bw 0 0 0 [] id (mostN n) idle ∧ Below w.heap.size w w' := by
 have HBS := ϕ (fun sb => built_sv sb id (mostN n) hi)
 have HNS := ϕ (show ∀ W, Calls prog 47 #[.int .i64 0, .int .i64 0] W fun e w' => ∃ sb bo bw, e = .returned (.pointer (some ⟨sb, 0, none⟩)) ∧ St.IsSt w' sb bo bw 0 0 0 [] ∧ Below W.heap.size W w' ∧ W.heap.size ≤ sb ∧ W.heap.size ≤ bo ∧ W.heap.size ≤ bw from fun W => St.New_any W 0 0)
 have HV := ϕ (show (bytesV id).size = 32 by rw [qa_, hi])
 have hm : max 1 (min n 20) = (mostN n : Int) := mostN_eq n
 clear hi
 go_enter func20, ntmps20
 go_upto_region 2 with ((with_reducible refine qd_ ?_); refine Rg.qh_ rfl 22 _ rfl (bytesV id) rfl ?_; intro V1 hK hbV hnV; have HI := ϕ hK; have HB1 := ϕ hbV; clear hK hbV hnV)
 obtain ⟨ib, hib⟩ : ∃ n, w.heap.size = n := exr
 have HI := ϕ (show Rg.Blk V1 ib 22 (bytesV id) from hib ▸ HI.out)
 try rw [hib]
 clear hib
 go_upto_region 3 with (go_at_call 47; refine (HNS.out _).mono ?_; rintro e V2 ⟨sb, bo, bw, rfl, hst, hb1, k1, k2, k3⟩; have HST := ϕ hst; have HI := ϕ (HI.out.below hb1 HI.out.lt); have HK1 := ϕ (Nat.le_trans HB1.out.size k1); have HK2 := ϕ (Nat.le_trans HB1.out.size k2); have HK3 := ϕ (Nat.le_trans HB1.out.size k3); have HB1 := ϕ (HB1.out.trans (hb1.mono HB1.out.size)); clear hst hb1 k1 k2 k3)
 obtain ⟨cs, HBU, HC⟩ : ∃ cs, Hid (prog.built 114 [(0, .pointer (some ⟨sb, 0, none⟩)), (1, .agg (bytesV id)), (2, .int .i64 (mostN n : Int))] = some cs) ∧ Hid (SvC cs sb id (mostN n) ⟨false, 0, [], zB 32⟩) := by
  obtain ⟨cs, h1, h2⟩ := HBS.out sb
  exact ⟨cs, ϕ h1, ϕ h2⟩
 go_wp2_with (first
  | ((with_reducible refine qd_ ?_); refine Cv.qi_ rfl 22 _ rfl ib 0 rfl (bytesV id) _ (fun j v hv => by rw [Nat.zero_add]; exact Rg.Blk.cell HI.out j hv) underlying22 rfl (by rw [HV.out]; kernel_rfl) ?_)
  | ((with_reducible refine qd_ ?_); refine ji_ rfl 114 _ rfl #[(0, .pointer (some ⟨sb, 0, none⟩)), (1, .agg (bytesV id)), (2, .int .i64 (mostN n : Int))] (by go_simp; try (first | rfl | (simp only [hm]; done) | (simp [hm]; done))) cs HBU.out ?_)
  | ((with_reducible refine qd_ ?_); refine Rg.qh_ rfl 114 _ rfl cs rfl ?_; intro V3 hK hbV hnV; have HR := ϕ hK; have HB2 := ϕ hbV; clear hK hbV hnV))
 go_ret
 have hall := HB1.out.trans (HB2.out.mono HB1.out.size)
 have hst := HST.out
 have h1 := hst.1.lt
 have h2 : bo < V2.heap.size := by obtain ⟨_, _, _, ⟨f, hf, _⟩, _⟩ := hst; exact hf.lt
 have h3 : bw < V2.heap.size := by obtain ⟨_, _, _, _, ⟨g, s, hg, _⟩⟩ := hst; exact hg.lt
 have hz := HB2.out.size
 refine ⟨_, sb, bo, bw, rfl, HB1.out.size, HK1.out, HK2.out, HK3.out, ⟨⟨cs, HR.out, HC.out⟩, ⟨by omega, by omega, by omega⟩, fun w2 hu => ?_⟩, hall⟩
 exact st_nil (hst.below HB2.out) (hu.block sb (by omega) (fun e => e.1 rfl)) (hu.block bo (by omega) (fun e => e.2.1 rfl)) (hu.block bw (by omega) (fun e => e.2.2 rfl))
def open1 : Sv := { open0 with tries := 1 }
theorem law_AuthRevoked (w : World) (id : List UInt8) (n : Int) (hid : id.length = 32) (a : Nat → Addr) (hE : Ei.ErrsA w a) (hT : TabR w) (hG : Sg w) : Calls prog 4 #[.agg (bytesV id), .int .i64 n] w fun e w' => e = .returned (.bool true) ∧ Below w.heap.size w w' := by
 obtain ⟨i, hi⟩ : ∃ i, i4 n = i := exr
 obtain ⟨j, hj⟩ : ∃ j, i4 (IntKind.i64.wrap (n + 1)) = j := exr
 have hi4 : i < 4 := hi ▸ i4_lt n
 have hj4 : j < 4 := hj ▸ i4_lt _
 have hij : j = (i + 1) % 4 := by rw [← hj, i4_succ, hi]
 obtain ⟨U1, hU1⟩ : ∃ u, mkS (whoseN i) = u := exr
 obtain ⟨U2, hU2⟩ : ∃ u, mkS (whoseN j) = u := exr
 have hz1 : U1.size ≤ 1000 := by rw [← hU1, mkS_size]; have := whose_len i; omega
 have hz2 : U2.size ≤ 1000 := by rw [← hU2, mkS_size]; have := whose_len j; omega
 have hd1 : U1.data.toList = whoseN i := by rw [← hU1]; rfl
 have hd2 : U2.data.toList = whoseN j := by rw [← hU2]; rfl
 have w1 : St.whoOf (Ldel i) (kyN i) = none := by rw [who_del, if_pos rfl]
 have HAW := ϕ (fun W (hW : Below w.heap.size w W) => awake17 W a (hE.below hW) (hT.below hW) (hG.below hW))
 have HKY := ϕ (fun W (hW : Below w.heap.size w W) => Keys_law W (hG.below hW))
 have HSD := ϕ (show ∀ W, Calls prog 10 #[.int .i64 n] W fun e w' => e = .returned (.agg (bytesV (sdN i))) ∧ Below W.heap.size W w' from fun W => hi ▸ seed_any W n)
 have HSE := ϕ (show ∀ W, Calls prog 10 #[.int .i64 (IntKind.i64.wrap (n + 1))] W fun e w' => e = .returned (.agg (bytesV (sdN j))) ∧ Below W.heap.size W w' from fun W => hj ▸ seed_any W _)
 have HS0 := ϕ (fun W => seed_0 W 0 rfl)
 have HWH := ϕ (show ∀ W, Calls prog 24 #[.int .i64 n] W fun e w' => e = .returned (.string U1) ∧ Below W.heap.size W w' from fun W => hU1 ▸ hi ▸ whose_any W n)
 have HWI := ϕ (show ∀ W, Calls prog 24 #[.int .i64 (IntKind.i64.wrap (n + 1))] W fun e w' => e = .returned (.string U2) ∧ Below W.heap.size W w' from fun W => hU2 ▸ hj ▸ whose_any W _)
 have HKE := ϕ (show ∀ W, Below w.heap.size w W → Calls prog 9 #[.agg (bytesV (sdN i))] W fun e w' => e = .returned (.agg (bytesV (kyN i))) ∧ Below W.heap.size W w' from fun W hW => Key_any W (sdN i) (sdN_len i) (hG.below hW).t)
 have HRV := ϕ (fun W sb bo bw (hW : Below w.heap.size w W) (h : St.IsSt W sb bo bw 8 8 3 L0) => Revoke_law W a (hE.below hW) sb bo bw h i hi4)
 have HNW := ϕ (show ∀ W sb bo bw, St.IsSt W sb bo bw 8 8 4 (Ldel i) → Calls prog 20 #[.pointer (some ⟨sb, 0, none⟩), .agg (bytesV id), .int .i64 3] W fun e w' => ∃ b, e = .returned (.pointer (some ⟨b, 0, none⟩)) ∧ W.heap.size ≤ b ∧ IsSv w' (fun k => W.heap.size ≤ k) b sb bo bw 8 8 4 (Ldel i) id 3 idle ∧ Below W.heap.size W w' from fun W sb bo bw h => New_sv W sb bo bw 8 8 4 (Ldel i) h id 3 hid)
 have HNN := ϕ (show ∀ W, Calls prog 20 #[.pointer none, .agg (bytesV id), .int .i64 3] W fun e w' => ∃ b sb bo bw, e = .returned (.pointer (some ⟨b, 0, none⟩)) ∧ W.heap.size ≤ b ∧ W.heap.size ≤ sb ∧ W.heap.size ≤ bo ∧ W.heap.size ≤ bw ∧ IsSv w' (fun k => k ≠ sb ∧ k ≠ bo ∧ k ≠ bw) b sb bo bw 0 0 0 [] id 3 idle ∧ Below W.heap.size W w' from fun W => New_nil W id 3 hid)
 have HSR := ϕ (show ∀ W, Calls prog 22 #[.string ⟨#[115, 115, 104, 45, 117, 115, 101, 114, 97, 117, 116, 104]⟩] W fun e w' => ∃ g, e = .returned (.agg (askV 5 g 1)) ∧ W.heap.size ≤ g ∧ Rg.Blk w' g 9 #[.string authB] ∧ Below W.heap.size W w' from fun W => by
  have := service_any W ⟨#[115, 115, 104, 45, 117, 115, 101, 114, 97, 117, 116, 104]⟩
  rw [auth_eq] at this ⊢
  exact this)
 have HSC := ϕ (show ∀ W P b sb bo bw T K N L g, Below w.heap.size w W → IsSv W P b sb bo bw T K N L id 3 idle → Rg.Blk W g 9 #[.string authB] → Calls prog 21 #[.pointer (some ⟨b, 0, none⟩), .agg (askV 5 g 1)] W (Got0 W P b sb bo bw T K N L id 3 (accM authB) open0) from fun W P b sb bo bw T K N L g hW h hg => Service_auth W a (hE.below hW) (hT.below hW) P b sb bo bw T K N L id 3 idle h g hg)
 have HRA := ϕ (show ∀ W, Below w.heap.size w W → Calls prog 17 #[.agg (bytesV id), .agg (bytesV (sdN i)), .string U1] W fun e w' => ∃ g, e = .returned (.agg (askV 50 g 4)) ∧ W.heap.size ≤ g ∧ Rg.Blk w' g 9 #[.string U1, .string connB, .string methB, .string (reqR i id (U1 : ByteArray).data.toList)] ∧ Below W.heap.size W w' from fun W hW => Request_law W id i U1 hid (by first | omega | decide) (hG.below hW))
 have HRB := ϕ (show ∀ W, Below w.heap.size w W → Calls prog 17 #[.agg (bytesV id), .agg (bytesV (sdN 0)), .string ⟨#[116]⟩] W fun e w' => ∃ g, e = .returned (.agg (askV 50 g 4)) ∧ W.heap.size ≤ g ∧ Rg.Blk w' g 9 #[.string ⟨#[116]⟩, .string connB, .string methB, .string (reqR 0 id (⟨#[116]⟩ : ByteArray).data.toList)] ∧ Below W.heap.size W w' from fun W hW => Request_law W id 0 ⟨#[116]⟩ hid (by first | omega | decide) (hG.below hW))
 have HRC := ϕ (show ∀ W, Below w.heap.size w W → Calls prog 17 #[.agg (bytesV id), .agg (bytesV (sdN j)), .string U2] W fun e w' => ∃ g, e = .returned (.agg (askV 50 g 4)) ∧ W.heap.size ≤ g ∧ Rg.Blk w' g 9 #[.string U2, .string connB, .string methB, .string (reqR j id (U2 : ByteArray).data.toList)] ∧ Below W.heap.size W w' from fun W hW => Request_law W id j U2 hid (by first | omega | decide) (hG.below hW))
 have HHA := ϕ (show ∀ W P b sb bo bw T K N g, Below w.heap.size w W → IsSv W P b sb bo bw T K N (Ldel i) id 3 open0 → Rg.Blk W g 9 #[.string U1, .string connB, .string methB, .string (reqR i id (U1 : ByteArray).data.toList)] → Calls prog 23 #[.pointer (some ⟨b, 0, none⟩), .agg (askV 50 g 4)] W (Got0 W P b sb bo bw T K N (Ldel i) id 3 failM open1) from fun W P b sb bo bw T K N g hW h hg => Handle_none W a (hE.below hW) (hT.below hW) (hG.below hW) P b sb bo bw T K N _ id 3 open0 h (by decide) g i U1 hg (by first | omega | decide) rfl rfl (by decide) w1)
 have HHB := ϕ (show ∀ W P b sb bo bw T K N g, Below w.heap.size w W → IsSv W P b sb bo bw T K N [] id 3 open0 → Rg.Blk W g 9 #[.string ⟨#[116]⟩, .string connB, .string methB, .string (reqR 0 id (⟨#[116]⟩ : ByteArray).data.toList)] → Calls prog 23 #[.pointer (some ⟨b, 0, none⟩), .agg (askV 50 g 4)] W (Got0 W P b sb bo bw T K N [] id 3 failM open1) from fun W P b sb bo bw T K N g hW h hg => Handle_none W a (hE.below hW) (hT.below hW) (hG.below hW) P b sb bo bw T K N _ id 3 open0 h (by decide) g 0 ⟨#[116]⟩ hg (by first | omega | decide) rfl rfl (by decide) rfl)
 have HQ : ∃ (m2 : Msg) (stz : Sv), (m2.kind = 52 ∧ U2.toList.isEmpty = false ∨ m2.kind = 51 ∧ U2.toList.isEmpty = true) ∧ ∀ W P b sb bo bw T K N g, Below w.heap.size w W → IsSv W P b sb bo bw T K N (Ldel i) id 3 open1 → Rg.Blk W g 9 #[.string U2, .string connB, .string methB, .string (reqR j id (U2 : ByteArray).data.toList)] → Calls prog 23 #[.pointer (some ⟨b, 0, none⟩), .agg (askV 50 g 4)] W (Got0 W P b sb bo bw T K N (Ldel i) id 3 m2 stz) := by
  by_cases hok : whoseN j = []
  · refine ⟨failM, { open1 with tries := 2 }, .inr ⟨rfl, ?_⟩, ?_⟩
    · rw [← hU2, ten_nil]
      simpa using hok
    · have w2 : St.whoOf (Ldel i) (kyN j) = none := by
       rw [who_del, if_neg (ky_ne hj4 hi4 (by omega))]
       rw [(whose_nil hj4).1 hok]; exact who3
      exact fun W P b sb bo bw T K N g hW h hg => Handle_none W a (hE.below hW) (hT.below hW) (hG.below hW) P b sb bo bw T K N _ id 3 open1 h (by decide) g j U2 hg (by first | omega | decide) rfl rfl (by decide) w2
  · refine ⟨sucM, { open1 with ten := U2.data.toList, key := kyN j }, .inl ⟨rfl, ?_⟩, ?_⟩
    · rw [← hU2, ten_nil]
      simpa using hok
    · have w2 : St.whoOf (Ldel i) (kyN j) = some U2.data.toList := by
       rw [who_del, if_neg (ky_ne hj4 hi4 (by omega))]
       rw [hd2]; exact (who_iff hj4 _).2 ⟨hok, rfl⟩
      exact fun W P b sb bo bw T K N g hW h hg => Handle_req W a (hE.below hW) (hT.below hW) (hG.below hW) P b sb bo bw T K N _ id 3 open1 h (by decide) g j U2 hg (by first | omega | decide) rfl rfl (by decide) w2
 obtain ⟨m2, stz, hq2, hq3⟩ := HQ
 have HHC := ϕ hq3
 have HE2 := ϕ hq2
 clear hq2 hq3
 have HV1 := ϕ (show (bytesV id).size = 32 by rw [qa_, hid])
 have HB := ϕ (Below.refl w.heap.size w)
 clear w1 hd1 hd2 hz1 hz2 hU1 hU2 hij hi4 hj4 hi hj hE hT hG hid
 generalize reqR i id U1.data.toList = q1 at *
 generalize reqR j id U2.data.toList = q3 at *
 generalize reqR 0 id (⟨#[116]⟩ : ByteArray).data.toList = q2 at *
 generalize kyN i = ki at *
 generalize Ldel i = Li at *
 generalize sdN i = si at *
 generalize sdN j = sj at *
 generalize sdN 0 = s0 at *
 go_enter func4, ntmps4
 go_upto_region 1 with ((with_reducible refine qd_ ?_); refine Rg.qh_ rfl 22 _ rfl (bytesV id) rfl ?_; intro V1 hK hbV hnV; have H2 := ϕ hK; have HB := ϕ hbV; clear hK hbV hnV)
 obtain ⟨b2, hb2⟩ : ∃ n, w.heap.size = n := exr
 have H2 := ϕ (show Rg.Blk V1 b2 22 (bytesV id) from hb2 ▸ H2.out)
 try rw [hb2]
 clear hb2
 go_upto_region 3 with (go_at_call 7; refine (HAW.out _ HB.out).mono ?_; rintro e w1 ⟨rfl, hb1⟩; have H2 := ϕ (H2.out.below hb1 H2.out.lt); have HB := tm HB hb1; clear hb1)
 go_upto_region 4 with (go_at_call 18; refine (HKY.out _ HB.out).mono ?_; rintro e w2 ⟨sb, bo, bw, rfl, h1, hb1, k1, k2, k3⟩; have HST := ϕ h1; have HL2 := ϕ H2.out.lt; have HN := ϕ (And.intro (Nat.le_trans HB.out.size k2) (Nat.le_trans HB.out.size k3)); have HN2 := ϕ (And.intro (Nat.lt_of_lt_of_le H2.out.lt k2) (Nat.lt_of_lt_of_le H2.out.lt k3)); have H2 := ϕ (H2.out.below hb1 H2.out.lt); have HB := tm HB hb1; clear h1 hb1 k1 k2 k3)
 go_upto_region 7 with (first
  | (go_at_call 10; refine (HSD.out _).mono ?_; rintro e w3 ⟨rfl, hb1⟩; have H2 := ϕ (H2.out.below hb1 H2.out.lt); have HST := ϕ (HST.out.below hb1); have HB := tm HB hb1; clear hb1)
  | (go_at_call 9; refine (HKE.out _ HB.out).mono ?_; rintro e w4 ⟨rfl, hb1⟩; have H2 := ϕ (H2.out.below hb1 H2.out.lt); have HST := ϕ (HST.out.below hb1); have HB := tm HB hb1; clear hb1)
  | (go_at_call 19; refine (HRV.out _ _ _ _ HB.out HST.out).mono ?_; rintro e w5 ⟨⟨xr, vr, rfl⟩, hs, hu⟩; have HST := ϕ hs; have H2 := ϕ (qk_ hu H2.out (by have := HN2.out; simp; omega)); have HB := ϕ (qm_ HB.out hu (fun k hk => by have := HN.out; simp at hk; omega) HB.out.size); clear hs hu))
 go_upto_region 8 with (first
  | ((with_reducible refine qd_ ?_); refine Cv.qi_ rfl 22 _ rfl b2 0 rfl (bytesV id) _ (fun j v hv => by rw [Nat.zero_add]; exact Rg.Blk.cell H2.out j hv) underlying22 rfl (by rw [HV1.out]; kernel_rfl) ?_)
  | (go_at_call 20; refine (HNW.out _ _ _ _ HST.out).mono ?_; rintro e w6 ⟨sa, rfl, hbw, hs, hb1⟩; have HWA := ϕ (Nat.le_trans HB.out.size hbw); have HA2 := ϕ (show ¬ b2 = sa from fun e => by have := H2.out.lt; omega); have HSA := ϕ hs; have H2 := ϕ (H2.out.below hb1 H2.out.lt); have HB := tm HB hb1; clear hs hb1 hbw HST))
 go_upto_region 9 with (first
  | ((with_reducible refine qd_ ?_); refine Cv.qi_ rfl 22 _ rfl b2 0 rfl (bytesV id) _ (fun j v hv => by rw [Nat.zero_add]; exact Rg.Blk.cell H2.out j hv) underlying22 rfl (by rw [HV1.out]; kernel_rfl) ?_)
  | (go_at_call 20; refine (HNN.out _).mono ?_; rintro e w7 ⟨sv, sb2, bo2, bw2, rfl, hbw, k1, k2, k3, hs, hb1⟩; have HLA := ϕ (show sa < w6.heap.size by obtain ⟨cs, h1, _⟩ := HSA.out.blk; exact h1.lt); have HWB := ϕ (Nat.le_trans HB.out.size hbw); have HAB := ϕ (show ¬ sa = sv from fun e => by have := HLA.out; omega); have HPB := ϕ (show sa ≠ sb2 ∧ sa ≠ bo2 ∧ sa ≠ bw2 from ⟨fun e => by have := HLA.out; omega, fun e => by have := HLA.out; omega, fun e => by have := HLA.out; omega⟩); have HB2N := ϕ (show ¬ b2 = sv from fun e => by have := H2.out.lt; omega); have HPV := ϕ (Nat.le_trans (HSA.out.own) (Nat.le_trans (Nat.le_of_lt HLA.out) hbw)); have HSB := ϕ hs; have H2 := ϕ (H2.out.below hb1 H2.out.lt); have HSA := ϕ (HSA.out.below hb1); have HB := tm HB hb1; clear hs hb1 hbw k1 k2 k3))
 go_upto_region 12 with (first
  | (go_at_call 22; refine (HSR.out _).mono ?_; rintro e w8 ⟨gs, rfl, _, hg, hb1⟩; have HGS := ϕ hg; have H2 := ϕ (H2.out.below hb1 H2.out.lt); have HSA := ϕ (HSA.out.below hb1); have HSB := ϕ (HSB.out.below hb1); have HB := tm HB hb1; clear hg hb1)
  | (go_at_call 21; refine (HSC.out _ _ _ _ _ _ _ _ _ _ _ HB.out HSA.out HGS.out).mono ?_; rintro e w9 ⟨vu, vs, vn, vb, rfl, ho, hm, hs, hu⟩; have HSA := ϕ hs; have HSB := ϕ (HSB.out.other hu HPB.out (fun e => HAB.out e.symm)); have H2 := ϕ (qk_ hu H2.out (by have := HA2.out; simp; exact this)); have HB := ϕ (qm_ HB.out hu (fun k hk => by simp at hk; rw [hk]; exact HWA.out) HB.out.size); clear ho hm hs hu))
 clear HGS
 go_upto_region 13 with (first
  | (go_at_call 22; refine (HSR.out _).mono ?_; rintro e w10 ⟨gs2, rfl, _, hg, hb1⟩; have HGS := ϕ hg; have H2 := ϕ (H2.out.below hb1 H2.out.lt); have HSA := ϕ (HSA.out.below hb1); have HSB := ϕ (HSB.out.below hb1); have HB := tm HB hb1; clear hg hb1)
  | (go_at_call 21; refine (HSC.out _ _ _ _ _ _ _ _ _ _ _ HB.out HSB.out HGS.out).mono ?_; rintro e w11 ⟨yu, ys, yn, yb, rfl, ho, hm, hs, hu⟩; have HSB := ϕ hs; have HSA := ϕ (HSA.out.other hu HPV.out HAB.out); have H2 := ϕ (qk_ hu H2.out (by have := HB2N.out; simp; exact this)); have HB := ϕ (qm_ HB.out hu (fun k hk => by simp at hk; rw [hk]; exact HWB.out) HB.out.size); clear ho hm hs hu))
 clear HGS
 have NVw11 := ϕ (show sa < w11.heap.size ∧ sv < w11.heap.size from ⟨by obtain ⟨cs, h1, _⟩ := HSA.out.blk; exact h1.lt, by obtain ⟨cs, h1, _⟩ := HSB.out.blk; exact h1.lt⟩)
 have HSAP := ϕ (show w5.heap.size ≤ w11.heap.size from Nat.le_trans HSA.out.own (Nat.le_of_lt NVw11.out.1))
 have HBP := ϕ (show sb2 < w11.heap.size ∧ bo2 < w11.heap.size ∧ bw2 < w11.heap.size from by
  obtain ⟨h1, _, _, ⟨f, hf, _⟩, ⟨g, s, hg, _⟩⟩ := HSB.out.is
  exact ⟨h1.lt, hf.lt, hg.lt⟩)
 refine RL.start (fun W => Sp.Upd w11 W [sa]) (by kernel_rfl) (Sp.Upd.trans (Sp.Upd.refl _ _) (Sp.Upd.of_below (Below.drew (Below.refl _ _))) (by simp)) ?_
 refine RL.tu 0 ?_; go_frame
 refine RL.tw 1 (v := .agg (bytesV id)) rfl (fun W hSW => RT.qy_ 22 _ rfl _ rfl _ _ (qk_ hSW H2.out (by have := HA2.out; simp; exact this)) underlying22 rfl (by rw [HV1.out]; kernel_rfl)) ?_
 try go_frame
 refine RL.tu 2 ?_; go_frame
 refine' RL.td 3 (v := (.agg (bytesV si))) 10 #[.int .i64 n] ?hc3 ?_
 case hc3 => (intro W hSW; exact (HSD.out W).mono (fun e w9 h9 => ⟨h9.1, h9.2, Sp.Upd.trans hSW (Sp.Upd.of_below h9.2) (by simp)⟩))
 try go_frame
 refine RL.tu 4 ?_; go_frame
 refine' RL.td 5 (v := (.string U1)) 24 #[.int .i64 n] ?hc5 ?_
 case hc5 => (intro W hSW; exact (HWH.out W).mono (fun e w9 h9 => ⟨h9.1, h9.2, Sp.Upd.trans hSW (Sp.Upd.of_below h9.2) (by simp)⟩))
 try go_frame
 refine' RL.rest_v (T := ?TTc8) (fun zu zs zn zb c gr W => Sp.Upd w11 W [sa] ∧ Rg.Blk W c 39 #[.int .i64 0, .slice none 0 0, .slice none 0 0, .slice none 0 0, .slice none 0 0] ∧ w11.heap.size ≤ c ∧ (mC 51 zu zs zn zb).all (·.oneCell') = true ∧ IsSv W (fun k => w5.heap.size ≤ k) sa sb bo bw 8 8 4 Li id 3 open1) ?hmainc8 ?hrrc8
 case hmainc8 =>
  intro hrest
  have ksv := HSA.out
  have HLS := ϕ (show sa < w11.heap.size by obtain ⟨cs, h1, _⟩ := ksv.blk; exact h1.lt)
  have ksv := ksv.below (show Below w11.heap.size w11 w11.drew from Below.drew (Below.refl _ _))
  refine RL.step2 (i := 6) (j := 11) rfl rfl (by kernel_rfl) (by rfl) (by rfl) (fun y1 hly1 hsy1 K0 hK => ?_) (fun y1 hly1 hsy1 K0 hK => ?_)
  · have ksv := ksv.below hly1
    refine RL.jc_ (F := 17) (args := #[.agg (bytesV id), .agg (bytesV si), .string U1]) (by go_simp; try rfl) ?_
    refine (HRA.out y1 (qm_ HB.out (show Sp.Upd w11 y1 [sa] from hsy1) (fun k hk => by simp at hk; rw [hk]; exact HWA.out) HB.out.size)).mono ?_
    rintro e y1x ⟨gr, rfl, _, kgr, hb⟩
    have hSy1x : Sp.Upd w11 y1x [sa] := Sp.Upd.trans hsy1 (Sp.Upd.of_below hb) (by simp)
    have ksv := ksv.below hb
    refine ⟨_, rfl, hK.out _ _ hSy1x ?_⟩
    clear hK
    try go_frame
    refine RL.step2 (i := 7) (j := 11) rfl rfl (by kernel_rfl) (by rfl) (by rfl) (fun y2 hly2 hsy2 K0 hK => ?_) (fun y2 hly2 hsy2 K0 hK => ?_)
    · have ksv := ksv.below hly2
      have kgr := kgr.below hly2 kgr.lt
      refine RL.jc_ (F := 23) (args := #[.pointer (some ⟨sa, 0, none⟩), .agg (askV 50 gr 4)]) (by go_simp; try rfl) ?_
      refine (HHA.out y2 _ _ _ _ _ _ _ _ _ (qm_ HB.out (show Sp.Upd w11 y2 [sa] from hsy2) (fun k hk => by simp at hk; rw [hk]; exact HWA.out) HB.out.size) ksv kgr).mono ?_
      rintro e y2x ⟨zu, zs, zn, zb, rfl, ho, -, ksv2, hb⟩
      have hSy2x : Sp.Upd w11 y2x [sa] := upd_two hsy2 hb
      refine ⟨_, rfl, hK.out _ _ hSy2x ?_⟩
      clear hK
      try go_frame
      refine RL.tu 8 ?_; go_frame
      refine RL.tu 9 ?_; go_frame
      refine RL.tu 10 ?_; go_frame
      refine RL.sk 11 (fun y3 hly3 hsy3 K0 hK => ?_)
      have ksv2 := ksv2.below hly3
      refine RL.jl_ (v := .pointer (some ⟨y3.heap.size, 0, none⟩)) (w' := y3.alloc (.cells #[.int .i64 0, .slice none 0 0, .slice none 0 0, .slice none 0 0, .slice none 0 0] 39)) (by go_simp; try rfl) ?_
      obtain ⟨bb, hbb⟩ : ∃ n, y3.heap.size = n := exr
      have hba : Below y3.heap.size y3 (y3.alloc (.cells #[.int .i64 0, .slice none 0 0, .slice none 0 0, .slice none 0 0, .slice none 0 0] 39)) := (Below.refl _ _).alloc (Nat.le_refl _) _
      have kbb : Rg.Blk (y3.alloc (.cells #[.int .i64 0, .slice none 0 0, .slice none 0 0, .slice none 0 0, .slice none 0 0] 39)) bb 39 #[.int .i64 0, .slice none 0 0, .slice none 0 0, .slice none 0 0, .slice none 0 0] := Rg.Blk.newAt hbb.symm _ _
      have gbb : w11.heap.size ≤ bb := by rw [← hbb]; exact (show Sp.Upd w11 y3 [sa] from hsy3).size
      have ksv2 := ksv2.below hba
      have hSy3y : Sp.Upd w11 (y3.alloc (.cells #[.int .i64 0, .slice none 0 0, .slice none 0 0, .slice none 0 0, .slice none 0 0] 39)) [sa] := Sp.Upd.trans hsy3 (Sp.Upd.of_below ((Below.refl _ _).alloc (Nat.le_refl _) _)) (by simp)
      refine hK.out _ _ hSy3y ?_
      try rw [hbb]
      generalize hyy3 : y3.alloc (.cells #[.int .i64 0, .slice none 0 0, .slice none 0 0, .slice none 0 0, .slice none 0 0] 39) = y3y at *
      clear hbb hba hyy3
      clear hK
      try go_frame
      refine RL.norm #[true, true, true, true, true, true, true, true, true, true, true, true, false, false] (by kernel_rfl) ?_
      exact hrest zu zs zn zb bb gr _ ⟨by assumption, kbb, gbb, ho, ksv2⟩
    · have ksv := ksv.below hly2
      have kgr := kgr.below hly2 kgr.lt
      refine RL.jl_ (v := .pointer (some ⟨y2.heap.size, 0, none⟩)) (w' := y2.alloc (.cells #[.int .i64 0, .slice none 0 0, .slice none 0 0, .slice none 0 0, .slice none 0 0] 39)) (by go_simp; try rfl) ?_
      obtain ⟨bb, hbb⟩ : ∃ n, y2.heap.size = n := exr
      have hba : Below y2.heap.size y2 (y2.alloc (.cells #[.int .i64 0, .slice none 0 0, .slice none 0 0, .slice none 0 0, .slice none 0 0] 39)) := (Below.refl _ _).alloc (Nat.le_refl _) _
      have kbb : Rg.Blk (y2.alloc (.cells #[.int .i64 0, .slice none 0 0, .slice none 0 0, .slice none 0 0, .slice none 0 0] 39)) bb 39 #[.int .i64 0, .slice none 0 0, .slice none 0 0, .slice none 0 0, .slice none 0 0] := Rg.Blk.newAt hbb.symm _ _
      have gbb : w11.heap.size ≤ bb := by rw [← hbb]; exact (show Sp.Upd w11 y2 [sa] from hsy2).size
      have ksv := ksv.below hba
      have kgr := kgr.below hba kgr.lt
      have hSy2y : Sp.Upd w11 (y2.alloc (.cells #[.int .i64 0, .slice none 0 0, .slice none 0 0, .slice none 0 0, .slice none 0 0] 39)) [sa] := Sp.Upd.trans hsy2 (Sp.Upd.of_below ((Below.refl _ _).alloc (Nat.le_refl _) _)) (by simp)
      refine hK.out _ _ hSy2y ?_
      try rw [hbb]
      generalize hyy2 : y2.alloc (.cells #[.int .i64 0, .slice none 0 0, .slice none 0 0, .slice none 0 0, .slice none 0 0] 39) = y2y at *
      clear hbb hba hyy2
      clear hK
      try go_frame
      refine RL.sk 7 (fun y4 hly4 hsy4 K0 hK => ?_)
      have ksv := ksv.below hly4
      have kgr := kgr.below hly4 kgr.lt
      have kbb := kbb.below hly4 kbb.lt
      refine RL.jc_ (F := 23) (args := #[.pointer (some ⟨sa, 0, none⟩), .agg (askV 50 gr 4)]) (by go_simp; try rfl) ?_
      refine (HHA.out y4 _ _ _ _ _ _ _ _ _ (qm_ HB.out (show Sp.Upd w11 y4 [sa] from hsy4) (fun k hk => by simp at hk; rw [hk]; exact HWA.out) HB.out.size) ksv kgr).mono ?_
      rintro e y4x ⟨zu, zs, zn, zb, rfl, ho, -, ksv2, hb⟩
      have hSy4x : Sp.Upd w11 y4x [sa] := upd_two hsy4 hb
      have kbb := qk_ hb kbb (by have := HLS.out; simp; omega)
      refine ⟨_, rfl, hK.out _ _ hSy4x ?_⟩
      clear hK
      try go_frame
      refine RL.tu 8 ?_; go_frame
      refine RL.tu 9 ?_; go_frame
      refine RL.tu 10 ?_; go_frame
      refine RL.norm #[true, true, true, true, true, true, true, true, true, true, true, true, false, false] (by kernel_rfl) ?_
      exact hrest zu zs zn zb bb gr _ ⟨by assumption, kbb, gbb, ho, ksv2⟩
  · have ksv := ksv.below hly1
    refine RL.jl_ (v := .pointer (some ⟨y1.heap.size, 0, none⟩)) (w' := y1.alloc (.cells #[.int .i64 0, .slice none 0 0, .slice none 0 0, .slice none 0 0, .slice none 0 0] 39)) (by go_simp; try rfl) ?_
    obtain ⟨bb, hbb⟩ : ∃ n, y1.heap.size = n := exr
    have hba : Below y1.heap.size y1 (y1.alloc (.cells #[.int .i64 0, .slice none 0 0, .slice none 0 0, .slice none 0 0, .slice none 0 0] 39)) := (Below.refl _ _).alloc (Nat.le_refl _) _
    have kbb : Rg.Blk (y1.alloc (.cells #[.int .i64 0, .slice none 0 0, .slice none 0 0, .slice none 0 0, .slice none 0 0] 39)) bb 39 #[.int .i64 0, .slice none 0 0, .slice none 0 0, .slice none 0 0, .slice none 0 0] := Rg.Blk.newAt hbb.symm _ _
    have gbb : w11.heap.size ≤ bb := by rw [← hbb]; exact (show Sp.Upd w11 y1 [sa] from hsy1).size
    have ksv := ksv.below hba
    have hSy1y : Sp.Upd w11 (y1.alloc (.cells #[.int .i64 0, .slice none 0 0, .slice none 0 0, .slice none 0 0, .slice none 0 0] 39)) [sa] := Sp.Upd.trans hsy1 (Sp.Upd.of_below ((Below.refl _ _).alloc (Nat.le_refl _) _)) (by simp)
    refine hK.out _ _ hSy1y ?_
    try rw [hbb]
    generalize hyy1 : y1.alloc (.cells #[.int .i64 0, .slice none 0 0, .slice none 0 0, .slice none 0 0, .slice none 0 0] 39) = y1y at *
    clear hbb hba hyy1
    clear hK
    try go_frame
    refine RL.sk 6 (fun y5 hly5 hsy5 K0 hK => ?_)
    have ksv := ksv.below hly5
    have kbb := kbb.below hly5 kbb.lt
    refine RL.jc_ (F := 17) (args := #[.agg (bytesV id), .agg (bytesV si), .string U1]) (by go_simp; try rfl) ?_
    refine (HRA.out y5 (qm_ HB.out (show Sp.Upd w11 y5 [sa] from hsy5) (fun k hk => by simp at hk; rw [hk]; exact HWA.out) HB.out.size)).mono ?_
    rintro e y5x ⟨gr, rfl, _, kgr, hb⟩
    have hSy5x : Sp.Upd w11 y5x [sa] := Sp.Upd.trans hsy5 (Sp.Upd.of_below hb) (by simp)
    have ksv := ksv.below hb
    have kbb := kbb.below hb kbb.lt
    refine ⟨_, rfl, hK.out _ _ hSy5x ?_⟩
    clear hK
    try go_frame
    refine RL.sk 7 (fun y6 hly6 hsy6 K0 hK => ?_)
    have ksv := ksv.below hly6
    have kbb := kbb.below hly6 kbb.lt
    have kgr := kgr.below hly6 kgr.lt
    refine RL.jc_ (F := 23) (args := #[.pointer (some ⟨sa, 0, none⟩), .agg (askV 50 gr 4)]) (by go_simp; try rfl) ?_
    refine (HHA.out y6 _ _ _ _ _ _ _ _ _ (qm_ HB.out (show Sp.Upd w11 y6 [sa] from hsy6) (fun k hk => by simp at hk; rw [hk]; exact HWA.out) HB.out.size) ksv kgr).mono ?_
    rintro e y6x ⟨zu, zs, zn, zb, rfl, ho, -, ksv2, hb⟩
    have hSy6x : Sp.Upd w11 y6x [sa] := upd_two hsy6 hb
    have kbb := qk_ hb kbb (by have := HLS.out; simp; omega)
    refine ⟨_, rfl, hK.out _ _ hSy6x ?_⟩
    clear hK
    try go_frame
    refine RL.tu 8 ?_; go_frame
    refine RL.tu 9 ?_; go_frame
    refine RL.tu 10 ?_; go_frame
    refine RL.norm #[true, true, true, true, true, true, true, true, true, true, true, true, false, false] (by kernel_rfl) ?_
    exact hrest zu zs zn zb bb gr _ ⟨by assumption, kbb, gbb, ho, ksv2⟩
 case hrrc8 =>
  rintro zu zs zn zb c8 gr Z0 ⟨ha0, kb, gb, ho, ks⟩
  have HLC := ϕ (show sa < c8 from by have : sa < w11.heap.size := (by obtain ⟨cs, h1, _⟩ := HSA.out.blk; exact h1.lt); omega)
  refine RL.sk 12 (fun va hlva hsva K0 hK => ?_)
  have kb := kb.below hlva kb.lt
  have ks := ks.below hlva
  refine qg_ 39 _ _ rfl c8 (mC 51 zu zs zn zb) _ 39 rfl (by rfl) kb (by kernel_rfl) (by kernel_rfl) ho ?_
  intro Y hY hgY
  refine hK.out _ _ (Sp.Upd.trans hsva (Sp.Upd.of_grown1 hgY) (fun q hq => .inr (by simp at hq; omega))) ?_
  clear hK
  try go_frame
  refine RL.tu 13 ?_; go_frame
  refine RL.done (by kernel_rfl) (fun w13 hlw13 hsw13 => ?_)
  have ksY := ks.other (Sp.Upd.of_grown1 hgY) (Nat.le_trans HSAP.out gb) (fun e => by have := HLC.out; omega)
  have HSA := ϕ (ksY.below hlw13)
  have Hc8 := ϕ (show Rg.Blk w13 c8 39 (mC 51 zu zs zn zb) from hY.below hlw13 hY.lt)
  have H2 := ϕ (qk_ hsw13 H2.out (by have := HA2.out; simp; exact this))
  have HB := ϕ (qm_ HB.out hsw13 (fun k hk => by simp at hk; rw [hk]; exact HWA.out) HB.out.size)
  have HSB := ϕ (HSB.out.other hsw13 HPB.out (fun e => HAB.out e.symm))
  have Nc8 := ϕ (And.intro (show ¬ c8 = sa from fun e => by have := NVw11.out.1; omega) (show ¬ c8 = sv from fun e => by have := NVw11.out.2; omega))
  have NVw13 := ϕ (And.intro (Nat.lt_of_lt_of_le NVw11.out.1 (show Sp.Upd w11 w13 [sa] from hsw13).size) (Nat.lt_of_lt_of_le NVw11.out.2 (show Sp.Upd w11 w13 [sa] from hsw13).size))
  have HSAP := ϕ (Nat.le_trans HSAP.out (show Sp.Upd w11 w13 [sa] from hsw13).size)
  have HBP := ϕ (show sb2 < w13.heap.size ∧ bo2 < w13.heap.size ∧ bw2 < w13.heap.size from by have := HBP.out; have h2 := (show Sp.Upd w11 w13 [sa] from hsw13).size; omega)
  clear hlw13 hsw13 hY hgY ksY kb ks gb ho ha0 hlva hsva HLC
  go_upto_region 14 with fail
  refine RL.start (fun W => Sp.Upd w13 W [sv]) (by kernel_rfl) (Sp.Upd.trans (Sp.Upd.refl _ _) (Sp.Upd.of_below (Below.drew (Below.refl _ _))) (by simp)) ?_
  refine RL.tu 0 ?_; go_frame
  refine RL.tw 1 (v := .agg (bytesV id)) rfl (fun W hSW => RT.qy_ 22 _ rfl _ rfl _ _ (qk_ hSW H2.out (by have := HB2N.out; simp; exact this)) underlying22 rfl (by rw [HV1.out]; kernel_rfl)) ?_
  try go_frame
  refine' RL.td 2 (v := (.agg (bytesV s0))) 10 #[.int .i64 0] ?hc17 ?_
  case hc17 => (intro W hSW; exact (HS0.out W).mono (fun e w9 h9 => ⟨h9.1, h9.2, Sp.Upd.trans hSW (Sp.Upd.of_below h9.2) (by simp)⟩))
  try go_frame
  refine' RL.rest_v (T := ?TTc10) (fun zu zs zn zb c gr W => Sp.Upd w13 W [sv] ∧ Rg.Blk W c 39 #[.int .i64 0, .slice none 0 0, .slice none 0 0, .slice none 0 0, .slice none 0 0] ∧ w13.heap.size ≤ c ∧ (mC 51 zu zs zn zb).all (·.oneCell') = true ∧ IsSv W (fun k => k ≠ sb2 ∧ k ≠ bo2 ∧ k ≠ bw2) sv sb2 bo2 bw2 0 0 0 [] id 3 open1) ?hmainc10 ?hrrc10
  case hmainc10 =>
   intro hrest
   have ksv := HSB.out
   have HLS := ϕ (show sv < w13.heap.size by obtain ⟨cs, h1, _⟩ := ksv.blk; exact h1.lt)
   have ksv := ksv.below (show Below w13.heap.size w13 w13.drew from Below.drew (Below.refl _ _))
   refine RL.step2 (i := 3) (j := 8) rfl rfl (by kernel_rfl) (by rfl) (by rfl) (fun y7 hly7 hsy7 K0 hK => ?_) (fun y7 hly7 hsy7 K0 hK => ?_)
   · have ksv := ksv.below hly7
     refine RL.jc_ (F := 17) (args := #[.agg (bytesV id), .agg (bytesV s0), .string ⟨#[116]⟩]) (by go_simp; try rfl) ?_
     refine (HRB.out y7 (qm_ HB.out (show Sp.Upd w13 y7 [sv] from hsy7) (fun k hk => by simp at hk; rw [hk]; exact HWB.out) HB.out.size)).mono ?_
     rintro e y7x ⟨gr, rfl, _, kgr, hb⟩
     have hSy7x : Sp.Upd w13 y7x [sv] := Sp.Upd.trans hsy7 (Sp.Upd.of_below hb) (by simp)
     have ksv := ksv.below hb
     refine ⟨_, rfl, hK.out _ _ hSy7x ?_⟩
     clear hK
     try go_frame
     refine RL.step2 (i := 4) (j := 8) rfl rfl (by kernel_rfl) (by rfl) (by rfl) (fun y8 hly8 hsy8 K0 hK => ?_) (fun y8 hly8 hsy8 K0 hK => ?_)
     · have ksv := ksv.below hly8
       have kgr := kgr.below hly8 kgr.lt
       refine RL.jc_ (F := 23) (args := #[.pointer (some ⟨sv, 0, none⟩), .agg (askV 50 gr 4)]) (by go_simp; try rfl) ?_
       refine (HHB.out y8 _ _ _ _ _ _ _ _ _ (qm_ HB.out (show Sp.Upd w13 y8 [sv] from hsy8) (fun k hk => by simp at hk; rw [hk]; exact HWB.out) HB.out.size) ksv kgr).mono ?_
       rintro e y8x ⟨zu, zs, zn, zb, rfl, ho, -, ksv2, hb⟩
       have hSy8x : Sp.Upd w13 y8x [sv] := upd_two hsy8 hb
       refine ⟨_, rfl, hK.out _ _ hSy8x ?_⟩
       clear hK
       try go_frame
       refine RL.tu 5 ?_; go_frame
       refine RL.tu 6 ?_; go_frame
       refine RL.tu 7 ?_; go_frame
       refine RL.sk 8 (fun y9 hly9 hsy9 K0 hK => ?_)
       have ksv2 := ksv2.below hly9
       refine RL.jl_ (v := .pointer (some ⟨y9.heap.size, 0, none⟩)) (w' := y9.alloc (.cells #[.int .i64 0, .slice none 0 0, .slice none 0 0, .slice none 0 0, .slice none 0 0] 39)) (by go_simp; try rfl) ?_
       obtain ⟨bb, hbb⟩ : ∃ n, y9.heap.size = n := exr
       have hba : Below y9.heap.size y9 (y9.alloc (.cells #[.int .i64 0, .slice none 0 0, .slice none 0 0, .slice none 0 0, .slice none 0 0] 39)) := (Below.refl _ _).alloc (Nat.le_refl _) _
       have kbb : Rg.Blk (y9.alloc (.cells #[.int .i64 0, .slice none 0 0, .slice none 0 0, .slice none 0 0, .slice none 0 0] 39)) bb 39 #[.int .i64 0, .slice none 0 0, .slice none 0 0, .slice none 0 0, .slice none 0 0] := Rg.Blk.newAt hbb.symm _ _
       have gbb : w13.heap.size ≤ bb := by rw [← hbb]; exact (show Sp.Upd w13 y9 [sv] from hsy9).size
       have ksv2 := ksv2.below hba
       have hSy9y : Sp.Upd w13 (y9.alloc (.cells #[.int .i64 0, .slice none 0 0, .slice none 0 0, .slice none 0 0, .slice none 0 0] 39)) [sv] := Sp.Upd.trans hsy9 (Sp.Upd.of_below ((Below.refl _ _).alloc (Nat.le_refl _) _)) (by simp)
       refine hK.out _ _ hSy9y ?_
       try rw [hbb]
       generalize hyy9 : y9.alloc (.cells #[.int .i64 0, .slice none 0 0, .slice none 0 0, .slice none 0 0, .slice none 0 0] 39) = y9y at *
       clear hbb hba hyy9
       clear hK
       try go_frame
       refine RL.norm #[true, true, true, true, true, true, true, true, true, false, false] (by kernel_rfl) ?_
       exact hrest zu zs zn zb bb gr _ ⟨by assumption, kbb, gbb, ho, ksv2⟩
     · have ksv := ksv.below hly8
       have kgr := kgr.below hly8 kgr.lt
       refine RL.jl_ (v := .pointer (some ⟨y8.heap.size, 0, none⟩)) (w' := y8.alloc (.cells #[.int .i64 0, .slice none 0 0, .slice none 0 0, .slice none 0 0, .slice none 0 0] 39)) (by go_simp; try rfl) ?_
       obtain ⟨bb, hbb⟩ : ∃ n, y8.heap.size = n := exr
       have hba : Below y8.heap.size y8 (y8.alloc (.cells #[.int .i64 0, .slice none 0 0, .slice none 0 0, .slice none 0 0, .slice none 0 0] 39)) := (Below.refl _ _).alloc (Nat.le_refl _) _
       have kbb : Rg.Blk (y8.alloc (.cells #[.int .i64 0, .slice none 0 0, .slice none 0 0, .slice none 0 0, .slice none 0 0] 39)) bb 39 #[.int .i64 0, .slice none 0 0, .slice none 0 0, .slice none 0 0, .slice none 0 0] := Rg.Blk.newAt hbb.symm _ _
       have gbb : w13.heap.size ≤ bb := by rw [← hbb]; exact (show Sp.Upd w13 y8 [sv] from hsy8).size
       have ksv := ksv.below hba
       have kgr := kgr.below hba kgr.lt
       have hSy8y : Sp.Upd w13 (y8.alloc (.cells #[.int .i64 0, .slice none 0 0, .slice none 0 0, .slice none 0 0, .slice none 0 0] 39)) [sv] := Sp.Upd.trans hsy8 (Sp.Upd.of_below ((Below.refl _ _).alloc (Nat.le_refl _) _)) (by simp)
       refine hK.out _ _ hSy8y ?_
       try rw [hbb]
       generalize hyy8 : y8.alloc (.cells #[.int .i64 0, .slice none 0 0, .slice none 0 0, .slice none 0 0, .slice none 0 0] 39) = y8y at *
       clear hbb hba hyy8
       clear hK
       try go_frame
       refine RL.sk 4 (fun y10 hly10 hsy10 K0 hK => ?_)
       have ksv := ksv.below hly10
       have kgr := kgr.below hly10 kgr.lt
       have kbb := kbb.below hly10 kbb.lt
       refine RL.jc_ (F := 23) (args := #[.pointer (some ⟨sv, 0, none⟩), .agg (askV 50 gr 4)]) (by go_simp; try rfl) ?_
       refine (HHB.out y10 _ _ _ _ _ _ _ _ _ (qm_ HB.out (show Sp.Upd w13 y10 [sv] from hsy10) (fun k hk => by simp at hk; rw [hk]; exact HWB.out) HB.out.size) ksv kgr).mono ?_
       rintro e y10x ⟨zu, zs, zn, zb, rfl, ho, -, ksv2, hb⟩
       have hSy10x : Sp.Upd w13 y10x [sv] := upd_two hsy10 hb
       have kbb := qk_ hb kbb (by have := HLS.out; simp; omega)
       refine ⟨_, rfl, hK.out _ _ hSy10x ?_⟩
       clear hK
       try go_frame
       refine RL.tu 5 ?_; go_frame
       refine RL.tu 6 ?_; go_frame
       refine RL.tu 7 ?_; go_frame
       refine RL.norm #[true, true, true, true, true, true, true, true, true, false, false] (by kernel_rfl) ?_
       exact hrest zu zs zn zb bb gr _ ⟨by assumption, kbb, gbb, ho, ksv2⟩
   · have ksv := ksv.below hly7
     refine RL.jl_ (v := .pointer (some ⟨y7.heap.size, 0, none⟩)) (w' := y7.alloc (.cells #[.int .i64 0, .slice none 0 0, .slice none 0 0, .slice none 0 0, .slice none 0 0] 39)) (by go_simp; try rfl) ?_
     obtain ⟨bb, hbb⟩ : ∃ n, y7.heap.size = n := exr
     have hba : Below y7.heap.size y7 (y7.alloc (.cells #[.int .i64 0, .slice none 0 0, .slice none 0 0, .slice none 0 0, .slice none 0 0] 39)) := (Below.refl _ _).alloc (Nat.le_refl _) _
     have kbb : Rg.Blk (y7.alloc (.cells #[.int .i64 0, .slice none 0 0, .slice none 0 0, .slice none 0 0, .slice none 0 0] 39)) bb 39 #[.int .i64 0, .slice none 0 0, .slice none 0 0, .slice none 0 0, .slice none 0 0] := Rg.Blk.newAt hbb.symm _ _
     have gbb : w13.heap.size ≤ bb := by rw [← hbb]; exact (show Sp.Upd w13 y7 [sv] from hsy7).size
     have ksv := ksv.below hba
     have hSy7y : Sp.Upd w13 (y7.alloc (.cells #[.int .i64 0, .slice none 0 0, .slice none 0 0, .slice none 0 0, .slice none 0 0] 39)) [sv] := Sp.Upd.trans hsy7 (Sp.Upd.of_below ((Below.refl _ _).alloc (Nat.le_refl _) _)) (by simp)
     refine hK.out _ _ hSy7y ?_
     try rw [hbb]
     generalize hyy7 : y7.alloc (.cells #[.int .i64 0, .slice none 0 0, .slice none 0 0, .slice none 0 0, .slice none 0 0] 39) = y7y at *
     clear hbb hba hyy7
     clear hK
     try go_frame
     refine RL.sk 3 (fun y11 hly11 hsy11 K0 hK => ?_)
     have ksv := ksv.below hly11
     have kbb := kbb.below hly11 kbb.lt
     refine RL.jc_ (F := 17) (args := #[.agg (bytesV id), .agg (bytesV s0), .string ⟨#[116]⟩]) (by go_simp; try rfl) ?_
     refine (HRB.out y11 (qm_ HB.out (show Sp.Upd w13 y11 [sv] from hsy11) (fun k hk => by simp at hk; rw [hk]; exact HWB.out) HB.out.size)).mono ?_
     rintro e y11x ⟨gr, rfl, _, kgr, hb⟩
     have hSy11x : Sp.Upd w13 y11x [sv] := Sp.Upd.trans hsy11 (Sp.Upd.of_below hb) (by simp)
     have ksv := ksv.below hb
     have kbb := kbb.below hb kbb.lt
     refine ⟨_, rfl, hK.out _ _ hSy11x ?_⟩
     clear hK
     try go_frame
     refine RL.sk 4 (fun y12 hly12 hsy12 K0 hK => ?_)
     have ksv := ksv.below hly12
     have kbb := kbb.below hly12 kbb.lt
     have kgr := kgr.below hly12 kgr.lt
     refine RL.jc_ (F := 23) (args := #[.pointer (some ⟨sv, 0, none⟩), .agg (askV 50 gr 4)]) (by go_simp; try rfl) ?_
     refine (HHB.out y12 _ _ _ _ _ _ _ _ _ (qm_ HB.out (show Sp.Upd w13 y12 [sv] from hsy12) (fun k hk => by simp at hk; rw [hk]; exact HWB.out) HB.out.size) ksv kgr).mono ?_
     rintro e y12x ⟨zu, zs, zn, zb, rfl, ho, -, ksv2, hb⟩
     have hSy12x : Sp.Upd w13 y12x [sv] := upd_two hsy12 hb
     have kbb := qk_ hb kbb (by have := HLS.out; simp; omega)
     refine ⟨_, rfl, hK.out _ _ hSy12x ?_⟩
     clear hK
     try go_frame
     refine RL.tu 5 ?_; go_frame
     refine RL.tu 6 ?_; go_frame
     refine RL.tu 7 ?_; go_frame
     refine RL.norm #[true, true, true, true, true, true, true, true, true, false, false] (by kernel_rfl) ?_
     exact hrest zu zs zn zb bb gr _ ⟨by assumption, kbb, gbb, ho, ksv2⟩
  case hrrc10 =>
   rintro zu zs zn zb c10 gr Z0 ⟨ha0, kb, gb, ho, ks⟩
   have HLC := ϕ (show sv < c10 from by have : sv < w13.heap.size := (by obtain ⟨cs, h1, _⟩ := HSB.out.blk; exact h1.lt); omega)
   refine RL.sk 9 (fun va hlva hsva K0 hK => ?_)
   have kb := kb.below hlva kb.lt
   have ks := ks.below hlva
   refine qg_ 39 _ _ rfl c10 (mC 51 zu zs zn zb) _ 39 rfl (by rfl) kb (by kernel_rfl) (by kernel_rfl) ho ?_
   intro Y hY hgY
   refine hK.out _ _ (Sp.Upd.trans hsva (Sp.Upd.of_grown1 hgY) (fun q hq => .inr (by simp at hq; omega))) ?_
   clear hK
   try go_frame
   refine RL.tu 10 ?_; go_frame
   refine RL.done (by kernel_rfl) (fun w14 hlw14 hsw14 => ?_)
   have ksY := ks.other (Sp.Upd.of_grown1 hgY) (⟨fun e => by have := HBP.out.1; omega, fun e => by have := HBP.out.2.1; omega, fun e => by have := HBP.out.2.2; omega⟩) (fun e => by have := HLC.out; omega)
   have Hc10 := ϕ (show Rg.Blk w14 c10 39 (mC 51 zu zs zn zb) from hY.below hlw14 hY.lt)
   have H2 := ϕ (qk_ hsw14 H2.out (by have := HB2N.out; simp; exact this))
   have HB := ϕ (qm_ HB.out hsw14 (fun k hk => by simp at hk; rw [hk]; exact HWB.out) HB.out.size)
   have HSA := ϕ (HSA.out.other hsw14 HPV.out (HAB.out))
   have Nc10 := ϕ (And.intro (show ¬ c10 = sa from fun e => by have := NVw13.out.1; omega) (show ¬ c10 = sv from fun e => by have := NVw13.out.2; omega))
   have HSAP := ϕ (Nat.le_trans HSAP.out (show Sp.Upd w13 w14 [sv] from hsw14).size)
   have Hc8 := ϕ (qk_ hsw14 Hc8.out (by have := Nc8.out; simp; exact this.2))
   clear hlw14 hsw14 hY hgY ksY kb ks gb ho ha0 hlva hsva HLC
   go_upto_region 15 with fail
   refine RL.start (fun W => Sp.Upd w14 W [sa]) (by kernel_rfl) (Sp.Upd.trans (Sp.Upd.refl _ _) (Sp.Upd.of_below (Below.drew (Below.refl _ _))) (by simp)) ?_
   refine RL.tu 0 ?_; go_frame
   refine RL.tw 1 (v := .agg (bytesV id)) rfl (fun W hSW => RT.qy_ 22 _ rfl _ rfl _ _ (qk_ hSW H2.out (by have := HA2.out; simp; exact this)) underlying22 rfl (by rw [HV1.out]; kernel_rfl)) ?_
   try go_frame
   refine RL.tu 2 ?_; go_frame
   refine RL.tu 3 ?_; go_frame
   refine' RL.td 4 (v := (.agg (bytesV sj))) 10 #[.int .i64 (IntKind.i64.wrap (n + 1))] ?hc31 ?_
   case hc31 => (intro W hSW; exact (HSE.out W).mono (fun e w9 h9 => ⟨h9.1, h9.2, Sp.Upd.trans hSW (Sp.Upd.of_below h9.2) (by simp)⟩))
   try go_frame
   refine RL.tu 5 ?_; go_frame
   refine RL.tu 6 ?_; go_frame
   refine' RL.td 7 (v := (.string U2)) 24 #[.int .i64 (IntKind.i64.wrap (n + 1))] ?hc34 ?_
   case hc34 => (intro W hSW; exact (HWI.out W).mono (fun e w9 h9 => ⟨h9.1, h9.2, Sp.Upd.trans hSW (Sp.Upd.of_below h9.2) (by simp)⟩))
   try go_frame
   refine' RL.rest_v (T := ?TTc12) (fun zu zs zn zb c gr W => Sp.Upd w14 W [sa] ∧ Rg.Blk W c 39 #[.int .i64 0, .slice none 0 0, .slice none 0 0, .slice none 0 0, .slice none 0 0] ∧ w14.heap.size ≤ c ∧ (mC m2.kind zu zs zn zb).all (·.oneCell') = true ∧ IsSv W (fun k => w5.heap.size ≤ k) sa sb bo bw 8 8 4 Li id 3 stz) ?hmainc12 ?hrrc12
   case hmainc12 =>
    intro hrest
    have ksv := HSA.out
    have HLS := ϕ (show sa < w14.heap.size by obtain ⟨cs, h1, _⟩ := ksv.blk; exact h1.lt)
    have ksv := ksv.below (show Below w14.heap.size w14 w14.drew from Below.drew (Below.refl _ _))
    refine RL.step2 (i := 8) (j := 13) rfl rfl (by kernel_rfl) (by rfl) (by rfl) (fun y13 hly13 hsy13 K0 hK => ?_) (fun y13 hly13 hsy13 K0 hK => ?_)
    · have ksv := ksv.below hly13
      refine RL.jc_ (F := 17) (args := #[.agg (bytesV id), .agg (bytesV sj), .string U2]) (by go_simp; try rfl) ?_
      refine (HRC.out y13 (qm_ HB.out (show Sp.Upd w14 y13 [sa] from hsy13) (fun k hk => by simp at hk; rw [hk]; exact HWA.out) HB.out.size)).mono ?_
      rintro e y13x ⟨gr, rfl, _, kgr, hb⟩
      have hSy13x : Sp.Upd w14 y13x [sa] := Sp.Upd.trans hsy13 (Sp.Upd.of_below hb) (by simp)
      have ksv := ksv.below hb
      refine ⟨_, rfl, hK.out _ _ hSy13x ?_⟩
      clear hK
      try go_frame
      refine RL.step2 (i := 9) (j := 13) rfl rfl (by kernel_rfl) (by rfl) (by rfl) (fun y14 hly14 hsy14 K0 hK => ?_) (fun y14 hly14 hsy14 K0 hK => ?_)
      · have ksv := ksv.below hly14
        have kgr := kgr.below hly14 kgr.lt
        refine RL.jc_ (F := 23) (args := #[.pointer (some ⟨sa, 0, none⟩), .agg (askV 50 gr 4)]) (by go_simp; try rfl) ?_
        refine (HHC.out y14 _ _ _ _ _ _ _ _ _ (qm_ HB.out (show Sp.Upd w14 y14 [sa] from hsy14) (fun k hk => by simp at hk; rw [hk]; exact HWA.out) HB.out.size) ksv kgr).mono ?_
        rintro e y14x ⟨zu, zs, zn, zb, rfl, ho, -, ksv2, hb⟩
        have hSy14x : Sp.Upd w14 y14x [sa] := upd_two hsy14 hb
        refine ⟨_, rfl, hK.out _ _ hSy14x ?_⟩
        clear hK
        try go_frame
        refine RL.tu 10 ?_; go_frame
        refine RL.tu 11 ?_; go_frame
        refine RL.tu 12 ?_; go_frame
        refine RL.sk 13 (fun y15 hly15 hsy15 K0 hK => ?_)
        have ksv2 := ksv2.below hly15
        refine RL.jl_ (v := .pointer (some ⟨y15.heap.size, 0, none⟩)) (w' := y15.alloc (.cells #[.int .i64 0, .slice none 0 0, .slice none 0 0, .slice none 0 0, .slice none 0 0] 39)) (by go_simp; try rfl) ?_
        obtain ⟨bb, hbb⟩ : ∃ n, y15.heap.size = n := exr
        have hba : Below y15.heap.size y15 (y15.alloc (.cells #[.int .i64 0, .slice none 0 0, .slice none 0 0, .slice none 0 0, .slice none 0 0] 39)) := (Below.refl _ _).alloc (Nat.le_refl _) _
        have kbb : Rg.Blk (y15.alloc (.cells #[.int .i64 0, .slice none 0 0, .slice none 0 0, .slice none 0 0, .slice none 0 0] 39)) bb 39 #[.int .i64 0, .slice none 0 0, .slice none 0 0, .slice none 0 0, .slice none 0 0] := Rg.Blk.newAt hbb.symm _ _
        have gbb : w14.heap.size ≤ bb := by rw [← hbb]; exact (show Sp.Upd w14 y15 [sa] from hsy15).size
        have ksv2 := ksv2.below hba
        have hSy15y : Sp.Upd w14 (y15.alloc (.cells #[.int .i64 0, .slice none 0 0, .slice none 0 0, .slice none 0 0, .slice none 0 0] 39)) [sa] := Sp.Upd.trans hsy15 (Sp.Upd.of_below ((Below.refl _ _).alloc (Nat.le_refl _) _)) (by simp)
        refine hK.out _ _ hSy15y ?_
        try rw [hbb]
        generalize hyy15 : y15.alloc (.cells #[.int .i64 0, .slice none 0 0, .slice none 0 0, .slice none 0 0, .slice none 0 0] 39) = y15y at *
        clear hbb hba hyy15
        clear hK
        try go_frame
        refine RL.norm #[true, true, true, true, true, true, true, true, true, true, true, true, true, true, false, false] (by kernel_rfl) ?_
        exact hrest zu zs zn zb bb gr _ ⟨by assumption, kbb, gbb, ho, ksv2⟩
      · have ksv := ksv.below hly14
        have kgr := kgr.below hly14 kgr.lt
        refine RL.jl_ (v := .pointer (some ⟨y14.heap.size, 0, none⟩)) (w' := y14.alloc (.cells #[.int .i64 0, .slice none 0 0, .slice none 0 0, .slice none 0 0, .slice none 0 0] 39)) (by go_simp; try rfl) ?_
        obtain ⟨bb, hbb⟩ : ∃ n, y14.heap.size = n := exr
        have hba : Below y14.heap.size y14 (y14.alloc (.cells #[.int .i64 0, .slice none 0 0, .slice none 0 0, .slice none 0 0, .slice none 0 0] 39)) := (Below.refl _ _).alloc (Nat.le_refl _) _
        have kbb : Rg.Blk (y14.alloc (.cells #[.int .i64 0, .slice none 0 0, .slice none 0 0, .slice none 0 0, .slice none 0 0] 39)) bb 39 #[.int .i64 0, .slice none 0 0, .slice none 0 0, .slice none 0 0, .slice none 0 0] := Rg.Blk.newAt hbb.symm _ _
        have gbb : w14.heap.size ≤ bb := by rw [← hbb]; exact (show Sp.Upd w14 y14 [sa] from hsy14).size
        have ksv := ksv.below hba
        have kgr := kgr.below hba kgr.lt
        have hSy14y : Sp.Upd w14 (y14.alloc (.cells #[.int .i64 0, .slice none 0 0, .slice none 0 0, .slice none 0 0, .slice none 0 0] 39)) [sa] := Sp.Upd.trans hsy14 (Sp.Upd.of_below ((Below.refl _ _).alloc (Nat.le_refl _) _)) (by simp)
        refine hK.out _ _ hSy14y ?_
        try rw [hbb]
        generalize hyy14 : y14.alloc (.cells #[.int .i64 0, .slice none 0 0, .slice none 0 0, .slice none 0 0, .slice none 0 0] 39) = y14y at *
        clear hbb hba hyy14
        clear hK
        try go_frame
        refine RL.sk 9 (fun y16 hly16 hsy16 K0 hK => ?_)
        have ksv := ksv.below hly16
        have kgr := kgr.below hly16 kgr.lt
        have kbb := kbb.below hly16 kbb.lt
        refine RL.jc_ (F := 23) (args := #[.pointer (some ⟨sa, 0, none⟩), .agg (askV 50 gr 4)]) (by go_simp; try rfl) ?_
        refine (HHC.out y16 _ _ _ _ _ _ _ _ _ (qm_ HB.out (show Sp.Upd w14 y16 [sa] from hsy16) (fun k hk => by simp at hk; rw [hk]; exact HWA.out) HB.out.size) ksv kgr).mono ?_
        rintro e y16x ⟨zu, zs, zn, zb, rfl, ho, -, ksv2, hb⟩
        have hSy16x : Sp.Upd w14 y16x [sa] := upd_two hsy16 hb
        have kbb := qk_ hb kbb (by have := HLS.out; simp; omega)
        refine ⟨_, rfl, hK.out _ _ hSy16x ?_⟩
        clear hK
        try go_frame
        refine RL.tu 10 ?_; go_frame
        refine RL.tu 11 ?_; go_frame
        refine RL.tu 12 ?_; go_frame
        refine RL.norm #[true, true, true, true, true, true, true, true, true, true, true, true, true, true, false, false] (by kernel_rfl) ?_
        exact hrest zu zs zn zb bb gr _ ⟨by assumption, kbb, gbb, ho, ksv2⟩
    · have ksv := ksv.below hly13
      refine RL.jl_ (v := .pointer (some ⟨y13.heap.size, 0, none⟩)) (w' := y13.alloc (.cells #[.int .i64 0, .slice none 0 0, .slice none 0 0, .slice none 0 0, .slice none 0 0] 39)) (by go_simp; try rfl) ?_
      obtain ⟨bb, hbb⟩ : ∃ n, y13.heap.size = n := exr
      have hba : Below y13.heap.size y13 (y13.alloc (.cells #[.int .i64 0, .slice none 0 0, .slice none 0 0, .slice none 0 0, .slice none 0 0] 39)) := (Below.refl _ _).alloc (Nat.le_refl _) _
      have kbb : Rg.Blk (y13.alloc (.cells #[.int .i64 0, .slice none 0 0, .slice none 0 0, .slice none 0 0, .slice none 0 0] 39)) bb 39 #[.int .i64 0, .slice none 0 0, .slice none 0 0, .slice none 0 0, .slice none 0 0] := Rg.Blk.newAt hbb.symm _ _
      have gbb : w14.heap.size ≤ bb := by rw [← hbb]; exact (show Sp.Upd w14 y13 [sa] from hsy13).size
      have ksv := ksv.below hba
      have hSy13y : Sp.Upd w14 (y13.alloc (.cells #[.int .i64 0, .slice none 0 0, .slice none 0 0, .slice none 0 0, .slice none 0 0] 39)) [sa] := Sp.Upd.trans hsy13 (Sp.Upd.of_below ((Below.refl _ _).alloc (Nat.le_refl _) _)) (by simp)
      refine hK.out _ _ hSy13y ?_
      try rw [hbb]
      generalize hyy13 : y13.alloc (.cells #[.int .i64 0, .slice none 0 0, .slice none 0 0, .slice none 0 0, .slice none 0 0] 39) = y13y at *
      clear hbb hba hyy13
      clear hK
      try go_frame
      refine RL.sk 8 (fun y17 hly17 hsy17 K0 hK => ?_)
      have ksv := ksv.below hly17
      have kbb := kbb.below hly17 kbb.lt
      refine RL.jc_ (F := 17) (args := #[.agg (bytesV id), .agg (bytesV sj), .string U2]) (by go_simp; try rfl) ?_
      refine (HRC.out y17 (qm_ HB.out (show Sp.Upd w14 y17 [sa] from hsy17) (fun k hk => by simp at hk; rw [hk]; exact HWA.out) HB.out.size)).mono ?_
      rintro e y17x ⟨gr, rfl, _, kgr, hb⟩
      have hSy17x : Sp.Upd w14 y17x [sa] := Sp.Upd.trans hsy17 (Sp.Upd.of_below hb) (by simp)
      have ksv := ksv.below hb
      have kbb := kbb.below hb kbb.lt
      refine ⟨_, rfl, hK.out _ _ hSy17x ?_⟩
      clear hK
      try go_frame
      refine RL.sk 9 (fun y18 hly18 hsy18 K0 hK => ?_)
      have ksv := ksv.below hly18
      have kbb := kbb.below hly18 kbb.lt
      have kgr := kgr.below hly18 kgr.lt
      refine RL.jc_ (F := 23) (args := #[.pointer (some ⟨sa, 0, none⟩), .agg (askV 50 gr 4)]) (by go_simp; try rfl) ?_
      refine (HHC.out y18 _ _ _ _ _ _ _ _ _ (qm_ HB.out (show Sp.Upd w14 y18 [sa] from hsy18) (fun k hk => by simp at hk; rw [hk]; exact HWA.out) HB.out.size) ksv kgr).mono ?_
      rintro e y18x ⟨zu, zs, zn, zb, rfl, ho, -, ksv2, hb⟩
      have hSy18x : Sp.Upd w14 y18x [sa] := upd_two hsy18 hb
      have kbb := qk_ hb kbb (by have := HLS.out; simp; omega)
      refine ⟨_, rfl, hK.out _ _ hSy18x ?_⟩
      clear hK
      try go_frame
      refine RL.tu 10 ?_; go_frame
      refine RL.tu 11 ?_; go_frame
      refine RL.tu 12 ?_; go_frame
      refine RL.norm #[true, true, true, true, true, true, true, true, true, true, true, true, true, true, false, false] (by kernel_rfl) ?_
      exact hrest zu zs zn zb bb gr _ ⟨by assumption, kbb, gbb, ho, ksv2⟩
   case hrrc12 =>
    rintro zu zs zn zb c12 gr Z0 ⟨ha0, kb, gb, ho, ks⟩
    have HLC := ϕ (show sa < c12 from by have : sa < w14.heap.size := (by obtain ⟨cs, h1, _⟩ := HSA.out.blk; exact h1.lt); omega)
    refine RL.sk 14 (fun va hlva hsva K0 hK => ?_)
    have kb := kb.below hlva kb.lt
    have ks := ks.below hlva
    refine qg_ 39 _ _ rfl c12 (mC m2.kind zu zs zn zb) _ 39 rfl (by rfl) kb (by kernel_rfl) (by kernel_rfl) ho ?_
    intro Y hY hgY
    refine hK.out _ _ (Sp.Upd.trans hsva (Sp.Upd.of_grown1 hgY) (fun q hq => .inr (by simp at hq; omega))) ?_
    clear hK
    try go_frame
    refine RL.tu 15 ?_; go_frame
    refine RL.done (by kernel_rfl) (fun w15 hlw15 hsw15 => ?_)
    have ksY := ks.other (Sp.Upd.of_grown1 hgY) (Nat.le_trans HSAP.out gb) (fun e => by have := HLC.out; omega)
    have Hc12 := ϕ (show Rg.Blk w15 c12 39 (mC m2.kind zu zs zn zb) from hY.below hlw15 hY.lt)
    have HB := ϕ (qm_ HB.out hsw15 (fun k hk => by simp at hk; rw [hk]; exact HWA.out) HB.out.size)
    have Hc8 := ϕ (qk_ hsw15 Hc8.out (by have := Nc8.out; simp; exact this.1))
    have Hc10 := ϕ (qk_ hsw15 Hc10.out (by have := Nc10.out; simp; exact this.1))
    clear hlw15 hsw15 hY hgY ksY kb ks gb ho ha0 hlva hsva HLC
    rcases HE2.out with ⟨e1, k2⟩ | ⟨e1, k2⟩
    · rw [e1] at Hc12
      clear e1
      have HWJ := ϕ (show ∀ W, Calls prog 24 #[.int .i64 (wrap64 (n + 1))] W fun e w' => e = .returned (.string U2) ∧ Below W.heap.size W w' from fun W => by rw [show wrap64 (n + 1) = IntKind.i64.wrap (n + 1) from (IntWalk.i64_left _).symm]; exact HWI.out W)
      go_upto_region 19 with (go_at_call 24; refine (HWJ.out _).mono ?_; rintro e w16 ⟨rfl, hb1⟩; have HB := tm HB hb1; have Hc8 := ϕ (Hc8.out.below hb1 Hc8.out.lt); have Hc10 := ϕ (Hc10.out.below hb1 Hc10.out.lt); have Hc12 := ϕ (Hc12.out.below hb1 Hc12.out.lt); clear hb1)
      clear k2
      have x1 := Hc8.out.cell 0 (v := .int .i64 51) rfl
      have x2 := Hc10.out.cell 0 (v := .int .i64 51) rfl
      have x3 := Hc12.out.cell 0 (v := .int .i64 52) rfl
      go_wp2_with fail
      go_ret
      exact ⟨rfl, HB.out⟩
    · rw [e1] at Hc12
      clear e1
      have HWJ := ϕ (show ∀ W, Calls prog 24 #[.int .i64 (wrap64 (n + 1))] W fun e w' => e = .returned (.string U2) ∧ Below W.heap.size W w' from fun W => by rw [show wrap64 (n + 1) = IntKind.i64.wrap (n + 1) from (IntWalk.i64_left _).symm]; exact HWI.out W)
      go_upto_region 19 with (go_at_call 24; refine (HWJ.out _).mono ?_; rintro e w16 ⟨rfl, hb1⟩; have HB := tm HB hb1; have Hc8 := ϕ (Hc8.out.below hb1 Hc8.out.lt); have Hc10 := ϕ (Hc10.out.below hb1 Hc10.out.lt); have Hc12 := ϕ (Hc12.out.below hb1 Hc12.out.lt); clear hb1)
      clear k2
      have x1 := Hc8.out.cell 0 (v := .int .i64 51) rfl
      have x2 := Hc10.out.cell 0 (v := .int .i64 51) rfl
      have x3 := Hc12.out.cell 0 (v := .int .i64 51) rfl
      go_wp2_with fail
      go_ret
      exact ⟨rfl, HB.out⟩
end Go.Proofs.YtciibogkfbicfaaGreatDoor.Au
namespace Go.Proofs.YtciibogkfbicfaaGreatDoor.Mg
open Go.RowKit Go.Proofs.YtciibogkfbicfaaGreatDoor.Wi Go.Proofs.YtciibogkfbicfaaGreatDoor.Ow Go.Proofs.YtciibogkfbicfaaGreatDoor.Be
end Go.Proofs.YtciibogkfbicfaaGreatDoor.Mg
namespace Go.Proofs.YtciibogkfbicfaaGreatDoor.Au
open Go.RowKit Go.Proofs.YtciibogkfbicfaaGreatDoor.Wi Go.Proofs.YtciibogkfbicfaaGreatDoor.Ow Go.Proofs.YtciibogkfbicfaaGreatDoor.Be Go.Proofs.YtciibogkfbicfaaGreatDoor.Bl Go.Proofs.YtciibogkfbicfaaGreatDoor.Cv Go.Proofs.YtciibogkfbicfaaGreatDoor.Kx Go.Proofs.YtciibogkfbicfaaGreatDoor.Mg Go.Proofs.YtciibogkfbicfaaGreatDoor.Ed
end Go.Proofs.YtciibogkfbicfaaGreatDoor.Au
namespace Go.Proofs.YtciibogkfbicfaaGreatDoor.Ei
open Go.RowKit Go.ChangeShapes
def errN : List String := ["speakeasy/api.ErrArg", "speakeasy/api.ErrEnd", "speakeasy/api.ErrForm", "speakeasy/api.ErrBig", "speakeasy/api.ErrMac", "speakeasy/api.ErrState", "speakeasy/api.ErrFull", "speakeasy/api.ErrNone", "speakeasy/api.ErrHave", "speakeasy/api.ErrKey", "speakeasy/api.ErrSign", "speakeasy/api.ErrVersion", "speakeasy/api.ErrAlgo", "speakeasy/api.ErrHost", "speakeasy/api.ErrAuth", "speakeasy/api.ErrQuota", "speakeasy/api.ErrName", "speakeasy/api.ErrGone", "speakeasy/api.ErrWindow", "speakeasy/api.ErrKind"]
theorem starE : "*" ++ "errors.errorString" = "*errors.errorString" := by decide
theorem rowE (u : TypeId) (h : prog.typeName? 3 u = some "*errors.errorString") : u = 271 :=
 typeName_ptr_named (nm := "errors.errorString") (by rw [starE]; kernel_rfl) (by kernel_rfl) (by decide) u (by rw [starE]; exact h)
theorem cellsES : prog.cellsOf 293 = 1 := by kernel_rfl
theorem cellsSt : prog.cellsOf 9 = 1 := by kernel_rfl
def IsErr (D : DataW Unit) : Prop := ∃ text : List UInt8, D = .iface "*errors.errorString" (.ptr (.agg [.lit (.string text)]))
def Rows (W : World) (ps : List MemPlace) : Prop := ∀ b off, MemPlace.cell b off ∈ ps →
 (∃ c t, W.heap[b]? = some (.cells c t (0, 0))) ∧ ∀ u v, W.cell? ⟨b, off, none⟩ = some (.iface u v) → Value.okWide prog W .any 0 u v
set_option maxRecDepth 100000 in
theorem head_of {n : String} {D : DataW Unit} {r : List (String × DataW Unit)} {W : World} {g : Nat} {ps : List MemPlace} (h : DataW.LaidVars prog W ((n, D) :: r) ps) (hr : Rows W ps) (hD : IsErr D) (hg : prog.globalNamed n = some g) (ht : (prog.globals[g]?).map (·.type) = some 46) :
 ∃ (a : Addr) (q : List MemPlace), W.cell? ⟨g, 0, none⟩ = some (.iface 271 (.pointer (some a))) ∧ DataW.LaidVars prog W r q ∧ ps = MemPlace.cell g 0 :: MemPlace.cell a.block a.off :: q := by
 obtain ⟨text, rfl⟩ := hD
 obtain ⟨g0, t0, cs0, f0, p0, q0, hg0, ht0, hv0, hd0, hq, e0⟩ := h
 obtain rfl := Option.some.inj (hg.symm.trans hg0)
 obtain rfl := Option.some.inj (ht.symm.trans ht0)
 subst e0
 obtain ⟨l0⟩ := cs0
 have ok0 : ∀ u v, l0 = [.iface u v] → Value.okWide prog W .any 0 u v := fun u v e => by
  subst e
  exact (hr g 0 (by simp [MemPlace.row])).2 u v (by simpa using World.var?_cell hg0 hv0 0)
 obtain ⟨a0, s0, rfl, _, _, _, rfl⟩ := errorString_of_trod underlying46 rowE underlying271 underlying293 rfl rfl underlying9 cellsES cellsSt hd0 ok0
 exact ⟨a0, q0, by simpa using World.var?_cell hg hv0 0, hq, by simp [MemPlace.row]⟩
theorem tail_of {x : String × DataW Unit} {r : List (String × DataW Unit)} {W : World} {ps : List MemPlace} (h : DataW.LaidVars prog W (x :: r) ps) : ∃ p q, DataW.LaidVars prog W r q ∧ ps = p ++ q := by
 obtain ⟨g0, t0, cs0, f0, p0, q0, hg0, ht0, hv0, hd0, hq, e0⟩ := h
 exact ⟨_, q0, hq, e0⟩
theorem place_of {W : World} {n : String} {D : DataW Unit} {g : Nat} (hD : IsErr D) (hg : prog.globalNamed n = some g) (ht : (prog.globals[g]?).map (·.type) = some 46) :
 ∀ (r : List (String × DataW Unit)) (ps : List MemPlace), DataW.LaidVars prog W r ps → Rows W ps → (n, D) ∈ r → ∃ a : Addr, W.cell? ⟨g, 0, none⟩ = some (.iface 271 (.pointer (some a))) ∧ MemPlace.cell a.block a.off ∈ ps
 | [], _, _, _, hm => by simp at hm
 | x :: r, ps, h, hr, hm => by
  rcases List.mem_cons.1 hm with e | hm
  · subst e
    obtain ⟨a, q, hc, _, rfl⟩ := head_of h hr hD hg ht
    exact ⟨a, hc, by simp⟩
  · obtain ⟨p, q, hq, rfl⟩ := tail_of h
    obtain ⟨a, hc, hp⟩ := place_of hD hg ht r q hq (fun b off hb => hr b off (List.mem_append_right _ hb)) hm
    exact ⟨a, hc, List.mem_append_right _ hp⟩
theorem errN_g : ∀ k, k < 20 → prog.globalNamed (errN.getD k "") = some (errG.getD k 0) ∧ (prog.globals[errG.getD k 0]?).map (·.type) = some 46
 | 0, _ => ⟨by kernel_rfl, by kernel_rfl⟩
 | 1, _ => ⟨by kernel_rfl, by kernel_rfl⟩
 | 2, _ => ⟨by kernel_rfl, by kernel_rfl⟩
 | 3, _ => ⟨by kernel_rfl, by kernel_rfl⟩
 | 4, _ => ⟨by kernel_rfl, by kernel_rfl⟩
 | 5, _ => ⟨by kernel_rfl, by kernel_rfl⟩
 | 6, _ => ⟨by kernel_rfl, by kernel_rfl⟩
 | 7, _ => ⟨by kernel_rfl, by kernel_rfl⟩
 | 8, _ => ⟨by kernel_rfl, by kernel_rfl⟩
 | 9, _ => ⟨by kernel_rfl, by kernel_rfl⟩
 | 10, _ => ⟨by kernel_rfl, by kernel_rfl⟩
 | 11, _ => ⟨by kernel_rfl, by kernel_rfl⟩
 | 12, _ => ⟨by kernel_rfl, by kernel_rfl⟩
 | 13, _ => ⟨by kernel_rfl, by kernel_rfl⟩
 | 14, _ => ⟨by kernel_rfl, by kernel_rfl⟩
 | 15, _ => ⟨by kernel_rfl, by kernel_rfl⟩
 | 16, _ => ⟨by kernel_rfl, by kernel_rfl⟩
 | 17, _ => ⟨by kernel_rfl, by kernel_rfl⟩
 | 18, _ => ⟨by kernel_rfl, by kernel_rfl⟩
 | 19, _ => ⟨by kernel_rfl, by kernel_rfl⟩
 | n + 20, h => absurd h (by omega)
theorem errsA_of {W : World} {r : List (String × DataW Unit)} (h : laidMet prog r W) (m : ∀ k, k ∈ someE → ∃ D, (errN.getD k "", D) ∈ r ∧ IsErr D) : ∃ a, ErrsA W a := by
 obtain ⟨ps, hv, hnd, hrows⟩ := h
 have hr : Rows W ps := hrows
 have each : ∀ k, k ∈ someE → ∃ a : Addr, W.cell? ⟨errG.getD k 0, 0, none⟩ = some (.iface 271 (.pointer (some a))) := fun k hk => by
  obtain ⟨D, hm, hD⟩ := m k hk
  obtain ⟨a, ha, _⟩ := place_of hD (errN_g k (someE_lt k hk)).1 (errN_g k (someE_lt k hk)).2 r ps hv hr hm
  exact ⟨a, ha⟩
 refine ⟨fun k => if hk : k - 1 ∈ someE then Classical.choose (each (k - 1) hk) else ⟨0, 0, none⟩, ⟨fun k hk => ?_⟩⟩
 have e : k + 1 - 1 ∈ someE := by simpa using hk
 rw [dif_pos e]
 exact Classical.choose_spec (each (k + 1 - 1) e)
end Go.Proofs.YtciibogkfbicfaaGreatDoor.Ei
namespace Go.Proofs.YtciibogkfbicfaaGreatDoor.Au
open Go.RowKit Go.Proofs.YtciibogkfbicfaaGreatDoor.Cv Go.Proofs.YtciibogkfbicfaaGreatDoor.Kx Go.Proofs.YtciibogkfbicfaaGreatDoor.Mg
theorem bytesV_bv (l : List UInt8) : bytesV l = (Ow.bv l).toArray := by unfold bytesV Ow.bv; rfl
theorem law_AuthRevokedB (w : World) (l : List UInt8) (hl : l.length = 32) (n : Int) (hn : (Lit.int .i64 n).wf = true) (a : Nat → Addr) (hE : Ei.ErrsA w a) (hT : TabR w) (hTb : Sha.Tables w) (hO : Ord w) :
 Calls prog 4 #[.agg (Ow.bv l).toArray, .int .i64 n] w fun e w' => e = .returned (.bool true) ∧ Below w.heap.size w w' := by
 rw [← bytesV_bv]
 exact law_AuthRevoked w l n hl a hE hT ⟨hTb, hO⟩
end Go.Proofs.YtciibogkfbicfaaGreatDoor.Au
namespace Go.Proofs.YtciibogkfbicfaaGreatDoor.Og
open Go.RowKit Go.ChangeShapes Go.WideShapes Go.Joins Go.Deep Go.Proofs.YtciibogkfbicfaaGreatDoor.Ow
variable {H : Type} {enc : TypeId × Value → H} {P : Program} {W : World}
theorem open_arr {r : Reach} {b0 : Nat} {t e : TypeId} {n : Nat} {v : Value} {d : DataW H} {p : List MemPlace} (ht : P.underlying t = some (.array n e)) (hc : P.cellsOf e = 1) (hC : P.cellsOf t = n)
 (hv : Value.okWide P W r b0 t v) (h : DataW.Trod enc P W 0 (fun _ => true) true t v d p) : ∃ xs : List Value, v = .agg xs.toArray ∧ xs.length = n ∧ ∀ x ∈ xs, Reads enc P W e x := by
 simp only [Value.okWide, ht] at hv
 obtain ⟨cs, rfl, hsz, _⟩ := hv
 obtain ⟨fuel, hf⟩ := h
 obtain ⟨xs, m, _, _, _, hlen, hg⟩ := DataW.trod_array ht hf
 have hcl : cs.size = n := hsz.trans hC
 refine ⟨cs.toList, by simp, by simpa using hcl, fun x hx => ?_⟩
 obtain ⟨i, hi⟩ := List.mem_iff_getElem?.1 hx
 have hin : i < n := by
  have := (List.getElem?_eq_some_iff.1 hi).1
  simp at this; omega
 have h1 := hg i hin
 rw [hc, Nat.mul_one] at h1
 have e1 : ((Value.agg cs).cells.toList.drop i).take 1 = [x] := by
  have e0 : (Value.agg cs).cells.toList = cs.toList := by simp [Value.cells]
  rw [e0, List.drop_eq_getElem_cons (by simpa using (show i < cs.size by omega))]
  rw [List.getElem?_eq_getElem (by simpa using (show i < cs.size by omega))] at hi
  injection hi with hi
  rw [hi]; rfl
 rw [e1, List.getElem?_eq_getElem (by omega)] at h1
 exact ⟨m, _, h1⟩
theorem open_bytes {r : Reach} {b0 : Nat} {t e : TypeId} {n : Nat} {v : Value} {d : DataW H} {p : List MemPlace} (ht : P.underlying t = some (.array n e)) (he : P.underlying e = some (.int .u8)) (hc : P.cellsOf e = 1) (hC : P.cellsOf t = n)
 (hv : Value.okWide P W r b0 t v) (h : DataW.Trod enc P W 0 (fun _ => true) true t v d p) : ∃ l : List UInt8, v = .agg (bv l).toArray ∧ l.length = n := by
 obtain ⟨xs, rfl, hl, hx⟩ := open_arr ht hc hC hv h
 obtain ⟨l, rfl, _⟩ := map_of (f := fun (x : UInt8) => Value.int .u8 (x.toNat : Int)) (p := fun _ => True) (xs := xs) (fun x h => by
  obtain ⟨n, rfl, hw⟩ := open_int1 he (hx x h)
  have hb := bounds_u8 hw
  refine ⟨UInt8.ofNat n.toNat, ?_, trivial⟩
  have : (UInt8.ofNat n.toNat).toNat = n.toNat := by rw [UInt8.toNat_ofNat']; omega
  rw [this, Int.toNat_of_nonneg (by omega)])
 exact ⟨l, rfl, by simpa using hl⟩
end Go.Proofs.YtciibogkfbicfaaGreatDoor.Og
namespace Go.Proofs.YtciibogkfbicfaaGreatDoor.Mg
open Go.RowKit Go.Proofs.YtciibogkfbicfaaGreatDoor.Wi Go.Proofs.YtciibogkfbicfaaGreatDoor.Ow Go.Proofs.YtciibogkfbicfaaGreatDoor.Be
def rowD (r : Nat × List UInt8 × List UInt8) : DataW Unit := .agg [.lit (.int .i64 (r.1 : Int)), .lit (.string r.2.1), .lit (.string r.2.2)]
def rowsD : DataW Unit := .agg (rowsL.map rowD)
theorem cells_row : prog.cellsOf 171 = 3 := by kernel_rfl
theorem cells_intM : prog.cellsOf 3 = 1 := by kernel_rfl
theorem cells_strM : prog.cellsOf 9 = 1 := by kernel_rfl
theorem gRows : prog.globalNamed "speakeasy/message.rows" = some 20 := by kernel_rfl
theorem tRows : (prog.globals[20]?).map (·.type) = some 218 := by kernel_rfl
theorem lit_str {s : ByteArray} {l : List UInt8} {p : List MemPlace} {y : DataW Unit × List MemPlace} (h : y = (.lit (.string s.data.toList), p)) (h2 : y.1 = .lit (.string l)) : s = mkS l := by
 subst h
 injection h2 with h2
 injection h2 with h2
 rw [← h2, mkS_of]
theorem tab_head {W : World} {D : DataW Unit} {r : List (String × DataW Unit)} {ps : List MemPlace} (h : DataW.LaidVars prog W (("speakeasy/message.rows", D) :: r) ps) (hD : D = rowsD) : TabR W := by
 obtain ⟨g0, t0, cs0, f0, p0, q0, hg0, ht0, hv0, hd0, hq, e0⟩ := h
 obtain rfl := Option.some.inj (gRows.symm.trans hg0)
 obtain rfl := Option.some.inj (tRows.symm.trans ht0)
 obtain ⟨l0⟩ := cs0
 have hc : ∀ j, W.cell? ⟨20, j, none⟩ = l0[j]? := fun j => by simpa using World.var?_cell gRows hv0 j
 obtain ⟨xs, m, hf, hx, hl, hn, he⟩ := DataW.trod_array underlying218 hd0
 have hxs : xs.map (·.1) = rowsL.map rowD := by
  have h1 := congrArg Prod.fst hx
  rw [hD] at h1
  unfold rowsD at h1
  injection h1 with h1
  exact h1.symm
 have each : ∀ i r, rowsL[i]? = some r → l0[i * 3]? = some (.int .i64 (r.1 : Int)) ∧ l0[i * 3 + 1]? = some (.string (mkS r.2.1)) ∧ l0[i * 3 + 2]? = some (.string (mkS r.2.2)) := by
  intro i r hr
  have hi : i < 29 := (List.getElem?_eq_some_iff.1 hr).1
  have h1 := he i hi
  obtain ⟨x, hxi⟩ : ∃ x, xs[i]? = some x := ⟨_, List.getElem?_eq_getElem (by omega)⟩
  rw [hxi] at h1
  have hfst : x.1 = rowD r := by
   have := congrArg (·[i]?) hxs
   simpa [hxi, hr] using this
  rw [cells_row] at h1
  obtain ⟨y0, y1, y2, n, hx3, hl3, t0, t1, t2⟩ := Go.Deep.trod_struct3 underlying171 h1
  simp only [cells_intM, cells_strM] at t0 t1 t2
  obtain ⟨z0, a0, b0, _⟩ := DataW.trod_int underlying3 t0
  obtain ⟨s1, a1, b1, _⟩ := DataW.trod_string underlying9 t1
  obtain ⟨s2, a2, b2, _⟩ := DataW.trod_string underlying9 t2
  rw [hx3] at hfst
  unfold rowD at hfst
  simp only [DataW.agg.injEq, List.cons.injEq, and_true] at hfst
  obtain ⟨g0, g1, g2⟩ := hfst
  have k0 : z0 = (r.1 : Int) := by
   rw [b0] at g0
   injection g0 with g0
   injection g0 with _ g0
  have k1 := lit_str b1 g1
  have k2 := lit_str b2 g2
  subst k0 k1 k2
  have c0 := congrArg (·[0]?) a0
  have c1 := congrArg (·[0]?) a1
  have c2 := congrArg (·[0]?) a2
  refine ⟨?_, ?_, ?_⟩
  · simpa [List.getElem?_take, List.getElem?_drop] using c0
  · simpa [List.getElem?_take, List.getElem?_drop] using c1
  · simpa [List.getElem?_take, List.getElem?_drop] using c2
 intro j v hv
 rw [hc]
 have hj : j < 87 := by rw [← rowsV_size]; exact (Array.getElem?_eq_some_iff.1 hv).1
 obtain ⟨r, hr, hex⟩ := rowsV_at (j / 3) (by omega)
 obtain ⟨d0, d1, d2⟩ := each _ r hr
 have hv2 : (rowsV.extract (j / 3 * 3) (j / 3 * 3 + 3))[j % 3]? = some v := by
  rw [Array.getElem?_extract, if_pos (by rw [rowsV_size]; omega), show j / 3 * 3 + j % 3 = j by omega]
  exact hv
 rw [hex] at hv2
 have hm : j % 3 = 0 ∨ j % 3 = 1 ∨ j % 3 = 2 := by omega
 rcases hm with hm | hm | hm
 · rw [hm] at hv2
   rw [show j = j / 3 * 3 by omega, d0]; simpa using hv2
 · rw [hm] at hv2
   rw [show j = j / 3 * 3 + 1 by omega, d1]; simpa using hv2
 · rw [hm] at hv2
   rw [show j = j / 3 * 3 + 2 by omega, d2]; simpa using hv2
theorem tab_in {W : World} {D : DataW Unit} (hD : D = rowsD) : ∀ (r : List (String × DataW Unit)) (ps : List MemPlace), DataW.LaidVars prog W r ps → ("speakeasy/message.rows", D) ∈ r → TabR W
 | [], _, _, hm => by simp at hm
 | x :: r, ps, h, hm => by
  rcases List.mem_cons.1 hm with e | hm
  · subst e
    exact tab_head h hD
  · obtain ⟨p, q, hq, rfl⟩ := Ei.tail_of h
    exact tab_in hD r q hq hm
theorem tab_of {W : World} {r : List (String × DataW Unit)} {D : DataW Unit} (h : laidMet prog r W) (hD : D = rowsD) (hm : ("speakeasy/message.rows", D) ∈ r) : TabR W := by
 obtain ⟨ps, hv, _, _⟩ := h
 exact tab_in hD r ps hv hm
end Go.Proofs.YtciibogkfbicfaaGreatDoor.Mg
