/- Revoke: a key goes. -/
import Derived.Test.YtgdbplciepiinaaDoorStLk
import Derived.Test.YtgdbplciepiinaaDoorStAdd
import Derived.Test.YtgdbplciepiinaaDoorStDel
import Derived.Test.YtgdbplciepiinaaDoorStDe
set_option linter.unusedVariables false
set_option linter.unusedSimpArgs false
namespace Go.Proofs.YtgdbplciepiinaaDoor.St
open Go.RowKit Go.Proofs.YtgdbplciepiinaaDoor.Ow Go.Proofs.YtgdbplciepiinaaDoor.Mp Go.Maps
theorem keysOf_other {L : List Pr} (hg : Good L) {k t x : List UInt8} (h : whoOf L k = some t) (hx : x ≠ t) : keysOf (delP L k) x = keysOf L x := by
  rw [keysOf_del, List.filter_eq_self]
  intro y hy
  simp only [decide_eq_true_eq, ne_eq]
  rintro rfl
  unfold keysOf at hy
  obtain ⟨p, hp, e⟩ := List.mem_map.1 hy
  obtain ⟨hp1, hp2⟩ := List.mem_filter.1 hp
  have hq := whoOf_mem h
  have hpe : p.1 = x := of_decide_eq_true hp2
  have : p = (t, y) := inj_of_nodup hg.nd p hp1 _ hq e
  rw [this] at hpe
  exact hx hpe.symm
theorem keysOf_mem {L : List Pr} {k t : List UInt8} (h : whoOf L k = some t) : k ∈ keysOf L t :=
  List.mem_map.2 ⟨(t, k), List.mem_filter.2 ⟨whoOf_mem h, decide_eq_true rfl⟩, rfl⟩
/-- the map of tenants, behind the key's going: something is left -/
theorem of_del {w Y : World} {bo N : Nat} {L : List Pr} (hg : Good L) {f : Lit → Option Value} {t k : List UInt8} {v : Value} (hw : whoOf L k = some t) (hf : RMap Tryd.prog w 9 bo N f (tens L).length) (hfx : OfSpec w L f) (hY : RMap Tryd.prog Y 9 bo (N + 1) (upd f (.string t) (some v)) (if (f (.string t)).isSome then (tens L).length else (tens L).length + 1)) (hgr : w.grownBy Y (some bo)) (hne : keysOf (delP L k) t ≠ []) (hk : KS w v (keysOf (delP L k) t)) :
    ∃ f', RMap Tryd.prog Y 9 bo (N + 1) f' (tens (delP L k)).length ∧ OfSpec Y (delP L k) f' := by
  have ht : (f (.string t)).isSome = true := by
    rcases hfx t with ⟨h1, _⟩ | ⟨_, v', h2, _⟩
    · have := keysOf_mem hw
      rw [h1] at this
      cases this
    · rw [h2]; rfl
  rw [ht, if_pos rfl] at hY
  have hs := tens_del hg hw
  rw [if_neg hne] at hs
  rw [← hs] at hY
  refine ⟨_, hY, fun x => ?_⟩
  by_cases hx : x = t
  · subst hx
    rw [upd_same]
    exact .inr ⟨hne, v, rfl, hk.map hgr (isMap hf)⟩
  · rw [keysOf_other hg hw hx, upd_other f _ (fun e => hx (by injection e))]
    exact hfx.map hgr (isMap hf) x
/-- nothing is left -/
theorem of_gone {w Y Z : World} {bo N : Nat} {L : List Pr} (hg : Good L) {f : Lit → Option Value} {t k : List UInt8} {v : Value} (hw : whoOf L k = some t) (hf : RMap Tryd.prog w 9 bo N f (tens L).length) (hfx : OfSpec w L f) (hY : RMap Tryd.prog Y 9 bo (N + 1) (upd f (.string t) (some v)) (if (f (.string t)).isSome then (tens L).length else (tens L).length + 1)) (hgr : w.grownBy Y (some bo)) (hne : keysOf (delP L k) t = [])
    (hZ : RMap Tryd.prog Z 9 bo (N + 1) (upd (upd f (.string t) (some v)) (.string t) none) (if (upd f (.string t) (some v) (.string t)).isSome then (if (f (.string t)).isSome then (tens L).length else (tens L).length + 1) - 1 else (if (f (.string t)).isSome then (tens L).length else (tens L).length + 1))) (hgz : Y.grownBy Z (some bo)) :
    ∃ f', RMap Tryd.prog Z 9 bo (N + 1) f' (tens (delP L k)).length ∧ OfSpec Z (delP L k) f' := by
  have ht : (f (.string t)).isSome = true := by
    rcases hfx t with ⟨h1, _⟩ | ⟨_, v', h2, _⟩
    · have := keysOf_mem hw
      rw [h1] at this
      cases this
    · rw [h2]; rfl
  have hu : (upd f (.string t) (some v) (.string t)).isSome = true := by rw [upd_same]; rfl
  rw [hu, if_pos rfl, ht, if_pos rfl] at hZ
  have hs := tens_del hg hw
  rw [if_pos hne] at hs
  rw [← hs] at hZ
  refine ⟨_, hZ, fun x => ?_⟩
  by_cases hx : x = t
  · subst hx
    rw [upd_same]
    exact .inl ⟨hne, rfl⟩
  · rw [keysOf_other hg hw hx, upd_other _ _ (fun e => hx (by injection e)), upd_other f _ (fun e => hx (by injection e))]
    have h1 := hfx.map hgr (isMap hf)
    exact h1.map hgz (isMap hY) x
theorem mapDelete_op {P : Program} {o : Oper} {a : Act} {w : World} {Kc : Act → World → Prop} {Q : Exit → Act → World → Prop} (m x : Operand) (t k : TypeId) (hop : o.op = Op.call { callee := Callee.builtin Builtin.delete, args := #[m, x], argTypes := #[t, k] }) (e : TypeId) (K : Keyed P k) (ht : P.underlying t = some (.map k e)) (b n s : Nat) (f : Lit → Option Value)
    (hm : a.eval m = .map (some b)) (h : RMap P w k b n f s) (key : Value) (kl : Lit) (hx : a.eval x = key) (hkey : keyOf P k key = some kl)
    (hK : ∀ w', RMap P w' k b n (upd f kl none) (if (f kl).isSome then s - 1 else s) → w.grownBy w' (some b) → Kc (a.put o.dst (.tuple #[])) w') : Oper.wp P o a w Kc Q := by
  obtain ⟨w', hrun, r1, r2⟩ := h.drop K ht hkey o.type
  unfold Oper.wp
  simp [execOp, hop, resolve, invoke, builtin, hm, hx, hrun, Result.andThen]
  exact hK _ r1 r2
theorem OfSpec.only {w w' : World} {L : List Pr} {f : Lit → Option Value} {b : Nat} (h : OfSpec w L f) (hu : Only w b w') (hm : ∃ es clock, w.heap[b]? = some (.map es clock)) : OfSpec w' L f := h.map (Sp.Upd.grown1 hu) hm
set_option maxRecDepth 20000 in
set_option maxHeartbeats 4000000 in
theorem Revoke_none (w : World) (sb bo bw T M N : Nat) (L : List Pr) (h : IsSt w sb bo bw T M N L) (k : List UInt8) (hk : k.length = 32) (a : Nat → Addr) (hE : Ei.ErrsAll w a) (hw : whoOf L k = none) :
    Calls Tryd.prog 14 #[.pointer (some ⟨sb, 0, none⟩), .agg (Cv.bytesV k)] w fun e w' => e = .returned (.tuple #[.string ⟨#[]⟩, .iface 119 (.pointer (some (a 8)))]) ∧ Below w.heap.size w w' := by
  have HC := Lib.hid (fun W (hW : Below w.heap.size w W) => Lookup_none W sb bo bw T M N L (h.below hW) k hk a (hE.below hW) hw)
  have HV := Lib.hid (show (Cv.bytesV k).size = 32 by rw [Cv.bytesV_size, hk])
  clear h hk hE hw
  go_enter Tryd.func14, Tryd.ntmps14
  go_wp2_with (first
    | (refine Rg.box_fresh rfl 34 _ rfl (Cv.bytesV k) rfl ?_; intro X hX hbX hnX; have HX := Lib.hid hX; have HBX := Lib.hid hbX; clear hX hbX hnX)
    | (refine Cv.load_cells rfl 34 _ rfl w.heap.size 0 rfl (Cv.bytesV k) _ (Cv.Bytes.of_blk HX.out).cells Tryd.underlying34 rfl (by rw [HV.out]; kernel_rfl) ?_; skip)
    | (go_at_call 13; refine (HC.out _ HBX.out).mono ?_; rintro e w1 ⟨rfl, hb⟩; skip; have HB1 := Lib.hid (HBX.out.trans (Below.mono hb HBX.out.size)); clear hb))
  go_ret2
  exact ⟨rfl, HB1.out⟩
theorem own_form {w : World} {B n : Nat} {v : Value} {l : List (List UInt8)} (h : w.ownsRow B 34 32 v n (cells l)) (hl : l ≠ []) (hlen : n = l.length := by rfl) :
    ∃ g n2 c, v = .slice (some ⟨g, 0, none⟩) n2 c ∧ l.length = n2 ∧ n2 ≤ c ∧ c ≤ maxLen ∧ B ≤ g ∧ g < w.heap.size := by
  rcases h.2 with ⟨hv, hn⟩ | ⟨g, cap, cur, hv, hB, hg, hc, hm, _⟩
  · subst hlen
    exact absurd (List.eq_nil_of_length_eq_zero hn) hl
  · exact ⟨g, n, cap, hv, hlen.symm, hc, hm, hB, (Array.getElem?_eq_some_iff.1 hg).1⟩
theorem keysOf_len {L : List Pr} (h : Good L) (t : List UInt8) : ∀ x ∈ keysOf L t, x.length = 32 := fun x hx => by
  obtain ⟨p, hp, rfl⟩ := List.mem_map.1 hx
  exact h.key p (List.mem_filter.1 hp).1
set_option maxRecDepth 20000 in
set_option maxHeartbeats 8000000 in
theorem Revoke_some (w : World) (sb bo bw T M N : Nat) (L : List Pr) (h : IsSt w sb bo bw T M N L) (k : List UInt8) (hk : k.length = 32) (t : List UInt8) (hw : whoOf L k = some t) (hN : N ≤ 1000) (hM : (keysOf L t).length ≤ 1000) (ht : t.length ≤ 1000) (bl : Bool) (hbl : decide (keysOf (delP L k) t = []) = bl) :
    Calls Tryd.prog 14 #[.pointer (some ⟨sb, 0, none⟩), .agg (Cv.bytesV k)] w fun e w' => e = .returned (.tuple #[.string (strB t), .nilIface]) ∧ IsSt w' sb bo bw T M (N + 1) (delP L k) ∧ Sp.Upd w w' [bo, bw] := by
  have HS := Lib.hid h
  have HK := Lib.hid hk
  have HW := Lib.hid hw
  have HNN := Lib.hid hN
  have HML := Lib.hid hM
  have HTL := Lib.hid ht
  have HC := Lib.hid (fun W (hW : Below w.heap.size w W) => Lookup_some W sb bo bw T M N L (h.below hW) k hk t hw)
  have HV := Lib.hid (show (Cv.bytesV k).size = 32 by rw [Cv.bytesV_size, hk])
  have HBO := Lib.hid (show bo < w.heap.size by obtain ⟨_, _, _, ⟨f, hf, _⟩, _⟩ := h; exact hf.lt)
  have HBW := Lib.hid (show bw < w.heap.size by obtain ⟨_, _, _, _, ⟨g, s, hg, _⟩⟩ := h; exact hg.lt)
  have HNO := Lib.hid (show sb ≠ bo by obtain ⟨h1, _, _, ⟨f, hf, _⟩, _⟩ := h; exact hf.ne h1)
  have HNW := Lib.hid (show sb ≠ bw by obtain ⟨h1, _, _, _, ⟨g, s, hg, _⟩⟩ := h; exact hg.ne h1)
  have HOW := Lib.hid h.2.1
  have HGD := Lib.hid h.2.2.1
  clear h hk hw hN hM ht
  go_enter Tryd.func14, Tryd.ntmps14
  go_upto_region 1 with (refine Rg.box_fresh rfl 34 _ rfl (Cv.bytesV k) rfl ?_; intro X hX hbX hnX; have HX := Lib.hid hX; have HBX := Lib.hid hbX; clear hX hbX hnX)
  go_upto_region 4 with (first
    | (refine Cv.load_cells rfl 34 _ rfl w.heap.size 0 rfl (Cv.bytesV k) _ (Cv.Bytes.of_blk HX.out).cells Tryd.underlying34 rfl (by rw [HV.out]; kernel_rfl) ?_; skip)
    | (go_at_call 13; refine (HC.out _ HBX.out).mono ?_; rintro e Z ⟨rfl, hb⟩; skip; have HBZ := Lib.hid (HBX.out.trans (Below.mono hb HBX.out.size)); have HXZ := Lib.hid (HX.out.below hb HX.out.lt); clear hb))
  have HSZ := Lib.hid (HS.out.below HBZ.out)
  obtain ⟨_, _, _, ⟨f, hf, hfx⟩, ⟨g, s, hg, hgx⟩⟩ := HSZ.out
  have HF := Lib.hid hf
  have HFX := Lib.hid (show OfSpec Z L f from hfx)
  have HG := Lib.hid hg
  have HGX := Lib.hid hgx
  clear hf hfx hg hgx
  refine RL.start (Only Z bw) (by kernel_rfl) ((Only.refl Z bw).drew) ?_
  refine' RL.takeV (i := 0) (v := _) rfl (by kernel_rfl) (by kernel_rfl) (by kernel_rfl) (fun _ _ _ h => h) (by rfl) ?hk1 ?_
  case hk1 => (intro W hSW; go_simp; try with_reducible rfl)
  (try simp only [Act.put, List.setIfInBounds_toArray, List.set_cons_zero, List.set_cons_succ])
  refine' RL.takeV (i := 1) (v := _) rfl (by kernel_rfl) (by kernel_rfl) (by kernel_rfl) (fun _ _ _ h => h) (by rfl) ?hk2 ?_
  case hk2 => (intro W hSW; go_simp; try with_reducible rfl)
  (try simp only [Act.put, List.setIfInBounds_toArray, List.set_cons_zero, List.set_cons_succ])
  refine' RL.takeV (i := 2) (v := _) rfl (by kernel_rfl) (by kernel_rfl) (by kernel_rfl) (fun _ _ _ h => h) (by rfl) ?hk3 ?_
  case hk3 => (intro W hSW; go_simp; try with_reducible rfl)
  (try simp only [Act.put, List.setIfInBounds_toArray, List.set_cons_zero, List.set_cons_succ])
  refine' RL.takeV (i := 3) (v := _) rfl (by kernel_rfl) (by kernel_rfl) (by kernel_rfl) (fun _ _ _ h => h) (by rfl) ?hk4 ?_
  case hk4 => (intro W hSW; have c3 := (hSW.blk HSZ.out.1 HNW.out).cell 3 (v := .map (some bw)) rfl; go_simp; try with_reducible rfl)
  (try simp only [Act.put, List.setIfInBounds_toArray, List.set_cons_zero, List.set_cons_succ])
  refine RL.takeV (i := 4) (v := .agg (Cv.bytesV k)) rfl (by kernel_rfl) (by kernel_rfl) (by kernel_rfl) (fun _ _ _ h => h) (by rfl) (fun W hSW => RT.run_row 34 _ rfl _ rfl _ _ (hSW.blk HXZ.out (by have := HBW.out; omega)) Tryd.underlying34 rfl (by rw [HV.out]; kernel_rfl)) ?_
  (try simp only [Act.put, List.setIfInBounds_toArray, List.set_cons_zero, List.set_cons_succ])
  refine RL.stepK (i := 5) rfl (by kernel_rfl) (by rfl) (fun wk hlwk hswk K hK => ?_)
  have HWK := Lib.hid (show Below Z.heap.size Z wk from (Below.drew (Below.refl _ _)).trans hlwk)
  refine mapDelete_op _ _ 56 34 rfl 62 keyed_key Tryd.underlying56 bw N s g rfl (HG.out.below HWK.out HG.out.lt) (.agg (Cv.bytesV k)) _ rfl (key32 k HK.out) ?_
  intro Y hY hgY
  have HY := Lib.hid hY; have HGY := Lib.hid hgY
  refine hK.out _ _ (Only.grown hswk hgY (fun j hj => .inl (by cases hj; rfl))) ?_
  clear hK hY hgY
  (try simp only [Act.put, List.setIfInBounds_toArray, List.set_cons_zero, List.set_cons_succ])
  refine RL.done (by kernel_rfl) (fun wd hlwd hswd => ?_)
  have HWY := Lib.hid (HY.out.below hlwd HY.out.lt)
  have HU := Lib.hid (show Only Z bw wd from hswd)
  clear hlwd hswd
  have HBZW := Lib.hid (show ∃ es clock, Z.heap[bw]? = some (.map es clock) from isMap HG.out)
  have HST := Lib.hid (HU.out.blk HSZ.out.1 HNW.out)
  have HXD := Lib.hid (HU.out.blk HXZ.out (by have := HBW.out; omega))
  have HFD := Lib.hid (HF.out.keep (HU.out.block bo HF.out.lt (by simpa using HOW.out)))
  have HFXD := Lib.hid (HFX.out.only HU.out HBZW.out)
  have HTB := Lib.hid (show (strB t).size ≤ maxLen by have := HTL.out; unfold strB maxLen; show t.toArray.size ≤ _; rw [List.size_toArray]; omega)
  obtain ⟨v, hv, hks⟩ : ∃ v, f (.string t) = some v ∧ KS wd v (keysOf L t) := by
    rcases HFXD.out t with ⟨h1, _⟩ | ⟨_, v, h2, h3⟩
    · have := keysOf_mem HW.out
      rw [h1] at this
      cases this
    · exact ⟨v, h2, h3⟩
  have HKS := Lib.hid hks
  have HFT := Lib.hid hv
  have HL1 := Lib.hid (show ∀ W, Below wd.heap.size wd W → (Instr.lookup 55 (.map (some bo)) (.string (strB t)) false).run Tryd.prog W = .ok v W from fun W hW => by
    have := (HFD.out.below hW HFD.out.lt).look keyed_str Tryd.underlying55 (show (zeroValue 50).run Tryd.prog W = .ok (.slice none 0 0) W by kernel_rfl) (key_str Tryd.underlying9 (strB t) HTB.out)
    rw [show f (.string (strB t).data.toList) = some v from hv] at this
    exact this)
  have HCL := Lib.hid (fun W (hW : Below wd.heap.size wd W) => Clone_any W v (keysOf L t) (hks.below hW) (by have := HML.out; omega))
  clear hks hv
  have c2 := HST.out.cell 2 (v := .map (some bo)) rfl
  have hl1 := HL1.out wd (Below.refl _ _)
  go_upto_region 6 with (first
    | (go_at_call 25; refine (HCL.out _ (Below.refl _ _)).mono ?_; rintro e w2 ⟨v2, rfl, ho, hb2⟩; skip; have HO := Lib.hid ho; have HB2 := Lib.hid hb2; clear ho hb2)
    | (go_at_call 24; obtain ⟨gb, n2, cp, hv2, hn2, hc2, hm2, hgb⟩ := own_form HO.out (List.ne_nil_of_mem (keysOf_mem HW.out)); subst hv2; refine (Delete_any w2 gb cp n2 (keysOf L t) (KR.own (by rw [hn2] at HO; exact HO.out) hn2) (by have := KS.own HO.out (keysOf_len HGD.out t); exact this) hn2 (by have := HML.out; omega) hc2 hm2 (keysOf_len HGD.out t) hgb.2 k HK.out (keysOf_mem HW.out) w.heap.size (HXD.out.below HB2.out HXD.out.lt) (by have := HXD.out.lt; have := hgb.1; omega)).mono ?_; rintro e w3 ⟨p, hp, rfl, hra, hgr⟩; skip; have HRA := Lib.hid hra; have HP := Lib.hid hp; have HGB := Lib.hid hgb; have HC2 := Lib.hid hc2; have HM2 := Lib.hid hm2; have HB3 := Lib.hid (show Below wd.heap.size wd w3 from HB2.out.grown hgr HB2.out.size (fun j hj => by cases hj; exact hgb.1)); have HN2 := Lib.hid hn2; have HGR := Lib.hid hgr; clear hra hp hgb hc2 hm2 hgr))
  have HPL := Lib.hid (show p = (keysOf (delP L k) t).length by rw [HP.out, keysOf_del])
  have HKV := Lib.hid (show KS w3 (.slice (some ⟨gb, 0, none⟩) p cp) (keysOf (delP L k) t) by
    refine ⟨some ⟨gb, 0, none⟩, cp, by rw [HPL.out], ?_, HM2.out, ?_, keysOf_len (HGD.out.del k) t⟩
    · have h1 : (keysOf (delP L k) t).length ≤ (keysOf L t).length := by rw [keysOf_del]; exact List.length_filter_le _ _
      have := HC2.out; have := HN2.out; omega
    · intro j x hx
      refine ⟨gb, 0, rfl, Nat.lt_of_lt_of_le HGB.out.2 HGR.out.size, ?_⟩
      rw [keysOf_del] at hx
      exact HRA.out j x hx)
  have HST3 := Lib.hid (HST.out.below HB3.out HST.out.lt)
  have HF3 := Lib.hid (HFD.out.below HB3.out HFD.out.lt)
  have HFX3 := Lib.hid (HFXD.out.below HB3.out)
  have HW3 := Lib.hid (HWY.out.below HB3.out HWY.out.lt)
  have HUZ := Lib.hid (show Sp.Upd w w3 [bw] from Sp.Upd.trans (Sp.Upd.trans (Sp.Upd.trans (Sp.Upd.refl w [bw]) (Sp.Upd.of_below HBZ.out) (by simp)) HU.out (fun x hx => .inl hx)) (Sp.Upd.of_below HB3.out) (by simp))
  clear c2 hl1
  have d2 := HST3.out.cell 2 (v := .map (some bo)) rfl
  go_upto_region 7 with (refine Mp.store_op rfl _ _ _ 55 rfl 9 50 keyed_str Tryd.underlying55 bo N _ f rfl HF3.out (by have := HNN.out; unfold maxLen; omega) (.string (strB t)) (.slice (some ⟨gb, 0, none⟩) p cp) _ rfl rfl (key_str Tryd.underlying9 (strB t) HTB.out) ?_; intro V hV hgV; have HV1 := Lib.hid hV; have HGV := Lib.hid hgV; clear hV hgV)
  have HWV := Lib.hid (HW3.out.keep (HGV.out.block bw HW3.out.lt (fun e => HOW.out (Option.some.inj e).symm)))
  have HSV := Lib.hid (blk_kept HST3.out HGV.out HNO.out)
  have HUV := Lib.hid (show Sp.Upd w V [bo, bw] from Sp.Upd.trans (Sp.Upd.trans (Sp.Upd.refl w [bo, bw]) HUZ.out (fun x hx => .inl (by simp at hx; simp [hx]))) (Sp.Upd.of_grown1 HGV.out) (fun x hx => .inl (by simp at hx; simp [hx])))
  clear d2
  have hwho : ∀ x, upd g (.string k) none (.string x) = (whoOf (delP L k) x).map fun t => Value.agg #[.string (strB t)] := fun x => by
    rw [whoOf_del]
    by_cases hx : x = k
    · subst hx
      rw [if_pos rfl, upd_same]; rfl
    · rw [if_neg hx, upd_other g _ (fun e => hx (by injection e))]
      exact HGX.out x
  have HWHO := Lib.hid hwho
  clear hwho
  cases bl with
  | true =>
    have he := of_decide_eq_true hbl
    have HE := Lib.hid he
    have hp0 : p = 0 := by rw [HPL.out, he]; rfl
    clear he
    subst hp0
    have e2 := HSV.out.cell 2 (v := .map (some bo)) rfl
    go_upto_region 9 with (refine Mp.delete_op rfl _ _ 55 9 rfl 50 keyed_str Tryd.underlying55 bo (N + 1) _ _ rfl HV1.out (.string (strB t)) _ rfl (key_str Tryd.underlying9 (strB t) HTB.out) ?_; intro Y2 hY2 hgY2; have HY2 := Lib.hid hY2; have HGY2 := Lib.hid hgY2; clear hY2 hgY2)
    clear e2
    go_wp2
    go_ret2
    obtain ⟨f2, hf2, hfx2⟩ := of_gone HGD.out HW.out HF3.out HFX3.out HV1.out HGV.out HE.out HY2.out HGY2.out
    refine ⟨rfl, ⟨blk_kept HSV.out HGY2.out HNO.out, HOW.out, HGD.out.del k, ⟨f2, hf2, hfx2⟩, ⟨_, _, (HWV.out.keep (HGY2.out.block bw HWV.out.lt (fun e => HOW.out (Option.some.inj e).symm))).mono (Nat.le_succ N), HWHO.out⟩⟩, ?_⟩
    exact Sp.Upd.trans HUV.out (Sp.Upd.of_grown1 HGY2.out) (fun x hx => .inl (by simp at hx; simp [hx]))
  | false =>
    have he := of_decide_eq_false hbl
    have HE := Lib.hid he
    have hp0 : ¬ p = 0 := by rw [HPL.out]; exact fun e => he (List.eq_nil_of_length_eq_zero e)
    clear he
    go_wp2
    go_ret2
    obtain ⟨f2, hf2, hfx2⟩ := of_del HGD.out HW.out HF3.out HFX3.out HV1.out HGV.out HE.out HKV.out
    exact ⟨rfl, ⟨HSV.out, HOW.out, HGD.out.del k, ⟨f2, hf2, hfx2⟩, ⟨_, _, HWV.out.mono (Nat.le_succ N), HWHO.out⟩⟩, HUV.out⟩
end Go.Proofs.YtgdbplciepiinaaDoor.St
