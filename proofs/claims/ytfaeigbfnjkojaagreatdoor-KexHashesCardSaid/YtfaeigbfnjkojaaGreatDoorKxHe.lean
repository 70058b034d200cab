/- KexHashes. -/
import Derived.Test.YtfaeigbfnjkojaaGreatDoorKxHb
import Derived.Test.YtfaeigbfnjkojaaGreatDoorKxHd
import Derived.Test.YtfaeigbfnjkojaaGreatDoorKxY
import Derived.Test.YtfaeigbfnjkojaaGreatDoorKxHo
set_option linter.unusedVariables false
set_option linter.unusedSimpArgs false
namespace Go.Proofs.YtfaeigbfnjkojaaGreatDoor.Kx
open Go.RowKit Go.Proofs.YtfaeigbfnjkojaaGreatDoor.Cl
attribute [local irreducible] mulK bytesE zero b9 derL hsL
theorem few_sz (s : ByteArray) (n : Nat) (hn : n ≤ 100) : (s.extract 0 n).size ≤ 1000 := by
  rw [ByteArray.size_extract]; omega
set_option maxRecDepth 20000 in
set_option maxHeartbeats 8000000 in
theorem law_KexHashes (w : World) (a : Nat → Addr) (hE : Ei.ErrsAll w a) (hY : Ei.ErrTy w) (hT : Sha.Tables w) (x0 : Xc) (p q s : List UInt8) (hp : p.length = 32) (hq : q.length = 32) (hs : s.length = 32) :
    Calls Tryz.prog 5 #[.agg (exV x0 (p ++ (q ++ s)))] w fun e w' => e = .returned (.bool true) ∧ Below w.heap.size w w' := by
  obtain ⟨x, hx⟩ : ∃ y, x0.few = y := ⟨_, rfl⟩
  have hsz : x.a.size ≤ 1000 ∧ x.b.size ≤ 1000 ∧ x.c.size ≤ 1000 ∧ x.d.size ≤ 1000 ∧ x.h.size ≤ 1000 := by
    rw [← hx]; exact ⟨few_sz _ 60 (by decide), few_sz _ 60 (by decide), few_sz _ 100 (by decide), few_sz _ 100 (by decide), few_sz _ 60 (by decide)⟩
  obtain ⟨zs, hzs⟩ : ∃ l, Sha.sha 32 (hsL x p q s) = l := ⟨_, rfl⟩
  have HZL := Lib.hid (show zs.length = 32 from hzs ▸ Sha.sha_length 32 (by decide) _)
  have HFW := Lib.hid (fun W => show Calls Tryz.prog 14 #[.agg (exV x0 (p ++ (q ++ s)))] W fun e w' => e = .returned (.agg (exV x (p ++ (q ++ s)))) ∧ Below W.heap.size W w' from hx ▸ Few_any W x0 (p ++ (q ++ s)) (by rw [List.length_append, List.length_append, hp, hq, hs]))
  have HHS := Lib.hid (fun W (hW : Sha.Tables W) => show Calls Tryz.prog 15 #[.agg (exV x (p ++ (q ++ s)))] W fun e w' => e = .returned (.agg (Cv.bytesV zs)) ∧ Below W.heap.size W w' from hzs ▸ Hash_any W x p q s hp hq hs hsz hW)
  have HRH := Lib.hid (fun W b1 o1 c1 b2 o2 c2 b3 o3 c3 h1 h2 h3 k1 k2 k3 => hzs ▸ RefHash_any W x p q s hp hq hs hsz b1 o1 c1 b2 o2 c2 b3 o3 c3 h1 h2 h3 k1 k2 k3)
  have HES := Lib.hid (show ∀ y, (exV y (p ++ (q ++ s))).size = 101 from fun y => by rw [exV_size, List.length_append, List.length_append, hp, hq, hs])
  have HZS := Lib.hid (show (Cv.bytesV zs).size = 32 from by rw [Cv.bytesV_size, HZL.out])
  have HPL := Lib.hid hp
  have HQL := Lib.hid hq
  have HSL := Lib.hid hs
  have HE := Lib.hid hE
  have HY := Lib.hid hY
  have HT := Lib.hid hT
  clear hE hY hT hp hq hs hx hsz hzs
  go_enter Tryz.func5, Tryz.ntmps5
  go_upto_region 1 with ((with_reducible refine gate_ ?_); refine Rg.box_fresh rfl 40 _ rfl (exV x0 (p ++ (q ++ s))) rfl ?_; intro X hX hbX hnX; have HX0 := Lib.hid hX; have HB := Lib.hid hbX; clear hX hbX hnX)
  obtain ⟨xb, hxb⟩ : ∃ n, w.heap.size = n := ⟨_, rfl⟩
  have HX0 := Lib.hid (hxb ▸ HX0.out)
  have HXB := Lib.hid (show w.heap.size ≤ xb from by omega)
  try rw [hxb]
  clear hxb
  go_upto_region 3 with (go_at_call 7; refine (awake14 _ a (HE.out.below HB.out) (HY.out.below HB.out) (tables_later HT.out HB.out)).mono ?_; rintro e w1 ⟨rfl, hb1⟩; skip; have HX1 := Lib.hid (HX0.out.below hb1 HX0.out.lt); have HB1 := Lib.hid (HB.out.trans (hb1.mono HB.out.size)); clear hb1)
  clear HX0 HB
  go_upto_region 4 with (first
    | ((with_reducible refine gate_ ?_); refine Cv.load_cells rfl 40 _ rfl xb 0 rfl (exV x0 (p ++ (q ++ s))) _ (fun j v hv => by rw [Nat.zero_add]; exact HX1.out.cell j hv) Tryz.underlying40 rfl (by rw [HES.out]; kernel_rfl) ?_; skip)
    | (go_at_call 14; refine (HFW.out _).mono ?_; rintro e w2 ⟨rfl, hb1⟩; skip; have HX2 := Lib.hid (HX1.out.below hb1 HX1.out.lt); have HB2 := Lib.hid (HB1.out.trans (hb1.mono HB1.out.size)); clear hb1)
    | ((with_reducible refine gate_ ?_); refine Cv.store_blk rfl 40 _ _ rfl xb (exV x (p ++ (q ++ s))) (exV x0 (p ++ (q ++ s))) 40 rfl rfl HX2.out (by rw [HES.out]; kernel_rfl) (by rw [HES.out, HES.out]) (exV_one _ _) ?_; intro V3 hV hgV; have HX3 := Lib.hid hV; have HB3 := Lib.hid (HB2.out.grown hgV HB2.out.size (fun j e => by cases e; exact HXB.out)); clear hV hgV))
  clear HX1 HB1 HX2 HB2
  go_upto_region 5 with (first
    | ((with_reducible refine gate_ ?_); refine Cv.load_cells rfl 40 _ rfl xb 0 rfl (exV x (p ++ (q ++ s))) _ (fun j v hv => by rw [Nat.zero_add]; exact HX3.out.cell j hv) Tryz.underlying40 rfl (by rw [HES.out]; kernel_rfl) ?_; skip)
    | (go_at_call 15; refine (HHS.out _ (tables_later HT.out HB3.out)).mono ?_; rintro e w4 ⟨rfl, hb1⟩; skip; have HB4 := Lib.hid hb1; clear hb1)
    | (refine Rg.store_fresh rfl 22 _ _ rfl (Cv.bytesV zs) _ 22 rfl rfl (by rw [HZS.out]; kernel_rfl) (by rw [HZS.out]; rfl) (Cv.bytesV_one _) ?_; intro V hX hbX; have HV := Lib.hid hX; have HBV := Lib.hid hbX; clear hX hbX))
  obtain ⟨zb, hzb⟩ : ∃ n, w4.heap.size = n := ⟨_, rfl⟩
  have HZB := Lib.hid (hzb ▸ HV.out)
  try rw [hzb]
  have HBX := Lib.hid (HB4.out.trans (HBV.out.mono HB4.out.size))
  have HX := Lib.hid (HX3.out.below HBX.out HX3.out.lt)
  have HB := Lib.hid (HB3.out.trans (HBX.out.mono HB3.out.size))
  clear HB4 HBV HBX HX3 HB3 HV hzb
  refine RL.start (RL.Aft V) (by kernel_rfl) (RL.Aft.drew (RL.Aft.refl V)) ?_
  refine' RL.takeV (i := 0) (v := _) rfl (by kernel_rfl) (by kernel_rfl) (by kernel_rfl) (fun _ _ _ h => h) (by rfl) ?hk33 ?_
  case hk33 => (intro W hSW; go_simp; try with_reducible rfl)
  (try simp only [Act.put, List.setIfInBounds_toArray, List.set_cons_zero, List.set_cons_succ])
  refine' RL.takeV (i := 1) (v := _) rfl (by kernel_rfl) (by kernel_rfl) (by kernel_rfl) (fun _ _ _ h => h) (by rfl) ?hk34 ?_
  case hk34 => (intro W hSW; have x1 := Cv.run_string_len (P := Tryz.prog) W 36 5 9 Tryz.underlying36 Tryz.underlying5 Tryz.underlying9 zb 0 32 32 zs HZL.out (Cv.Bytes.of_blk (aft_blk hSW HZB.out)); go_simp; try with_reducible rfl)
  (try simp only [Act.put, List.setIfInBounds_toArray, List.set_cons_zero, List.set_cons_succ])
  refine' RL.takeV (i := 2) (v := _) rfl (by kernel_rfl) (by kernel_rfl) (by kernel_rfl) (fun _ _ _ h => h) (by rfl) ?hk35 ?_
  case hk35 => (intro W hSW; go_simp; try with_reducible rfl)
  (try simp only [Act.put, List.setIfInBounds_toArray, List.set_cons_zero, List.set_cons_succ])
  refine' RL.takeV (i := 3) (v := _) rfl (by kernel_rfl) (by kernel_rfl) (by kernel_rfl) (fun _ _ _ h => h) (by rfl) ?hk36 ?_
  case hk36 => (intro W hSW; go_simp; try with_reducible rfl)
  (try simp only [Act.put, List.setIfInBounds_toArray, List.set_cons_zero, List.set_cons_succ])
  refine' RL.takeV (i := 4) (v := _) rfl (by kernel_rfl) (by kernel_rfl) (by kernel_rfl) (fun _ _ _ h => h) (by rfl) ?hk37 ?_
  case hk37 => (intro W hSW; go_simp; try with_reducible rfl)
  (try simp only [Act.put, List.setIfInBounds_toArray, List.set_cons_zero, List.set_cons_succ])
  refine' RL.takeV (i := 5) (v := _) rfl (by kernel_rfl) (by kernel_rfl) (by kernel_rfl) (fun _ _ _ h => h) (by rfl) ?hk38 ?_
  case hk38 => (intro W hSW; go_simp; try with_reducible rfl)
  (try simp only [Act.put, List.setIfInBounds_toArray, List.set_cons_zero, List.set_cons_succ])
  refine' RL.takeV (i := 6) (v := _) rfl (by kernel_rfl) (by kernel_rfl) (by kernel_rfl) (fun _ _ _ h => h) (by rfl) ?hk39 ?_
  case hk39 => (intro W hSW; go_simp; try with_reducible rfl)
  (try simp only [Act.put, List.setIfInBounds_toArray, List.set_cons_zero, List.set_cons_succ])
  refine' RL.takeV (i := 7) (v := _) rfl (by kernel_rfl) (by kernel_rfl) (by kernel_rfl) (fun _ _ _ h => h) (by rfl) ?hk40 ?_
  case hk40 => (intro W hSW; have x1 := (aft_blk hSW HX.out).cell 4 (v := .string x.h) (exV_4 _ _); go_simp; try with_reducible rfl)
  (try simp only [Act.put, List.setIfInBounds_toArray, List.set_cons_zero, List.set_cons_succ])
  refine' RL.takeV (i := 8) (v := _) rfl (by kernel_rfl) (by kernel_rfl) (by kernel_rfl) (fun _ _ _ h => h) (by rfl) ?hk41 ?_
  case hk41 => (intro W hSW; go_simp; try with_reducible rfl)
  (try simp only [Act.put, List.setIfInBounds_toArray, List.set_cons_zero, List.set_cons_succ])
  refine' RL.takeV (i := 9) (v := _) rfl (by kernel_rfl) (by kernel_rfl) (by kernel_rfl) (fun _ _ _ h => h) (by rfl) ?hk42 ?_
  case hk42 => (intro W hSW; go_simp; try with_reducible rfl)
  (try simp only [Act.put, List.setIfInBounds_toArray, List.set_cons_zero, List.set_cons_succ])
  refine' RL.takeV (i := 10) (v := _) rfl (by kernel_rfl) (by kernel_rfl) (by kernel_rfl) (fun _ _ _ h => h) (by rfl) ?hk43 ?_
  case hk43 => (intro W hSW; go_simp; try with_reducible rfl)
  (try simp only [Act.put, List.setIfInBounds_toArray, List.set_cons_zero, List.set_cons_succ])
  refine' RL.takeV (i := 11) (v := _) rfl (by kernel_rfl) (by kernel_rfl) (by kernel_rfl) (fun _ _ _ h => h) (by rfl) ?hk44 ?_
  case hk44 => (intro W hSW; have x1 := Cv.run_string_len (P := Tryz.prog) W 36 5 9 Tryz.underlying36 Tryz.underlying5 Tryz.underlying9 xb 5 32 32 p HPL.out (bytes_take (exV_bytes (aft_blk hSW HX.out))); go_simp; try with_reducible rfl)
  (try simp only [Act.put, List.setIfInBounds_toArray, List.set_cons_zero, List.set_cons_succ])
  refine' RL.takeV (i := 12) (v := _) rfl (by kernel_rfl) (by kernel_rfl) (by kernel_rfl) (fun _ _ _ h => h) (by rfl) ?hk45 ?_
  case hk45 => (intro W hSW; go_simp; try with_reducible rfl)
  (try simp only [Act.put, List.setIfInBounds_toArray, List.set_cons_zero, List.set_cons_succ])
  refine' RL.takeV (i := 13) (v := _) rfl (by kernel_rfl) (by kernel_rfl) (by kernel_rfl) (fun _ _ _ h => h) (by rfl) ?hk46 ?_
  case hk46 => (intro W hSW; go_simp; try with_reducible rfl)
  (try simp only [Act.put, List.setIfInBounds_toArray, List.set_cons_zero, List.set_cons_succ])
  refine' RL.takeV (i := 14) (v := _) rfl (by kernel_rfl) (by kernel_rfl) (by kernel_rfl) (fun _ _ _ h => h) (by rfl) ?hk47 ?_
  case hk47 => (intro W hSW; go_simp; try with_reducible rfl)
  (try simp only [Act.put, List.setIfInBounds_toArray, List.set_cons_zero, List.set_cons_succ])
  refine' RL.takeV (i := 15) (v := _) rfl (by kernel_rfl) (by kernel_rfl) (by kernel_rfl) (fun _ _ _ h => h) (by rfl) ?hk48 ?_
  case hk48 => (intro W hSW; have x1 := Cv.run_string_len (P := Tryz.prog) W 36 5 9 Tryz.underlying36 Tryz.underlying5 Tryz.underlying9 xb 37 32 32 q HQL.out (bytes_take (bytes_drop (p := p) (exV_bytes (aft_blk hSW HX.out)) (show 5 + p.length = 37 by rw [HPL.out]))); go_simp; try with_reducible rfl)
  (try simp only [Act.put, List.setIfInBounds_toArray, List.set_cons_zero, List.set_cons_succ])
  refine' RL.takeV (i := 17) (v := _) rfl (by kernel_rfl) (by kernel_rfl) (by kernel_rfl) (fun _ _ _ h => h) (by rfl) ?hk49 ?_
  case hk49 => (intro W hSW; go_simp; try with_reducible rfl)
  (try simp only [Act.put, List.setIfInBounds_toArray, List.set_cons_zero, List.set_cons_succ])
  refine' RL.takeV (i := 18) (v := _) rfl (by kernel_rfl) (by kernel_rfl) (by kernel_rfl) (fun _ _ _ h => h) (by rfl) ?hk50 ?_
  case hk50 => (intro W hSW; go_simp; try with_reducible rfl)
  (try simp only [Act.put, List.setIfInBounds_toArray, List.set_cons_zero, List.set_cons_succ])
  refine' RL.takeV (i := 19) (v := _) rfl (by kernel_rfl) (by kernel_rfl) (by kernel_rfl) (fun _ _ _ h => h) (by rfl) ?hk51 ?_
  case hk51 => (intro W hSW; have x1 := Cv.run_string_len (P := Tryz.prog) W 36 5 9 Tryz.underlying36 Tryz.underlying5 Tryz.underlying9 xb 69 32 32 s HSL.out (bytes_drop (p := q) (bytes_drop (p := p) (exV_bytes (aft_blk hSW HX.out)) (show 5 + p.length = 37 by rw [HPL.out])) (by rw [HQL.out])); go_simp; try with_reducible rfl)
  (try simp only [Act.put, List.setIfInBounds_toArray, List.set_cons_zero, List.set_cons_succ])
  refine RL.stepK (i := 16) rfl (by kernel_rfl) (by rfl) (fun wv hlwv hswv K hK => ?_)
  go_simp
  obtain ⟨pb, hpb⟩ : ∃ n, wv.heap.size = n := ⟨_, rfl⟩
  have hpc := Rg.Blk.newAt hpb.symm #[.string ⟨p.toArray⟩, .string ⟨q.toArray⟩] 9
  refine hK.out _ _ (RL.Aft.alloc hswv _) ?_
  try rw [hpb]
  clear hK
  (try simp only [Act.put, List.setIfInBounds_toArray, List.set_cons_zero, List.set_cons_succ])
  refine' RL.stepCall (i := 20) 16 #[.slice (some ⟨xb, 0, none⟩) 2 2, .slice (some ⟨xb, 2, none⟩) 2 2, .string x.h, .slice (some ⟨pb, 0, none⟩) 2 2, .string ⟨s.toArray⟩] rfl (by kernel_rfl) (by rfl) ?hv52 ?hc52
  case hv52 => (intro W; go_simp; try with_reducible rfl)
  intro wx hlwx hswx
  have hx1 := aft_blk hswx HX.out
  have hp1 := hpc.below hlwx hpc.lt
  refine (HRH.out wx xb 0 2 xb 2 2 pb 0 2 ⟨hx1.lt, hx1.cell 0 (exV_0 _ _), hx1.cell 1 (exV_1 _ _)⟩ ⟨hx1.lt, hx1.cell 2 (exV_2 _ _), hx1.cell 3 (exV_3 _ _)⟩ ⟨hp1.lt, hp1.cell 0 rfl, hp1.cell 1 rfl⟩ (by decide) (by decide) (by decide)).mono ?_
  rintro e w5 ⟨rfl, hb5⟩
  refine ⟨_, rfl, RL.Aft.lat hswx hb5, ?_⟩
  (try simp only [Act.put, List.setIfInBounds_toArray, List.set_cons_zero, List.set_cons_succ])
  refine' RL.takeV (i := 21) (v := _) rfl (by kernel_rfl) (by kernel_rfl) (by kernel_rfl) (fun _ _ _ h => h) (by rfl) ?hk53 ?_
  case hk53 => (intro W hSW; go_simp; try with_reducible rfl)
  (try simp only [Act.put, List.setIfInBounds_toArray, List.set_cons_zero, List.set_cons_succ])
  refine RL.stepK (i := 22) rfl (by kernel_rfl) (by rfl) (fun we hlwe hswe K hK => ?_)
  go_simp
  refine hK.out _ _ hswe ?_
  clear hK
  (try simp only [Act.put, List.setIfInBounds_toArray, List.set_cons_zero, List.set_cons_succ])
  refine RL.done (by kernel_rfl) (fun Y3 hlY3 hsY3 => ?_)
  have HA := Lib.hid (show RL.Aft V Y3 from hsY3)
  go_wp2_with fail
  go_ret
  exact ⟨rfl, HB.out.trans (Below.mono HA.out HB.out.size)⟩
theorem law_KexHashesB (w : World) (a : Nat → Addr) (hE : Ei.ErrsAll w a) (hY : Ei.ErrTy w) (hT : Sha.Tables w) (x0 : Xc) (p q s : List UInt8) (hp : p.length = 32) (hq : q.length = 32) (hs : s.length = 32) :
    Calls Tryz.prog 5 #[.agg (x0.t ++ Ow.bv (p ++ (q ++ s))).toArray] w fun e w' => e = .returned (.bool true) ∧ Below w.heap.size w w' := by
  have h := law_KexHashes w a hE hY hT x0 p q s hp hq hs
  rw [exV_eq] at h
  exact h
end Go.Proofs.YtfaeigbfnjkojaaGreatDoor.Kx
