/- AvF, AvG, StNext, StAdd, Iter, StTen, StDel, StRow, StIdx, StDf, StDg, StDe, StRv, AvH, AvI, MsgSame, AvJ, LaidAll, LaidA, AvL, OpenArr, MsgLaid: what the claims need of them. -/
import Derived.Shelf.SlIter.Nil
import Derived.Shelf.SortM.Plain
import Derived.Shelf.SortM.SortNone
import Derived.Test.YtciibogkfbicfaaGreatDoorProg
import Derived.Deep.MidRow
import Derived.Deep.Cut
import Derived.Deep.QuietTactic
import Derived.BigQuiet
import Derived.Stop.LaidErr
import Derived.LaidMore
import Derived.Deep.Strs
import Derived.OpenShut
import Derived.Test.YtciibogkfbicfaaGreatDoorAaE
open Go.Proofs.Tryz
set_option linter.unusedVariables false
set_option linter.unusedSimpArgs false
set_option maxRecDepth 20000
set_option maxHeartbeats 16000000
namespace Go.Proofs.YtciibogkfbicfaaGreatDoor.Au
open Go.RowKit Go.Proofs.YtciibogkfbicfaaGreatDoor.Wi Go.Proofs.YtciibogkfbicfaaGreatDoor.Ow Go.Proofs.YtciibogkfbicfaaGreatDoor.Be Go.Proofs.YtciibogkfbicfaaGreatDoor.Bl Go.Proofs.YtciibogkfbicfaaGreatDoor.Cv Go.Proofs.YtciibogkfbicfaaGreatDoor.Kx Go.Proofs.YtciibogkfbicfaaGreatDoor.Mg
theorem ha_reqT (w : World) (a : Nat → Addr) (hE : Ei.ErrsA w a) (hT : TabR w) (hG : Sg w) (P : Nat → Prop) (b sb bo bw T K N : Nat) (L : List St.Pr) (id : List UInt8) (most : Nat) (st : Sv) (h : IsSv w P b sb bo bw T K N L id most st) (kind : Int) (us : List Nat) (ss : List ByteArray) (nn : List (List ByteArray)) (bs : List Bool) (vu vs vn vb : Value) (hm : IsMsg w ⟨kind, us, ss, nn, bs⟩ vu vs vn vb) (hf : Fit ⟨kind, us, ss, nn, bs⟩) (hk : kind = 50) (hn : checkC ⟨kind, us, ss, nn, bs⟩ = 0) (user cn mt rest : ByteArray) (hss : ss = [user, cn, mt, rest]) (ht : st.ten = []) (hac : st.acc = true) (hmt : st.tries < most) (hml : most ≤ 1000) (hok : RdOk rest) (hBr : rdB rest ≠ 0) (t : List UInt8) (hwh : St.whoOf L (rdK rest) = some t) (hus : t = user.data.toList) (hcn : cn = connB) (hme : mt = methB) (hve : verL id (rdK rest) user.data.toList (rdZ rest) = true) (hul : user.size ≤ 1000) : Calls prog 23 #[.pointer (some ⟨b, 0, none⟩), .agg (mC kind vu vs vn vb)] w (Did w P b sb bo bw T K N L id most a (0, sucM, { st with ten := user.data.toList, key := rdK rest })) := by
 have HSV := ϕ h
 have HSW := ϕ h
 have HLB := ϕ (show b < w.heap.size by obtain ⟨cs, h1, _⟩ := h.blk; exact h1.lt)
 have hc0 : checkC ⟨kind, us, ss, nn, bs⟩ = 0 := hn
 have HCK := ϕ (show ∀ W, Below w.heap.size w W → Calls prog 30 #[.agg (mC kind vu vs vn vb)] W fun e w' => e = .returned (.nilIface) ∧ Below W.heap.size W w' from fun W hW => by
  have := Check_good W a (ErrsM.ofA (hE.below hW)) (hT.below hW) ⟨kind, us, ss, nn, bs⟩ vu vs vn vb (hm.below hW) hf (counted_ok hc0)
  rw [hc0, Ei.evA_zero] at this
  exact this)
 subst hk
 have HIS := ϕ (fun W (hW : Below w.heap.size w W) => h.is.below hW)
 have HSG := ϕ (fun W (hW : Below w.heap.size w W) => hG.below hW)
 obtain ⟨gb, go, gc, hvs, hgc, hcl⟩ := cells_of (xs := [user, cn, mt, rest]) (hss ▸ hm.s) (Nat.zero_lt_succ _)
 have hzu : user.size ≤ 1000000 := hf.s user (by rw [hss]; simp)
 have hzr : rest.size ≤ 1000000 := hf.s rest (by rw [hss]; simp)
 subst hss
 subst hvs
 have HC0 := ϕ (show ∀ W, Below w.heap.size w W → W.cell? ⟨gb, go, none⟩ = some (.string user) from fun W hW => hcl W hW 0 user rfl)
 have HC1 := ϕ (show ∀ W, Below w.heap.size w W → W.cell? ⟨gb, go + 1, none⟩ = some (.string cn) from fun W hW => hcl W hW 1 cn rfl)
 have HC2 := ϕ (show ∀ W, Below w.heap.size w W → W.cell? ⟨gb, go + 2, none⟩ = some (.string mt) from fun W hW => hcl W hW 2 mt rfl)
 have HC3 := ϕ (show ∀ W, Below w.heap.size w W → W.cell? ⟨gb, go + 3, none⟩ = some (.string rest) from fun W hW => hcl W hW 3 rest rfl)
 have hgc : (4 : Int) ≤ gc := by exact_mod_cast hgc
 have HT := ϕ (show (mkS st.ten).toList.isEmpty = true by rw [ten_nil]; simpa using ht)
 clear ht
 have HAC := ϕ hac
 clear hac
 have HMT := ϕ (show decide ((most : Int) ≤ (st.tries : Int)) = false by simp; omega)
 have HMT2 := ϕ (show ¬ (most : Int) ≤ (st.tries : Int) by omega)
 clear hmt hml
 obtain ⟨X, hX⟩ : ∃ X, rdX rest = X := exr
 obtain ⟨K1, hK1⟩ : ∃ K, rdK rest = K := exr
 have HKL := ϕ (show K1.length = 32 from by
  have := opR_size (rdX rest) 32 10 (by decide) hok.key
  rw [this.2] at this
  rw [← hK1]
  show (opX (rdX rest)).data.toList.length = 32
  rw [qo_]; exact this.1)
 have HRD := ϕ (show ∀ W, Below w.heap.size w W → Calls prog 53 #[.string rest] W fun e w' => ∃ Z, e = .returned (.tuple #[.agg (tryV X K1 true Z), .nilIface]) ∧ (Z.length = 64 ∧ Z = rdZ rest) ∧ Below W.heap.size W w' from fun W hW => (rd_T W a (hE.below hW) rest hzr (by simpa using hBr) hok.done hok.key hok.word (hok.sig hBr)).mono fun e w' ⟨X0, K0, B0, Z, ev, h1, h2, h3, h4, h5⟩ => by
  rcases h5 with ⟨_, e1, e2, e3, e4, e5⟩ | ⟨h6, _⟩
  · subst e1 e2 e3 e4
    rw [hX, hK1, show decide (rdB rest ≠ 0) = true by simpa using hBr] at h1
    exact ⟨Z, h1, ⟨h3, e5 hBr⟩, h4⟩
  · exact absurd hok h6)
 have HLK := ϕ (show ∀ W, Below w.heap.size w W → Calls prog 49 #[.pointer (some ⟨sb, 0, none⟩), .agg (bytesV K1)] W fun e w' => e = .returned (.tuple #[.string (mkS t), .nilIface]) ∧ Below W.heap.size W w' from fun W hW => St.Lookup_some W sb bo bw T K N L (HIS.out W hW) K1 HKL.out t (by rw [← hK1]; exact hwh))
 rw [show mkS t = user by rw [hus]; rfl] at HLK
 subst hcn
 subst hme
 have hil : id.length = 32 := by obtain ⟨cs, _, h2⟩ := h.blk; exact h2.il
 obtain ⟨m, hm0⟩ : ∃ m, sgdL id user.data.toList K1 = m := exr
 have HSD := ϕ (show ∀ W, Calls prog 14 #[.agg (bytesV id), .string user, .agg (bytesV K1)] W fun e w' => e = .returned (.string (mkS m)) ∧ Below W.heap.size W w' from fun W => hm0 ▸ Signed_any W id K1 user hil HKL.out hul)
 have HVF0 := ϕ (show ∀ Z : List UInt8, Z.length = 64 → Z = rdZ rest → ∀ W, Sg W → Calls prog 55 #[.agg (bytesV K1), .string (mkS m), .agg (bytesV Z)] W fun e w' => e = .returned (.bool true) ∧ Below W.heap.size W w' from fun Z hZ hZe W hW => by
  have := Verify_any W K1 m (Z.take 32) (Z.drop 32) HKL.out (by rw [← hm0, sgdL_length hil HKL.out, qo_]; omega) (by rw [List.length_take, hZ]; rfl) (by rw [List.length_drop, hZ]) hW.t hW.o
  rw [List.take_append_drop] at this
  rw [show Ed.ver K1 m (Z.take 32) (Z.drop 32) = true by rw [← hm0, hZe, ← hK1]; exact hve] at this
  exact this)
 have HKE := ϕ hK1
 clear hus hm0 hil hve hul hX hK1 hok hBr hwh
 clear h hE hT hm hf hc0 hn hcl hG hzu hzr
 go_enter func23, ntmps23
 go_upto_region 1 with ((with_reducible refine qd_ ?_); refine Rg.qh_ rfl 39 _ rfl (mC 50 vu (.slice (some ⟨gb, go, none⟩) 4 gc) vn vb) rfl ?_; intro V1 hK hbV hnV; have HM := ϕ hK; have HB := ϕ hbV; clear hK hbV hnV)
 obtain ⟨mb, hmb⟩ : ∃ n, w.heap.size = n := exr
 obtain ⟨rb, hrb⟩ : ∃ n, V1.heap.size = n := exr
 obtain ⟨V2, hV2⟩ : ∃ Y, V1.alloc (.cells askZ 39) = Y := exr
 have al : Below V1.heap.size V1 V2 := by rw [← hV2]; exact (Below.refl _ _).alloc (Nat.le_refl _) _
 have HMR := ϕ (show mb < rb from by rw [← hmb, ← hrb]; exact HM.out.lt)
 have HWM := ϕ (show w.heap.size ≤ mb from Nat.le_of_eq hmb)
 have HR := ϕ (show Rg.Blk V2 rb 39 askZ from by rw [← hrb, ← hV2]; exact Rg.Blk.new V1 _ _)
 have HM := ϕ (show Rg.Blk V2 mb 39 (mC 50 vu (.slice (some ⟨gb, go, none⟩) 4 gc) vn vb) from by rw [← hmb]; exact HM.out.below al HM.out.lt)
 have HB := tm HB al
 have HS := ϕ (HSV.out.below HB.out)
 try rw [show (#[.int .i64 0, .slice none 0 0, .slice none 0 0, .slice none 0 0, .slice none 0 0] : Array Value) = askZ from rfl]
 try rw [hmb]
 try rw [hV2]
 try rw [hrb]
 clear hmb hrb hV2 al HSV
 have c0 := HM.out.cell 0 (v := .int .i64 50) rfl
 go_upto_region 3 with (first
  | ((with_reducible refine qd_ ?_); refine load_blk_g (by rfl) 39 _ rfl mb (mC 50 vu (.slice (some ⟨gb, go, none⟩) 4 gc) vn vb) 39 rfl HM.out underlying39 rfl (by kernel_rfl) ?_; skip)
  | (go_at_call 30; refine (HCK.out _ HB.out).mono ?_; rintro e V3 ⟨rfl, hb1⟩; have HM := ϕ (HM.out.below hb1 HM.out.lt); have HR := ϕ (HR.out.below hb1 HR.out.lt); have HS := ϕ (HS.out.below hb1); have HB := tm HB hb1; clear hb1))
 clear c0
 have HSB := HS.out.blk
 obtain ⟨cs, HCB, HCC⟩ : ∃ cs, Hid (Rg.Blk V3 b 114 cs) ∧ Hid (SvC cs sb id most st) := by obtain ⟨cs, h1, h2⟩ := HSB; exact ⟨cs, ϕ h1, ϕ h2⟩
 clear HSB
 have c4 := HCB.out.cell 36 HCC.out.ten
 have c5 := HCB.out.cell 34 HCC.out.acc
 have kt := HT.out
 have hac := HAC.out
 rw [hac] at c5
 go_upto_region 5 with fail
 clear c4 c5 kt hac
 refine RL.start (RL.Aft V3) (by kernel_rfl) (RL.Aft.drew (RL.Aft.refl V3)) ?_
 refine RL.tu 0 ?_; go_frame
 refine RL.tu 1 ?_; go_frame
 refine RL.tu 2 ?_; go_frame
 refine' RL.tv 3 ?hk12 ?_
 case hk12 => (intro W hSW; have c1 := (qc_ hSW HCB.out).cell 35 HCC.out.tries; go_simp; try with_reducible rfl)
 try go_frame
 refine RL.tu 4 ?_; go_frame
 refine RL.tu 5 ?_; go_frame
 refine RL.tu 6 ?_; go_frame
 refine' RL.tv 7 ?hk16 ?_
 case hk16 => (intro W hSW; have c1 := (qc_ hSW HCB.out).cell 33 HCC.out.most; go_simp; try with_reducible rfl)
 try go_frame
 refine RL.tu 8 ?_; go_frame
 refine RL.tu 9 ?_; go_frame
 refine RL.done (by kernel_rfl) (fun V4 hlV4 hsV4 => ?_)
 have HM := ϕ (HM.out.below hsV4 HM.out.lt)
 have HR := ϕ (HR.out.below hsV4 HR.out.lt)
 have HCB := ϕ (HCB.out.below hsV4 HCB.out.lt)
 have HB := ϕ (HB.out.trans (Below.mono hsV4 HB.out.size))
 clear hlV4 hsV4
 have kt := HMT.out
 have kt2 := HMT2.out
 have c2 := HM.out.cell 2 (v := .slice (some ⟨gb, go, none⟩) 4 gc) rfl
 have c3 := HC0.out V4 HB.out
 go_upto_region 8 with fail
 clear kt kt2 c2 c3
 have c2 := HM.out.cell 2 (v := .slice (some ⟨gb, go, none⟩) 4 gc) rfl
 have c3 := HC3.out V4 HB.out
 go_upto_region 9 with (first
  | (go_at_call 53; refine (HRD.out _ HB.out).mono ?_; rintro e V5 ⟨Z, rfl, ⟨hZ, hZe⟩, hb1⟩; have HZE := ϕ hZe; clear hZe; have HZL := ϕ hZ; have HM := ϕ (HM.out.below hb1 HM.out.lt); have HR := ϕ (HR.out.below hb1 HR.out.lt); have HCB := ϕ (HCB.out.below hb1 HCB.out.lt); have HB := tm HB hb1; have HTS := ϕ (tryV_size X true HKL.out hZ); clear hb1 hZ )
  | ((with_reducible refine qd_ ?_); refine Rg.qf_ rfl 116 _ _ rfl (tryV X K1 true Z) _ 116 rfl rfl (by rw [HTS.out]; exact try_info) (by rw [HTS.out]; rfl) (tryV_one _ _ _ _) ?_; intro V6 hX hbX; have HTB := ϕ hX; have HWT := ϕ HB.out.size; have HM := ϕ (HM.out.below hbX HM.out.lt); have HRV := ϕ HR.out.lt; have HR := ϕ (HR.out.below hbX HR.out.lt); have HCB := ϕ (HCB.out.below hbX HCB.out.lt); have HB := tm HB hbX; clear hX hbX))
 clear c2 c3
 obtain ⟨tb, htb⟩ : ∃ n, V5.heap.size = n := exr
 have HTB := ϕ (show Rg.Blk V6 tb 116 (tryV X K1 true Z) from htb ▸ HTB.out)
 have HRT := ϕ (show rb < tb from htb ▸ HRV.out)
 have HBT := ϕ (show ¬ b = tb from fun e => by have := HLB.out; have := HWM.out; have := HMR.out; have := HRT.out; omega)
 try rw [htb]
 clear htb HRV HWT
 have HKV := ϕ (show (bytesV K1).size = 32 by rw [qa_, HKL.out])
 refine RL.start (RL.Aft V6) (by kernel_rfl) (RL.Aft.drew (RL.Aft.refl V6)) ?_
 refine RL.tu 0 ?_; go_frame
 refine RL.tu 1 ?_; go_frame
 refine RL.tu 2 ?_; go_frame
 refine' RL.tv 3 ?hk144 ?_
 case hk144 => (intro W hSW; have c1 := (qc_ hSW HCB.out).cell 0 HCC.out.s; go_simp; try with_reducible rfl)
 try go_frame
 refine RL.tu 4 ?_; go_frame
 refine RL.tw 5 (v := .agg (bytesV K1)) rfl (fun W hSW => ql_ 22 _ rfl tb 1 rfl (bytesV K1) (fun j v hv => Rg.Blk.cell (qc_ hSW HTB.out) (1 + j) (tryV_k X true Z j v hv)) underlying22 rfl (by rw [HKV.out]; kernel_rfl)) ?_
 try go_frame
 refine' RL.stepCall (i := 6) 49 #[.pointer (some ⟨sb, 0, none⟩), .agg (bytesV K1)] rfl (by kernel_rfl) (by rfl) ?v6 ?c6
 case v6 => (intro W; go_simp; try with_reducible rfl)
 intro a6 hl6 hs6
 refine (HLK.out a6 (HB.out.trans (Below.mono hs6 HB.out.size))).mono ?_
 rintro e w6 ⟨rfl, hb6⟩
 refine ⟨_, rfl, RL.Aft.lat hs6 hb6, ?_⟩
 try go_frame
 refine RL.tu 7 ?_; go_frame
 refine RL.tu 8 ?_; go_frame
 refine RL.tu 9 ?_; go_frame
 refine RL.tu 10 ?_; go_frame
 refine RL.tu 11 ?_; go_frame
 refine RL.done (by kernel_rfl) (fun V7 hlV7 hsV7 => ?_)
 have HM := ϕ (HM.out.below hsV7 HM.out.lt)
 have HR := ϕ (HR.out.below hsV7 HR.out.lt)
 have HCB := ϕ (HCB.out.below hsV7 HCB.out.lt)
 have HTB := ϕ (HTB.out.below hsV7 HTB.out.lt)
 have HB := ϕ (HB.out.trans (Below.mono hsV7 HB.out.size))
 clear hlV7 hsV7 hl6 hs6 hb6
 have c2 := HM.out.cell 2 (v := .slice (some ⟨gb, go, none⟩) 4 gc) rfl
 have c31 := HC1.out V7 HB.out
 have c32 := HC2.out V7 HB.out
 have k1 := conn_list
 have k2 := meth_list
 go_upto_region 12 with fail
 clear k1 k2 c2 c31 c32
 have cb := HTB.out.cell 33 (tryV_b X true Z HKL.out)
 go_upto_region 14 with fail
 clear cb
 have HIV := ϕ (show (bytesV id).size = 32 by rw [qa_, HCC.out.il])
 have HZV := ϕ (show (bytesV Z).size = 64 by rw [qa_, HZL.out])
 have HVF := ϕ (HVF0.out Z HZL.out HZE.out)
 refine RL.start (RL.Aft V7) (by kernel_rfl) (RL.Aft.drew (RL.Aft.refl V7)) ?_
 refine RL.tu 0 ?_; go_frame
 refine RL.tw 1 (v := .agg (bytesV K1)) rfl (fun W hSW => ql_ 22 _ rfl tb 1 rfl (bytesV K1) (fun j v hv => Rg.Blk.cell (qc_ hSW HTB.out) (1 + j) (tryV_k X true Z j v hv)) underlying22 rfl (by rw [HKV.out]; kernel_rfl)) ?_
 try go_frame
 refine RL.tu 2 ?_; go_frame
 refine RL.tu 3 ?_; go_frame
 refine RL.tu 4 ?_; go_frame
 refine RL.tw 5 (v := .agg (bytesV id)) rfl (fun W hSW => ql_ 22 _ rfl b 1 rfl (bytesV id) (fun j v hv => Rg.Blk.cell (qc_ hSW HCB.out) (1 + j) (HCC.out.ids j v hv)) underlying22 rfl (by rw [HIV.out]; kernel_rfl)) ?_
 try go_frame
 refine RL.tu 6 ?_; go_frame
 refine RL.tu 7 ?_; go_frame
 refine RL.tw 8 (v := .agg (bytesV K1)) rfl (fun W hSW => ql_ 22 _ rfl tb 1 rfl (bytesV K1) (fun j v hv => Rg.Blk.cell (qc_ hSW HTB.out) (1 + j) (tryV_k X true Z j v hv)) underlying22 rfl (by rw [HKV.out]; kernel_rfl)) ?_
 try go_frame
 refine' RL.td 9 (v := (.string (mkS m))) 14 #[.agg (bytesV id), .string user, .agg (bytesV K1)] ?hc157 ?_
 case hc157 => (intro W hSW; exact (HSD.out W).mono (fun e w9 h9 => ⟨h9.1, h9.2, RL.Aft.lat hSW h9.2⟩))
 try go_frame
 refine RL.tu 10 ?_; go_frame
 refine RL.tw 11 (v := .agg (bytesV Z)) rfl (fun W hSW => ql_ 29 _ rfl tb 34 rfl (bytesV Z) (fun j v hv => Rg.Blk.cell (qc_ hSW HTB.out) (34 + j) (tryV_z X true HKL.out j v hv)) underlying29 rfl (by rw [HZV.out]; kernel_rfl)) ?_
 try go_frame
 refine' RL.td 12 (v := (.bool true)) 55 #[.agg (bytesV K1), .string (mkS m), .agg (bytesV Z)] ?hc159 ?_
 case hc159 => (intro W hSW; exact (HVF.out W (HSG.out W (HB.out.trans (Below.mono hSW HB.out.size)))).mono (fun e w9 h9 => ⟨h9.1, h9.2, RL.Aft.lat hSW h9.2⟩))
 try go_frame
 refine RL.tu 13 ?_; go_frame
 refine RL.done (by kernel_rfl) (fun V8 hlV8 hsV8 => ?_)
 have HR := ϕ (HR.out.below hsV8 HR.out.lt)
 have HCB := ϕ (HCB.out.below hsV8 HCB.out.lt)
 have HTB := ϕ (HTB.out.below hsV8 HTB.out.lt)
 have HB := ϕ (HB.out.trans (Below.mono hsV8 HB.out.size))
 clear hlV8 hsV8
 go_upto_region 16 with fail
 refine RL.start (fun W => Sp.Upd V8 W [b]) (by kernel_rfl) (Sp.Upd.trans (Sp.Upd.refl _ _) (Sp.Upd.of_below (Below.drew (Below.refl _ _))) (by simp)) ?_
 refine RL.tu 0 ?_; go_frame
 refine RL.tu 1 ?_; go_frame
 refine RL.tu 2 ?_; go_frame
 refine RL.tu 3 ?_; go_frame
 refine RL.tw 4 (v := .agg (bytesV K1)) rfl (fun W hSW => ql_ 22 _ rfl tb 1 rfl (bytesV K1) (fun j v hv => Rg.Blk.cell (qm_ hSW HTB.out (by have := HBT.out; simp; exact fun e => this e.symm)) (1 + j) (tryV_k X true Z j v hv)) underlying22 rfl (by rw [HKV.out]; kernel_rfl)) ?_
 try go_frame
 refine RL.tu 5 ?_; go_frame
 refine RL.tu 6 ?_; go_frame
 refine RL.sk 7 (fun va hlva hsva K0 hK => ?_)
 have hO := (HCB.out.below (Below.drew (Below.refl _ _)) HCB.out.lt).below hlva (by have := HCB.out.lt; simpa using this)
 refine store_one_op 9 _ _ rfl b 36 (.string user) cs 114 rfl rfl rfl hO (by kernel_rfl) (by rw [HCC.out.size]; decide) rfl ?_
 intro Y1 hY1 hgY1
 refine hK.out _ _ (Sp.Upd.trans hsva (Sp.Upd.of_grown1 hgY1) (fun q hq => .inl hq)) ?_
 clear hK
 try go_frame
 refine RL.tu 8 ?_; go_frame
 refine RL.tu 9 ?_; go_frame
 refine RL.sk 10 (fun vc hlvc hsvc K0 hK => ?_)
 have hO2 := hY1.below hlvc hY1.lt
 refine store_part_op 22 _ _ rfl b 37 (bytesV K1) (cs.setIfInBounds 36 (.string user)) (inCs cs user.data.toList K1) 114 rfl rfl hO2 (by rw [HKV.out]; kernel_rfl) (by rw [HKV.out, Array.size_setIfInBounds, HCC.out.size]; decide) (qk_ _) (by unfold inCs; rw [show mkS user.data.toList = user from rfl]) ?_
 intro Y2 hY2 hgY2
 refine hK.out _ _ (Sp.Upd.trans hsvc (Sp.Upd.of_grown1 hgY2) (fun q hq => .inl hq)) ?_
 clear hK
 try go_frame
 refine RL.done (by kernel_rfl) (fun V9 hlV9 hsV9 => ?_)
 have HBN := ϕ (show Rg.Blk V9 b 114 (inCs cs user.data.toList K1) from Rg.Blk.below hY2 hlV9 hY2.lt)
 have HBR := ϕ (show ¬ rb = b from by have := HLB.out; have := HWM.out; have := HMR.out; omega)
 have HR := ϕ (qm_ hsV9 HR.out (by simp; exact HBR.out))
 have HU9 := ϕ (show Sp.Upd w V9 [b] from Sp.Upd.trans (Sp.Upd.trans (Sp.Upd.refl w [b]) (Sp.Upd.of_below HB.out) (by simp)) hsV9 (fun q hq => .inl hq))
 have HRV := ϕ HR.out.lt
 clear hO hO2 hY1 hgY1 hY2 hgY2 hlva hsva hlvc hsvc hlV9 hsV9
 go_wp2_with (refine Cv.qu_ rfl 39 _ _ rfl rb (mC 52 (.slice none 0 0) (.slice none 0 0) (.slice none 0 0) (.slice none 0 0)) askZ 39 rfl rfl HR.out (by kernel_rfl) (by kernel_rfl) (by unfold mC; simp [Value.oneCell']) ?_; intro Z9 hZ hgZ; have HR := ϕ hZ; have HGZ := ϕ hgZ; clear hZ hgZ)
 have e5 := HWM.out
 have e6 := HMR.out
 have e7 := HLB.out
 have hu := Sp.Upd.trans HU9.out (Sp.Upd.of_grown1 HGZ.out) (fun q hq => .inr (by simp at hq; omega))
 refine bodyPost_ret (v := .tuple #[.agg (mC 52 (.slice none 0 0) (.slice none 0 0) (.slice none 0 0) (.slice none 0 0)), .nilIface])
  (Bl.jt_ results23 _ _ rb 39 _ (0, 0) _ rfl HR.out underlying39 rfl (by kernel_rfl)) rfl ?_
 exact ⟨_, rfl, MsgAt.kind, HSW.out.upd hu (qb_ HBN.out HGZ.out HBR.out) (by show SvC _ _ _ _ { st with ten := user.data.toList, key := rdK rest }; rw [HKE.out]; exact HCC.out.setIn user.data.toList K1 HKL.out), hu⟩
end Go.Proofs.YtciibogkfbicfaaGreatDoor.Au
namespace Go.Proofs.YtciibogkfbicfaaGreatDoor.St
open Go.RowKit Go.Proofs.YtciibogkfbicfaaGreatDoor.Ow Go.Proofs.YtciibogkfbicfaaGreatDoor.Mp Go.Maps
theorem fold_set : ∀ (l : List Value) (k : Nat) (arr : Array Value), k + l.length ≤ arr.size → ∀ j, ((l.zipIdx k).foldl (fun (cs : Array Value) (x : Value × Nat) => cs.setIfInBounds x.2 x.1) arr)[j]? = if k ≤ j ∧ j < k + l.length then l[j - k]? else arr[j]?
 | [], k, arr, _, j => by
  rw [if_neg (fun e => by have := e.2; simp at this; omega)]; rfl
 | x :: l, k, arr, h, j => by
  rw [List.zipIdx_cons, List.foldl_cons, fold_set l (k + 1) _ (by rw [Array.size_setIfInBounds]; simp at h; omega) j]
  by_cases h1 : k = j
  · subst h1
    rw [if_neg (by omega), if_pos (by simp), Array.getElem?_setIfInBounds_self_of_lt (by simp at h; omega)]
    simp
  · rw [Array.getElem?_setIfInBounds_ne h1]
    by_cases h2 : k + 1 ≤ j ∧ j < k + 1 + l.length
    · rw [if_pos h2, if_pos (by simp; omega), show j - k = (j - (k + 1)) + 1 by omega, List.getElem?_cons_succ]
    · rw [if_neg h2, if_neg (by simp; omega)]
theorem fold_cells (cs z : Array Value) (h : z.size = cs.size) (n : Nat) (hn : n = cs.size) : Array.foldl (fun (cs : Array Value) (x : Value × Nat) => cs.setIfInBounds x.snd x.fst) z cs.zipIdx 0 n = cs := by
 subst hn
 rw [show cs.size = cs.zipIdx.size by simp, ← Array.foldl_toList, Array.toList_zipIdx]
 apply Array.ext_getElem?
 intro j
 rw [fold_set cs.toList 0 z (by simp; omega) j]
 by_cases hj : j < cs.size
 · rw [if_pos (by simp; omega)]; simp
 · rw [if_neg (by simp; omega), Array.getElem?_eq_none (by omega), Array.getElem?_eq_none (by omega)]
theorem keysOf_snoc (L : List Pr) (t k x : List UInt8) : keysOf (L ++ [(t, k)]) x = if t = x then keysOf L x ++ [k] else keysOf L x := by
 unfold keysOf
 rw [List.filter_append, List.map_append]
 by_cases h : t = x
 · rw [if_pos h]; simp [h]
 · rw [if_neg h]; simp [h]
theorem whoOf_snoc (L : List Pr) (t k x : List UInt8) (hk : whoOf L k = none) : whoOf (L ++ [(t, k)]) x = if x = k then some t else whoOf L x := by
 unfold whoOf at *
 rw [List.find?_append]
 by_cases h : x = k
 · subst h
   rw [if_pos rfl]
   rw [Option.map_eq_none_iff] at hk
   rw [hk]; simp
 · rw [if_neg h]
   have : ¬ k = x := fun e => h e.symm
   simp [this]
theorem whoOf_none {L : List Pr} {k : List UInt8} : whoOf L k = none ↔ k ∉ L.map (·.2) := by
 unfold whoOf
 rw [Option.map_eq_none_iff, List.find?_eq_none]
 constructor
 · intro h hm
   obtain ⟨p, hp, e⟩ := List.mem_map.1 hm
   exact h p hp (decide_eq_true e)
 · intro h p hp e
   exact h (List.mem_map.2 ⟨p, hp, of_decide_eq_true e⟩)
theorem Good.snoc {L : List Pr} (h : Good L) {t k : List UInt8} (hk : k.length = 32) (hv : validB t = true) (hw : whoOf L k = none) : Good (L ++ [(t, k)]) := by
 refine ⟨fun p hp => ?_, fun p hp => ?_, ?_⟩
 · rcases List.mem_append.1 hp with h1 | h1
   · exact h.key p h1
   · rw [List.mem_singleton.1 h1]; exact hk
 · rcases List.mem_append.1 hp with h1 | h1
   · exact h.val p h1
   · rw [List.mem_singleton.1 h1]; exact hv
 · rw [List.map_append]
   refine List.nodup_append.2 ⟨h.nd, by simp, fun a ha b hb => ?_⟩
   simp at hb
   subst hb
   rintro rfl
   exact whoOf_none.1 hw ha
theorem nodup_tens (L : List Pr) : (tens L).Nodup := nodup_ddup _
theorem tens_snoc (L : List Pr) (t k : List UInt8) : (tens (L ++ [(t, k)])).length = if keysOf L t = [] then (tens L).length + 1 else (tens L).length := by
 have hm : ∀ x, x ∈ tens (L ++ [(t, k)]) ↔ x = t ∨ x ∈ tens L := fun x => by
  rw [mem_tens, mem_tens, keysOf_snoc]
  by_cases h : t = x
  · subst h; simp
  · rw [if_neg h]
    constructor
    · exact .inr
    · rintro (e | e)
      · exact absurd e.symm h
      · exact e
 by_cases h : keysOf L t = []
 · rw [if_pos h]
   have hp : (tens (L ++ [(t, k)])).Perm (t :: tens L) := (List.perm_ext_iff_of_nodup (nodup_tens _) (List.nodup_cons.2 ⟨fun e => mem_tens.1 e h, nodup_tens _⟩)).2 fun x => by rw [hm, List.mem_cons]
   exact hp.length_eq
 · rw [if_neg h]
   have hp : (tens (L ++ [(t, k)])).Perm (tens L) := (List.perm_ext_iff_of_nodup (nodup_tens _) (nodup_tens _)).2 fun x => by
    rw [hm]
    exact ⟨fun e => e.elim (fun e => by rw [e]; exact mem_tens.2 h) id, .inr⟩
   exact hp.length_eq
def OfSpec (w : World) (L : List Pr) (f : Lit → Option Value) : Prop := ∀ x, (keysOf L x = [] ∧ f (.string x) = none) ∨ (keysOf L x ≠ [] ∧ ∃ v, f (.string x) = some v ∧ KS w v (keysOf L x))
theorem OfSpec.below {w w' : World} {L : List Pr} {f : Lit → Option Value} (h : OfSpec w L f) (hb : Below w.heap.size w w') : OfSpec w' L f := fun x => by
 rcases h x with h | ⟨h4, v, h5, h6⟩
 · exact .inl h
 · exact .inr ⟨h4, v, h5, h6.below hb⟩
theorem OfSpec.map {w w' : World} {L : List Pr} {f : Lit → Option Value} {b : Nat} (h : OfSpec w L f) (hg : w.grownBy w' (some b)) (hm : ∃ es clock, w.heap[b]? = some (.map es clock)) : OfSpec w' L f := fun x => by
 rcases h x with h | ⟨h4, v, h5, h6⟩
 · exact .inl h
 · exact .inr ⟨h4, v, h5, h6.map hg hm⟩
theorem isMap {P : Program} {w : World} {k b n s : Nat} {f : Lit → Option Value} (h : RMap P w k b n f s) : ∃ es clock, w.heap[b]? = some (.map es clock) := by
 obtain ⟨D, ⟨es, clock, hb, _⟩, _⟩ := h
 exact ⟨es, clock, hb⟩
theorem of_next {w Y : World} {bo N : Nat} {L : List Pr} {f : Lit → Option Value} {t k : List UInt8} {v : Value} (hf : RMap prog w 9 bo N f (tens L).length) (hfx : OfSpec w L f) (hY : RMap prog Y 9 bo (N + 1) (upd f (.string t) (some v)) (if (f (.string t)).isSome then (tens L).length else (tens L).length + 1)) (hg : w.grownBy Y (some bo)) (hk : KS w v (keysOf L t ++ [k])) :
 ∃ f', RMap prog Y 9 bo (N + 1) f' (tens (L ++ [(t, k)])).length ∧ OfSpec Y (L ++ [(t, k)]) f' := by
 have hs : (if (f (.string t)).isSome then (tens L).length else (tens L).length + 1) = (tens (L ++ [(t, k)])).length := by
  rw [tens_snoc]
  rcases hfx t with ⟨h1, h2⟩ | ⟨h1, v', h2, _⟩
  · rw [h2, if_pos h1]; rfl
  · rw [h2, if_neg h1]; rfl
 rw [hs] at hY
 refine ⟨_, hY, fun x => ?_⟩
 rw [keysOf_snoc]
 by_cases hx : t = x
 · subst hx
   rw [if_pos rfl, upd_same]
   exact .inr ⟨by simp, v, rfl, hk.map hg (isMap hf)⟩
 · rw [if_neg hx, upd_other f _ (fun e => hx (by injection e with e; exact e.symm))]
   exact hfx.map hg (isMap hf) x
end Go.Proofs.YtciibogkfbicfaaGreatDoor.St
namespace Go.Proofs.YtciibogkfbicfaaGreatDoor.RL
open Go.RowKit
end Go.Proofs.YtciibogkfbicfaaGreatDoor.RL
namespace Go.Proofs.YtciibogkfbicfaaGreatDoor.St
open Go.RowKit Go.Proofs.YtciibogkfbicfaaGreatDoor.Ow Go.Proofs.YtciibogkfbicfaaGreatDoor.Mp Go.Maps
theorem appN_op {P : Program} {o : Oper} {a : Act} {w : World} {Kc : Act → World → Prop} {Q : Exit → Act → World → Prop} (s x : Operand) (t : TypeId)
 (ho : o.op = .call { callee := .builtin .append, args := #[s, x], argTypes := #[t, t] }) {E : TypeId} {z : Value} {sz by' : Nat} (ht : P.underlying t = some (.slice E))
 (hI : (P.info? E).map (fun i => (i.zero, i.size, i.bytes)) = some (some z, sz, by')) (hz : z.cells.size = sz) (hsz : 0 < sz) (hby : 0 < by')
 {B n : Nat} {v : Value} {xs : List Value} (hO : w.ownsRow B E sz v n xs) (hs : a.eval s = v) {ad : Addr} {m c : Nat} {ys : List Value} (hx : a.eval x = .slice (some ad) m c) (hm : ys.length = m * sz) (hR : Rd w (some ad) ys) (h1 : ∀ u ∈ ys, u.oneCell' = true)
 (hb : (n + m) * by' ≤ 140737488355328) (hB : B ≤ w.heap.size)
 (h : ∀ v' w', w'.ownsRow B E sz v' (n + m) (xs ++ ys) → w.grownBy w' v.ownBlock → Kc (a.put o.dst v') w') : Oper.wp P o a w Kc Q := by
 obtain ⟨v', w', hr, h2, h3, h4⟩ := run_appN (P := P) w t o.type ht hI hz hsz hby hO (c := c) hm hR h1 hb hB
 unfold Oper.wp execOp
 simp only [ho, resolve, invoke, builtin, Sem.run_bind, Sem.run_pure, Result.andThen_ok, List.map_toArray, List.map_cons, List.map_nil, hs, hx, hr]
 exact h v' w' h2 h3
theorem jq_ {P : Program} {o : Oper} {a : Act} {w : World} {Kc : Act → World → Prop} {Q : Exit → Act → World → Prop} (m x v : Operand) (t : TypeId) (hop : o.op = Op.mapUpdate t m x v) (k e : TypeId) (K : Keyed P k) (ht : P.underlying t = some (.map k e)) (b n s : Nat) (f : Lit → Option Value)
 (hm : a.eval m = .map (some b)) (h : RMap P w k b n f s) (hn : n < maxLen) (key val : Value) (kl : Lit) (hx : a.eval x = key) (hv : a.eval v = val) (hkey : keyOf P k key = some kl)
 (hK : ∀ w', RMap P w' k b (n + 1) (upd f kl (some val)) (if (f kl).isSome then s else s + 1) → w.grownBy w' (some b) → Kc (a.put o.dst undef) w') : Oper.wp P o a w Kc Q := by
 obtain ⟨w', hrun, r1, r2⟩ := h.store (val := val) K ht hn hkey
 unfold Oper.wp
 simp [execOp, hop, hm, hx, hv, hrun, Result.andThen]
 exact hK _ r1 r2
theorem look_of {w : World} {sb bo bw T K N : Nat} {L : List Pr} (h : IsSt w sb bo bw T K N L) (t : ByteArray) (ht : t.size ≤ maxLen) :
 ∃ A c, KS w (.slice A (keysOf L t.data.toList).length c) (keysOf L t.data.toList) ∧ ∀ W, Below w.heap.size w W → (Instr.lookup 105 (.map (some bo)) (.string t) true).run prog W = .ok (.tuple #[.slice A (keysOf L t.data.toList).length c, .bool (!(keysOf L t.data.toList).isEmpty)]) W := by
 obtain ⟨_, _, _, ⟨f, hf, hfx⟩, _⟩ := h
 have hlk : ∀ W, Below w.heap.size w W → (Instr.lookup 105 (.map (some bo)) (.string t) true).run prog W = .ok (.tuple #[(f (.string t.data.toList)).getD (.slice none 0 0), .bool (f (.string t.data.toList)).isSome]) W := fun W hW =>
  (hf.below hW hf.lt).lookOk keyed_str underlying105 (show (zeroValue 109).run prog W = .ok (.slice none 0 0) W by kernel_rfl) (key_str underlying9 t ht)
 rcases hfx t.data.toList with ⟨h1, h2⟩ | ⟨h1, v, h2, h3⟩
 · rw [h2] at hlk
   rw [h1]
   exact ⟨none, 0, KS.nil w, hlk⟩
 · obtain ⟨A, c, rfl, _⟩ := id h3
   rw [h2] at hlk
   refine ⟨A, c, h3, fun W hW => ?_⟩
   rw [hlk W hW]
   cases hk : keysOf L t.data.toList with
   | nil => exact absurd hk h1
   | cons x l => rfl
theorem wp_name3 {P : Program} {c : Code} {Q : Exit → Act → World → Prop} {a : Act} {W : World} (h : ∀ X, X = W → c.wp P Q a X) : c.wp P Q a W := h W rfl
theorem ownsBelow {w w' : World} {B sz n : Nat} {E : TypeId} {v : Value} {xs : List Value} (h : w.ownsRow B E sz v n xs) (hb : Below w.heap.size w w') : w'.ownsRow B E sz v n xs :=
 World.ownsRow.kept h (row := none) ⟨hb.os, hb.tape, hb.output, hb.size, fun k hk _ => hb.block k hk⟩ (by cases hv : v.ownBlock <;> simp)
def Only (Z : World) (b : Nat) (W : World) : Prop := Sp.Upd Z W [b]
theorem Only.refl (Z : World) (b : Nat) : Only Z b Z := Sp.Upd.refl Z [b]
theorem Only.lat {Z W W' : World} {b : Nat} (h : Only Z b W) (hb : Below W.heap.size W W') : Only Z b W' := Sp.Upd.trans h (Sp.Upd.of_below hb) (by simp)
theorem Only.drew {Z W : World} {b : Nat} (h : Only Z b W) : Only Z b W.drew := h.lat (Below.drew (Below.refl _ _))
theorem Only.alloc {Z W : World} {b : Nat} (h : Only Z b W) (o : Obj) : Only Z b (W.alloc o) := h.lat ((Below.refl _ _).alloc (Nat.le_refl _) _)
theorem Only.blk {Z W : World} {b g T : Nat} {cs : Array Value} (h : Only Z b W) (hB : Rg.Blk Z g T cs) (hn : g ≠ b) : Rg.Blk W g T cs := by
 unfold Rg.Blk at *
 rw [h.block g (Array.getElem?_eq_some_iff.1 hB).1 (by simpa using hn)]
 exact hB
theorem Only.grown {Z W W' : World} {b : Nat} {row : Option Nat} (h : Only Z b W) (hg : W.grownBy W' row) (hr : ∀ j, row = some j → j = b ∨ Z.heap.size ≤ j) : Only Z b W' :=
 Sp.Upd.trans h (Sp.Upd.of_grown hg) (fun x hx => by
  have : row = some x := by cases row <;> simp_all
  rcases hr x this with h1 | h1
  · exact .inl (by simp [h1])
  · exact .inr h1)
theorem Add_ok_true (w : World) (sb bo bw T M N : Nat) (L : List Pr) (h : IsSt w sb bo bw T M N L) (t : ByteArray) (ht : t.size ≤ 1000) (k : List UInt8) (hk : k.length = 32) (hv : validB t.data.toList = true) (hw : whoOf L k = none)
 (hb : (keysOf L t.data.toList).isEmpty = false) (hT : True) (hK : (keysOf L t.data.toList).length < M) (hN : N ≤ 1000) (hm : M ≤ 64 ∧ T ≤ 64) :
 Calls prog 48 #[.pointer (some ⟨sb, 0, none⟩), .string t, .agg (Cv.bytesV k)] w fun e w' => e = .returned .nilIface ∧ IsSt w' sb bo bw T M (N + 1) (L ++ [(t.data.toList, k)]) ∧ Sp.Upd w w' [bo, bw] := by
 have HS := ϕ h
 have HK := ϕ hk
 have HV := ϕ (show (Cv.bytesV k).size = 32 by rw [Cv.qa_, hk])
 have HW := ϕ hw
 obtain ⟨A, c, hks, hlo⟩ := look_of h t (by unfold maxLen; omega)
 have HKS := ϕ hks
 have HLO := ϕ hlo
 have HVA := ϕ (show ∀ W : World, Calls prog 88 #[.string t] W fun e w' => e = .returned (.bool true) ∧ W = w' from fun W => by have := Valid_any W t (by omega); rw [hv] at this; exact this)
 have hlo2 : ∀ W, Below w.heap.size w W → (Instr.lookup 105 (.map (some bo)) (.string t) true).run prog W = .ok (.tuple #[.slice A (keysOf L t.data.toList).length c, .bool true]) W := fun W hW => by
  rw [hlo W hW, hb]; rfl
 have HLO2 := ϕ hlo2
 have HTT := ϕ hT
 have HKK := ϕ hK
 have HM := ϕ hm
 have HNN := ϕ hN
 have HT0 := ϕ ht
 have HVV := ϕ hv
 have HBB := ϕ hb
 have HLEN := ϕ (show ∀ W, Below w.heap.size w W → ∀ ty, (Builtin.len_ #[105] ty #[.map (some bo)]).run prog W = .ok (.int .i64 ((tens L).length : Nat)) W from fun W hW ty => by
  obtain ⟨_, _, _, ⟨f, hf, _⟩, _⟩ := h.below hW
  exact hf.len underlying105 ty)
 have HKL32 := ϕ (show ∀ x ∈ keysOf L t.data.toList, x.length = 32 from fun x hx => by obtain ⟨p, hp, rfl⟩ := List.mem_map.1 hx; exact h.2.2.1.key p (List.mem_filter.1 hp).1)
 clear h hk hw hv hb hT hK hm hN ht hks hlo hlo2 HLO
 generalize hKL : keysOf L t.data.toList = kl at *
 generalize hnn : kl.length = nn at *
 go_enter func48, ntmps48
 go_upto_region 1 with (refine Rg.qh_ rfl 22 _ rfl (Cv.bytesV k) rfl ?_; intro X hX hbX hnX; have HX := ϕ hX; have HBX := ϕ hbX; clear hX hbX hnX)
 have HSX := ϕ (HS.out.below HBX.out)
 refine RL.start (RL.Aft X) (by kernel_rfl) (RL.Aft.drew (RL.Aft.refl X)) ?_
 refine RL.tu 0 ?_; go_frame
 refine RL.tu 1 ?_; go_frame
 refine RL.tu 2 ?_; go_frame
 refine' RL.tv 3 ?hk4 ?_
 case hk4 => (intro W hSW; have c3 := (HSX.out.below hSW).1.cell 3 (v := .map (some bw)) rfl; go_simp; try with_reducible rfl)
 try go_frame
 refine RL.tw 4 (v := .agg (Cv.bytesV k)) rfl (fun W hSW => RT.qx_ 22 _ rfl _ rfl _ _ (HX.out.below hSW HX.out.lt) underlying22 rfl (by rw [HV.out]; kernel_rfl)) ?_
 try go_frame
 refine' RL.tw 5 (v := .tuple #[.agg #[.string ⟨#[]⟩], .bool false]) rfl ?hk5 ?_
 case hk5 => (intro W hSW; have hl := look_who (HSX.out.below hSW) k HK.out; rw [HW.out] at hl; simp only [Option.map_some, Option.map_none, Option.getD_some, Option.getD_none, Option.isSome_some, Option.isSome_none] at hl; go_simp; try with_reducible rfl)
 try go_frame
 refine RL.tu 6 ?_; go_frame
 refine RL.tu 7 ?_; go_frame
 refine RL.tu 8 ?_; go_frame
 refine RL.sk 9 (fun wa hlwa hswa K hK => ?_)
 go_simp
 have HLA := ϕ hswa
 refine hK.out _ _ (RL.Aft.alloc hswa _) ?_
 clear hK
 try go_frame
 refine RL.sk 10 (fun wb hlwb hswb K hK => ?_)
 have hba := (Rg.Blk.new wa #[.string ⟨#[]⟩] 154).below hlwb (by simp)
 refine qg_ 154 _ _ rfl wa.heap.size #[.string ⟨#[]⟩] #[.string ⟨#[]⟩] 154 rfl rfl hba (by kernel_rfl) rfl (by simp [Value.oneCell']) ?_
 intro Y hY hgY
 have HY := ϕ hY
 have HAY := ϕ (show RL.Aft X Y from Below.grown hswb hgY hswb.size (fun k hk => by cases hk; exact HLA.out.size))
 refine hK.out _ _ HAY.out ?_
 clear hK hlwb hswb hba hY hgY hlwa hswa
 try go_frame
 refine RL.tu 11 ?_; go_frame
 refine RL.done (by kernel_rfl) (fun wd hlwd hswd => ?_)
 have HWD := ϕ (show RL.Aft X wd from hswd)
 clear hlwd hswd
 have HBD := ϕ (show Below w.heap.size w wd from HBX.out.trans (Below.mono HWD.out HBX.out.size))
 have hst := (HS.out.below HBD.out).1
 have c0 := hst.cell 0 (v := .int .i64 (T : Int)) rfl
 have c1 := hst.cell 1 (v := .int .i64 (M : Int)) rfl
 have c2 := hst.cell 2 (v := .map (some bo)) rfl
 have hl2 := HLO2.out wd HBD.out
 have hle := HLEN.out wd HBD.out
 have hleN := fun n => HLEN.out (wd.drewN n) (bdN HBD.out n)
 have hd1 : decide (M ≤ nn) = false := by rw [decide_eq_false_iff_not]; have := HKK.out; omega
 have hd1b : decide ((M : Int) ≤ (nn : Int)) = false := by rw [decide_eq_false_iff_not]; have := HKK.out; omega
 clear hst
 go_upto_region 7 with (go_at_call 88; refine (HVA.out _).mono ?_; rintro e w1 ⟨rfl, rfl⟩; skip)
 go_quiet (fail)
 go_upto_region 11 with fail
 refine wp_name3 (fun Z hZ => ?_)
 have HZB := ϕ (show Below w.heap.size w Z by rw [hZ]; exact bdN HBD.out _)
 have HSZ := ϕ (HS.out.below HZB.out)
 have HXZ := ϕ (show Rg.Blk Z w.heap.size 22 (Cv.bytesV k) by rw [hZ]; exact (show Rg.Blk wd w.heap.size 22 (Cv.bytesV k) from HX.out.below HWD.out HX.out.lt))
 have HKZ := ϕ (HKS.out.below HZB.out)
 have HBO := ϕ (show bo < w.heap.size by obtain ⟨_, _, _, ⟨f, hf, _⟩, _⟩ := HS.out; exact hf.lt)
 have HBW := ϕ (show bw < w.heap.size by obtain ⟨_, _, _, _, ⟨g, s, hg, _⟩⟩ := HS.out; exact hg.lt)
 have HNE := ϕ (show sb ≠ bo by obtain ⟨h1, _, _, ⟨f, hf, _⟩, _⟩ := HS.out; exact hf.ne h1)
 have HNW := ϕ (show sb ≠ bw by obtain ⟨h1, _, _, _, ⟨g, s, hg, _⟩⟩ := HS.out; exact hg.ne h1)
 clear hZ c0 c1 c2 hl2 hle hleN hd1 hd1b
 refine RL.start (Only Z bo) (by kernel_rfl) ((Only.refl Z bo).drew) ?_
 refine RL.tu 0 ?_; go_frame
 refine RL.tu 1 ?_; go_frame
 refine RL.tu 2 ?_; go_frame
 refine' RL.tv 3 ?hk20 ?_
 case hk20 => (intro W hSW; have c2 := (hSW.blk HSZ.out.1 HNE.out).cell 2 (v := .map (some bo)) rfl; go_simp; try with_reducible rfl)
 try go_frame
 refine RL.tu 4 ?_; go_frame
 refine RL.tu 5 ?_; go_frame
 refine RL.tw 7 (v := .agg (Cv.bytesV k)) rfl (fun W hSW => RT.qx_ 22 _ rfl _ rfl _ _ (hSW.blk HXZ.out (by have := HBO.out; omega)) underlying22 rfl (by rw [HV.out]; kernel_rfl)) ?_
 try go_frame
 refine RL.step2 (i := 6) (j := 8) rfl rfl (by kernel_rfl) (by rfl) (by rfl) (fun wa hlwa hswa K hK => ?_) (fun wa hlwa hswa K hK => ?_)
 · have HZwa := ϕ (show Below Z.heap.size Z wa from (Below.drew (Below.refl _ _)).trans hlwa)
   have HZA := ϕ (show Z.heap.size ≤ wa.heap.size from HZwa.out.size)
   have hc := Clone_any wa (.slice A nn c) kl (HKZ.out.below HZwa.out) (by have := HKK.out; have := HM.out; omega)
   go_simp
   refine hc.mono ?_
   rintro e wb ⟨v6, rfl, ho, hb⟩
   have HO := ϕ ho
   have HZwb := ϕ (HZwa.out.trans (hb.mono HZwa.out.size))
   refine hK.out _ _ (Only.lat hswa hb) ?_
   clear hK hc
   try go_frame
   refine RL.sk 8 (fun wc hlwc hswc K hK => ?_)
   have HZwc := ϕ (HZwb.out.trans (Below.mono hlwc HZwb.out.size)); have HOc := ϕ (ownsBelow HO.out hlwc)
   have hsz := HV.out
   have hfold := fold_cells (Cv.bytesV k) z32 (by rw [hsz]; rfl) 32 hsz.symm
   go_simp
   clear hsz hfold
   refine hK.out _ _ (Only.alloc hswc _) ?_
   clear hK
   try go_frame
   refine RL.sk 9 (fun we hlwe hswe K hK => ?_)
   have HZwe := ϕ ((HZwc.out.alloc HZwc.out.size _).trans (Below.mono hlwe (by have := HZwc.out.size; simp; omega)))
   have HOe := ϕ (ownsBelow (World.ownsRow.alloc HOc.out _) hlwe)
   have HRe := ϕ (show Rd we (some ⟨wc.heap.size, 0, none⟩) (bv k) from fun j x hx => ⟨wc.heap.size, 0, rfl, by have := Below.size hlwe; simp at this; omega, by rw [Nat.zero_add]; exact ((Rg.Blk.new wc (Cv.bytesV k) 22).below hlwe (by simp)).cell j (by unfold Cv.bytesV; rw [List.getElem?_toArray]; exact hx)⟩)
   have HBe := ϕ (show wa.heap.size ≤ we.heap.size by have h1 := Below.size hlwe; have h2 := Below.size hlwc; simp at h1; have h3 := HZwb.out.size; exact Nat.le_trans (show wa.heap.size ≤ wb.heap.size from hb.size) (by omega))
   refine appN_op _ _ 109 rfl underlying109 infoK rfl (by decide) (by decide) HOe.out rfl rfl (show (bv k).length = 1 * 32 by rw [jj_, HK.out]) HRe.out (bv_cells k) (by have := HKK.out; have := HM.out; omega) HBe.out ?_
   intro v9 wf hv9 hg9
   have HV9 := ϕ hv9
   have HLO9 := ϕ (show ∀ j, v6.ownBlock = some j → Z.heap.size ≤ j from fun j hj => Nat.le_trans HZA.out (World.ownsRow.lt HOe.out j hj).1)
   have HZwf := ϕ (HZwe.out.grown hg9 HZwe.out.size HLO9.out)
   refine hK.out _ _ (Only.grown hswe hg9 (fun j hj => .inr (HLO9.out j hj))) ?_
   clear hK hv9 hg9
   try go_frame
   refine RL.sk 10 (fun wg hlwg hswg K hK => ?_)
   have HZwg := ϕ (HZwf.out.trans (Below.mono hlwg HZwf.out.size))
   obtain ⟨_, _, _, ⟨f, hf, hfx⟩, _⟩ := HSZ.out.below HZwg.out
   refine jq_ _ _ _ 105 rfl 9 109 keyed_str underlying105 bo N _ f rfl hf (by have := HNN.out; unfold maxLen; omega) (.string t) v9 _ rfl rfl (key_str underlying9 t (by have := HT0.out; unfold maxLen; omega)) ?_
   intro Y hY hgY
   have HKY := ϕ (show KS wg v9 (keysOf L t.data.toList ++ [k]) from KS.own (by have h9 := ownsBelow HV9.out hlwg; rw [hKL, je_, cells_one, List.length_append]; exact h9) (fun x hx => by rcases List.mem_append.1 hx with h | h; exact HKL32.out x (by rw [← hKL]; exact h); rw [List.mem_singleton.1 h]; exact HK.out))
   obtain ⟨f2, hf2, hfx2⟩ := of_next hf hfx hY hgY HKY.out
   have HF2 := ϕ hf2; have HFX2 := ϕ hfx2
   have HGY := ϕ hgY
   refine hK.out _ _ (Only.grown hswg hgY (fun j hj => .inl (by cases hj; rfl))) ?_
   clear hK hf hfx hY hgY hf2 hfx2
   try go_frame
   refine RL.done (by kernel_rfl) (fun wh hlwh hswh => ?_)
   have HUP := ϕ (show Sp.Upd Z wh [bo] from hswh)
   have HFH := ϕ (HF2.out.below hlwh HF2.out.lt); have HXH := ϕ (HFX2.out.below hlwh)
   clear hlwh hswh
   go_upto_region 12 with fail
   have HST2 := ϕ ((show Only Z bo wh from HUP.out).blk HSZ.out.1 HNE.out)
   have HXK2 := ϕ ((show Only Z bo wh from HUP.out).blk HXZ.out (by have := HBO.out; omega))
   obtain ⟨_, hne2, hgood, _, ⟨g, s, hg, hgx⟩⟩ := HSZ.out
   have HNE2 := ϕ hne2
   have HGOOD := ϕ hgood
   have HG2 := ϕ (hg.keep (HUP.out.block bw hg.lt (by simpa using fun e => hne2 e.symm)))
   have HGX := ϕ hgx
   clear hne2 hgood hg hgx
   refine RL.start (Only wh bw) (by kernel_rfl) ((Only.refl wh bw).drew) ?_
   refine RL.tu 0 ?_; go_frame
   refine RL.tu 1 ?_; go_frame
   refine RL.tu 2 ?_; go_frame
   refine' RL.tv 3 ?hk32 ?_
   case hk32 => (intro W hSW; have c3 := (hSW.blk HST2.out HNW.out).cell 3 (v := .map (some bw)) rfl; go_simp; try with_reducible rfl)
   try go_frame
   refine RL.tw 4 (v := .agg (Cv.bytesV k)) rfl (fun W hSW => RT.qx_ 22 _ rfl _ rfl _ _ (hSW.blk HXK2.out (by have := HBW.out; omega)) underlying22 rfl (by rw [HV.out]; kernel_rfl)) ?_
   try go_frame
   refine RL.tu 5 ?_; go_frame
   refine RL.tu 6 ?_; go_frame
   refine RL.sk 7 (fun wk hlwk hswk K hK => ?_)
   have HWK := ϕ (show Below wh.heap.size wh wk from (Below.drew (Below.refl _ _)).trans hlwk)
   refine jq_ _ _ _ 106 rfl 22 154 keyed_key underlying106 bw N s g rfl (HG2.out.below HWK.out HG2.out.lt) (by have := HNN.out; unfold maxLen; omega) (.agg (Cv.bytesV k)) (.agg #[.string t]) _ rfl rfl (key32 k HK.out) ?_
   intro Y2 hY2 hgY2
   have HY2 := ϕ hY2; have HGY2 := ϕ hgY2
   refine hK.out _ _ (Only.grown hswk hgY2 (fun j hj => .inl (by cases hj; rfl))) ?_
   clear hK hY2 hgY2
   try go_frame
   refine RL.done (by kernel_rfl) (fun wl hlwl hswl => ?_)
   have HWL := ϕ (show Below Y2.heap.size Y2 wl from hlwl)
   have HU2 := ϕ (show Only wh bw wl from hswl)
   clear hlwl hswl
   go_wp2
   go_ret
   have hZw : Sp.Upd w Z [] := Sp.Upd.of_below HZB.out
   have hmap : ∃ es clock, wk.heap[bw]? = some (.map es clock) := isMap (HG2.out.below HWK.out HG2.out.lt)
   refine ⟨rfl, ⟨HU2.out.blk HST2.out HNW.out, HNE2.out, HGOOD.out.snoc HK.out HVV.out HW.out, ⟨f2, ?_, ?_⟩, ⟨_, _, (HY2.out.below HWL.out HY2.out.lt), fun x => ?_⟩⟩, ?_⟩
   · exact HFH.out.keep (HU2.out.block bo HFH.out.lt (by simpa using HNE2.out))
   · exact ((HXH.out.below HWK.out).map HGY2.out hmap).below HWL.out
   · rw [whoOf_snoc L t.data.toList k x HW.out]
     by_cases hx : x = k
     · subst hx
       rw [if_pos rfl, upd_same]
       rfl
     · rw [if_neg hx, upd_other g _ (fun e => hx (by injection e))]
       exact HGX.out x
   · exact Sp.Upd.trans (Sp.Upd.trans (Sp.Upd.trans (Sp.Upd.refl w [bo, bw]) hZw (by simp)) HUP.out (fun x hx => .inl (by simp at hx; simp [hx]))) HU2.out (fun x hx => .inl (by simp at hx; simp [hx]))
 · have HZwa := ϕ (show Below Z.heap.size Z wa from (Below.drew (Below.refl _ _)).trans hlwa)
   have hsz := HV.out
   have hfold := fold_cells (Cv.bytesV k) z32 (by rw [hsz]; rfl) 32 hsz.symm
   go_simp
   clear hsz hfold
   refine hK.out _ _ (Only.alloc hswa _) ?_
   clear hK
   try go_frame
   refine RL.sk 6 (fun wc hlwc hswc K hK => ?_)
   have HZwc := ϕ ((HZwa.out.alloc HZwa.out.size _).trans (Below.mono hlwc (by have := HZwa.out.size; simp; omega)))
   have HZA := ϕ (show Z.heap.size ≤ wc.heap.size from HZwc.out.size)
   have HRc := ϕ ((Rg.Blk.new wa (Cv.bytesV k) 22).below hlwc (by simp))
   have hc := Clone_any wc (.slice A nn c) kl (HKZ.out.below HZwc.out) (by have := HKK.out; have := HM.out; omega)
   go_simp
   refine hc.mono ?_
   rintro e wb ⟨v6, rfl, ho, hb⟩
   have HO := ϕ ho
   have HZwb := ϕ (HZwc.out.trans (hb.mono HZwc.out.size))
   refine hK.out _ _ (Only.lat hswc hb) ?_
   clear hK hc
   try go_frame
   have HRb := ϕ (HRc.out.below hb HRc.out.lt)
   refine RL.sk 9 (fun we hlwe hswe K hK => ?_)
   have HZwe := ϕ (HZwb.out.trans (Below.mono hlwe HZwb.out.size)); have HOe := ϕ (ownsBelow HO.out hlwe)
   have HRe := ϕ (show Rd we (some ⟨wa.heap.size, 0, none⟩) (bv k) from fun j x hx => ⟨wa.heap.size, 0, rfl, (HRb.out.below hlwe HRb.out.lt).lt, by rw [Nat.zero_add]; exact (HRb.out.below hlwe HRb.out.lt).cell j (by unfold Cv.bytesV; rw [List.getElem?_toArray]; exact hx)⟩)
   have HBe := ϕ (show wc.heap.size ≤ we.heap.size from Nat.le_trans hb.size (Below.size hlwe))
   refine appN_op _ _ 109 rfl underlying109 infoK rfl (by decide) (by decide) HOe.out rfl rfl (show (bv k).length = 1 * 32 by rw [jj_, HK.out]) HRe.out (bv_cells k) (by have := HKK.out; have := HM.out; omega) HBe.out ?_
   intro v9 wf hv9 hg9
   have HV9 := ϕ hv9
   have HLO9 := ϕ (show ∀ j, v6.ownBlock = some j → Z.heap.size ≤ j from fun j hj => Nat.le_trans HZA.out (World.ownsRow.lt HOe.out j hj).1)
   have HZwf := ϕ (HZwe.out.grown hg9 HZwe.out.size HLO9.out)
   refine hK.out _ _ (Only.grown hswe hg9 (fun j hj => .inr (HLO9.out j hj))) ?_
   clear hK hv9 hg9
   try go_frame
   refine RL.sk 10 (fun wg hlwg hswg K hK => ?_)
   have HZwg := ϕ (HZwf.out.trans (Below.mono hlwg HZwf.out.size))
   obtain ⟨_, _, _, ⟨f, hf, hfx⟩, _⟩ := HSZ.out.below HZwg.out
   refine jq_ _ _ _ 105 rfl 9 109 keyed_str underlying105 bo N _ f rfl hf (by have := HNN.out; unfold maxLen; omega) (.string t) v9 _ rfl rfl (key_str underlying9 t (by have := HT0.out; unfold maxLen; omega)) ?_
   intro Y hY hgY
   have HKY := ϕ (show KS wg v9 (keysOf L t.data.toList ++ [k]) from KS.own (by have h9 := ownsBelow HV9.out hlwg; rw [hKL, je_, cells_one, List.length_append]; exact h9) (fun x hx => by rcases List.mem_append.1 hx with h | h; exact HKL32.out x (by rw [← hKL]; exact h); rw [List.mem_singleton.1 h]; exact HK.out))
   obtain ⟨f2, hf2, hfx2⟩ := of_next hf hfx hY hgY HKY.out
   have HF2 := ϕ hf2; have HFX2 := ϕ hfx2
   have HGY := ϕ hgY
   refine hK.out _ _ (Only.grown hswg hgY (fun j hj => .inl (by cases hj; rfl))) ?_
   clear hK hf hfx hY hgY hf2 hfx2
   try go_frame
   refine RL.done (by kernel_rfl) (fun wh hlwh hswh => ?_)
   have HUP := ϕ (show Sp.Upd Z wh [bo] from hswh)
   have HFH := ϕ (HF2.out.below hlwh HF2.out.lt); have HXH := ϕ (HFX2.out.below hlwh)
   clear hlwh hswh
   go_upto_region 12 with fail
   have HST2 := ϕ ((show Only Z bo wh from HUP.out).blk HSZ.out.1 HNE.out)
   have HXK2 := ϕ ((show Only Z bo wh from HUP.out).blk HXZ.out (by have := HBO.out; omega))
   obtain ⟨_, hne2, hgood, _, ⟨g, s, hg, hgx⟩⟩ := HSZ.out
   have HNE2 := ϕ hne2
   have HGOOD := ϕ hgood
   have HG2 := ϕ (hg.keep (HUP.out.block bw hg.lt (by simpa using fun e => hne2 e.symm)))
   have HGX := ϕ hgx
   clear hne2 hgood hg hgx
   refine RL.start (Only wh bw) (by kernel_rfl) ((Only.refl wh bw).drew) ?_
   refine RL.tu 0 ?_; go_frame
   refine RL.tu 1 ?_; go_frame
   refine RL.tu 2 ?_; go_frame
   refine' RL.tv 3 ?hk38 ?_
   case hk38 => (intro W hSW; have c3 := (hSW.blk HST2.out HNW.out).cell 3 (v := .map (some bw)) rfl; go_simp; try with_reducible rfl)
   try go_frame
   refine RL.tw 4 (v := .agg (Cv.bytesV k)) rfl (fun W hSW => RT.qx_ 22 _ rfl _ rfl _ _ (hSW.blk HXK2.out (by have := HBW.out; omega)) underlying22 rfl (by rw [HV.out]; kernel_rfl)) ?_
   try go_frame
   refine RL.tu 5 ?_; go_frame
   refine RL.tu 6 ?_; go_frame
   refine RL.sk 7 (fun wk hlwk hswk K hK => ?_)
   have HWK := ϕ (show Below wh.heap.size wh wk from (Below.drew (Below.refl _ _)).trans hlwk)
   refine jq_ _ _ _ 106 rfl 22 154 keyed_key underlying106 bw N s g rfl (HG2.out.below HWK.out HG2.out.lt) (by have := HNN.out; unfold maxLen; omega) (.agg (Cv.bytesV k)) (.agg #[.string t]) _ rfl rfl (key32 k HK.out) ?_
   intro Y2 hY2 hgY2
   have HY2 := ϕ hY2; have HGY2 := ϕ hgY2
   refine hK.out _ _ (Only.grown hswk hgY2 (fun j hj => .inl (by cases hj; rfl))) ?_
   clear hK hY2 hgY2
   try go_frame
   refine RL.done (by kernel_rfl) (fun wl hlwl hswl => ?_)
   have HWL := ϕ (show Below Y2.heap.size Y2 wl from hlwl)
   have HU2 := ϕ (show Only wh bw wl from hswl)
   clear hlwl hswl
   go_wp2
   go_ret
   have hZw : Sp.Upd w Z [] := Sp.Upd.of_below HZB.out
   have hmap : ∃ es clock, wk.heap[bw]? = some (.map es clock) := isMap (HG2.out.below HWK.out HG2.out.lt)
   refine ⟨rfl, ⟨HU2.out.blk HST2.out HNW.out, HNE2.out, HGOOD.out.snoc HK.out HVV.out HW.out, ⟨f2, ?_, ?_⟩, ⟨_, _, (HY2.out.below HWL.out HY2.out.lt), fun x => ?_⟩⟩, ?_⟩
   · exact HFH.out.keep (HU2.out.block bo HFH.out.lt (by simpa using HNE2.out))
   · exact ((HXH.out.below HWK.out).map HGY2.out hmap).below HWL.out
   · rw [whoOf_snoc L t.data.toList k x HW.out]
     by_cases hx : x = k
     · subst hx
       rw [if_pos rfl, upd_same]
       rfl
     · rw [if_neg hx, upd_other g _ (fun e => hx (by injection e))]
       exact HGX.out x
   · exact Sp.Upd.trans (Sp.Upd.trans (Sp.Upd.trans (Sp.Upd.refl w [bo, bw]) hZw (by simp)) HUP.out (fun x hx => .inl (by simp at hx; simp [hx]))) HU2.out (fun x hx => .inl (by simp at hx; simp [hx]))
theorem Add_ok_false (w : World) (sb bo bw T M N : Nat) (L : List Pr) (h : IsSt w sb bo bw T M N L) (t : ByteArray) (ht : t.size ≤ 1000) (k : List UInt8) (hk : k.length = 32) (hv : validB t.data.toList = true) (hw : whoOf L k = none)
 (hb : (keysOf L t.data.toList).isEmpty = true) (hT : (tens L).length < T) (hK : (keysOf L t.data.toList).length < M) (hN : N ≤ 1000) (hm : M ≤ 64 ∧ T ≤ 64) :
 Calls prog 48 #[.pointer (some ⟨sb, 0, none⟩), .string t, .agg (Cv.bytesV k)] w fun e w' => e = .returned .nilIface ∧ IsSt w' sb bo bw T M (N + 1) (L ++ [(t.data.toList, k)]) ∧ Sp.Upd w w' [bo, bw] := by
 have HS := ϕ h
 have HK := ϕ hk
 have HV := ϕ (show (Cv.bytesV k).size = 32 by rw [Cv.qa_, hk])
 have HW := ϕ hw
 obtain ⟨A, c, hks, hlo⟩ := look_of h t (by unfold maxLen; omega)
 have HKS := ϕ hks
 have HLO := ϕ hlo
 have HVA := ϕ (show ∀ W : World, Calls prog 88 #[.string t] W fun e w' => e = .returned (.bool true) ∧ W = w' from fun W => by have := Valid_any W t (by omega); rw [hv] at this; exact this)
 have hlo2 : ∀ W, Below w.heap.size w W → (Instr.lookup 105 (.map (some bo)) (.string t) true).run prog W = .ok (.tuple #[.slice A (keysOf L t.data.toList).length c, .bool false]) W := fun W hW => by
  rw [hlo W hW, hb]; rfl
 have HLO2 := ϕ hlo2
 have HTT := ϕ hT
 have HKK := ϕ hK
 have HM := ϕ hm
 have HNN := ϕ hN
 have HT0 := ϕ ht
 have HVV := ϕ hv
 have HBB := ϕ hb
 have HLEN := ϕ (show ∀ W, Below w.heap.size w W → ∀ ty, (Builtin.len_ #[105] ty #[.map (some bo)]).run prog W = .ok (.int .i64 ((tens L).length : Nat)) W from fun W hW ty => by
  obtain ⟨_, _, _, ⟨f, hf, _⟩, _⟩ := h.below hW
  exact hf.len underlying105 ty)
 have HKL32 := ϕ (show ∀ x ∈ keysOf L t.data.toList, x.length = 32 from fun x hx => by obtain ⟨p, hp, rfl⟩ := List.mem_map.1 hx; exact h.2.2.1.key p (List.mem_filter.1 hp).1)
 clear h hk hw hv hb hT hK hm hN ht hks hlo hlo2 HLO
 generalize hKL : keysOf L t.data.toList = kl at *
 generalize hnn : kl.length = nn at *
 go_enter func48, ntmps48
 go_upto_region 1 with (refine Rg.qh_ rfl 22 _ rfl (Cv.bytesV k) rfl ?_; intro X hX hbX hnX; have HX := ϕ hX; have HBX := ϕ hbX; clear hX hbX hnX)
 have HSX := ϕ (HS.out.below HBX.out)
 refine RL.start (RL.Aft X) (by kernel_rfl) (RL.Aft.drew (RL.Aft.refl X)) ?_
 refine RL.tu 0 ?_; go_frame
 refine RL.tu 1 ?_; go_frame
 refine RL.tu 2 ?_; go_frame
 refine' RL.tv 3 ?hk12 ?_
 case hk12 => (intro W hSW; have c3 := (HSX.out.below hSW).1.cell 3 (v := .map (some bw)) rfl; go_simp; try with_reducible rfl)
 try go_frame
 refine RL.tw 4 (v := .agg (Cv.bytesV k)) rfl (fun W hSW => RT.qx_ 22 _ rfl _ rfl _ _ (HX.out.below hSW HX.out.lt) underlying22 rfl (by rw [HV.out]; kernel_rfl)) ?_
 try go_frame
 refine' RL.tw 5 (v := .tuple #[.agg #[.string ⟨#[]⟩], .bool false]) rfl ?hk5 ?_
 case hk5 => (intro W hSW; have hl := look_who (HSX.out.below hSW) k HK.out; rw [HW.out] at hl; simp only [Option.map_some, Option.map_none, Option.getD_some, Option.getD_none, Option.isSome_some, Option.isSome_none] at hl; go_simp; try with_reducible rfl)
 try go_frame
 refine RL.tu 6 ?_; go_frame
 refine RL.tu 7 ?_; go_frame
 refine RL.tu 8 ?_; go_frame
 refine RL.sk 9 (fun wa hlwa hswa K hK => ?_)
 go_simp
 have HLA := ϕ hswa
 refine hK.out _ _ (RL.Aft.alloc hswa _) ?_
 clear hK
 try go_frame
 refine RL.sk 10 (fun wb hlwb hswb K hK => ?_)
 have hba := (Rg.Blk.new wa #[.string ⟨#[]⟩] 154).below hlwb (by simp)
 refine qg_ 154 _ _ rfl wa.heap.size #[.string ⟨#[]⟩] #[.string ⟨#[]⟩] 154 rfl rfl hba (by kernel_rfl) rfl (by simp [Value.oneCell']) ?_
 intro Y hY hgY
 have HY := ϕ hY
 have HAY := ϕ (show RL.Aft X Y from Below.grown hswb hgY hswb.size (fun k hk => by cases hk; exact HLA.out.size))
 refine hK.out _ _ HAY.out ?_
 clear hK hlwb hswb hba hY hgY hlwa hswa
 try go_frame
 refine RL.tu 11 ?_; go_frame
 refine RL.done (by kernel_rfl) (fun wd hlwd hswd => ?_)
 have HWD := ϕ (show RL.Aft X wd from hswd)
 clear hlwd hswd
 have HBD := ϕ (show Below w.heap.size w wd from HBX.out.trans (Below.mono HWD.out HBX.out.size))
 have hst := (HS.out.below HBD.out).1
 have c0 := hst.cell 0 (v := .int .i64 (T : Int)) rfl
 have c1 := hst.cell 1 (v := .int .i64 (M : Int)) rfl
 have c2 := hst.cell 2 (v := .map (some bo)) rfl
 have hl2 := HLO2.out wd HBD.out
 have hle := HLEN.out wd HBD.out
 have hleN := fun n => HLEN.out (wd.drewN n) (bdN HBD.out n)
 have hd1 : decide (M ≤ nn) = false := by rw [decide_eq_false_iff_not]; have := HKK.out; omega
 have hd1b : decide ((M : Int) ≤ (nn : Int)) = false := by rw [decide_eq_false_iff_not]; have := HKK.out; omega
 have hd2 : decide (T ≤ (tens L).length) = false := by rw [decide_eq_false_iff_not]; have := HTT.out; omega
 have hd2b : decide ((T : Int) ≤ ((tens L).length : Int)) = false := by rw [decide_eq_false_iff_not]; have := HTT.out; omega
 clear hst
 go_upto_region 7 with (go_at_call 88; refine (HVA.out _).mono ?_; rintro e w1 ⟨rfl, rfl⟩; skip)
 go_quiet (fail)
 go_upto_region 11 with fail
 refine wp_name3 (fun Z hZ => ?_)
 have HZB := ϕ (show Below w.heap.size w Z by rw [hZ]; exact bdN HBD.out _)
 have HSZ := ϕ (HS.out.below HZB.out)
 have HXZ := ϕ (show Rg.Blk Z w.heap.size 22 (Cv.bytesV k) by rw [hZ]; exact (show Rg.Blk wd w.heap.size 22 (Cv.bytesV k) from HX.out.below HWD.out HX.out.lt))
 have HKZ := ϕ (HKS.out.below HZB.out)
 have HBO := ϕ (show bo < w.heap.size by obtain ⟨_, _, _, ⟨f, hf, _⟩, _⟩ := HS.out; exact hf.lt)
 have HBW := ϕ (show bw < w.heap.size by obtain ⟨_, _, _, _, ⟨g, s, hg, _⟩⟩ := HS.out; exact hg.lt)
 have HNE := ϕ (show sb ≠ bo by obtain ⟨h1, _, _, ⟨f, hf, _⟩, _⟩ := HS.out; exact hf.ne h1)
 have HNW := ϕ (show sb ≠ bw by obtain ⟨h1, _, _, _, ⟨g, s, hg, _⟩⟩ := HS.out; exact hg.ne h1)
 clear hZ c0 c1 c2 hl2 hle hleN hd1 hd1b hd2 hd2b
 refine RL.start (Only Z bo) (by kernel_rfl) ((Only.refl Z bo).drew) ?_
 refine RL.tu 0 ?_; go_frame
 refine RL.tu 1 ?_; go_frame
 refine RL.tu 2 ?_; go_frame
 refine' RL.tv 3 ?hk26 ?_
 case hk26 => (intro W hSW; have c2 := (hSW.blk HSZ.out.1 HNE.out).cell 2 (v := .map (some bo)) rfl; go_simp; try with_reducible rfl)
 try go_frame
 refine RL.tu 4 ?_; go_frame
 refine RL.tu 5 ?_; go_frame
 refine RL.tw 7 (v := .agg (Cv.bytesV k)) rfl (fun W hSW => RT.qx_ 22 _ rfl _ rfl _ _ (hSW.blk HXZ.out (by have := HBO.out; omega)) underlying22 rfl (by rw [HV.out]; kernel_rfl)) ?_
 try go_frame
 refine RL.step2 (i := 6) (j := 8) rfl rfl (by kernel_rfl) (by rfl) (by rfl) (fun wa hlwa hswa K hK => ?_) (fun wa hlwa hswa K hK => ?_)
 · have HZwa := ϕ (show Below Z.heap.size Z wa from (Below.drew (Below.refl _ _)).trans hlwa)
   have HZA := ϕ (show Z.heap.size ≤ wa.heap.size from HZwa.out.size)
   have hc := Clone_any wa (.slice A nn c) kl (HKZ.out.below HZwa.out) (by have := HKK.out; have := HM.out; omega)
   go_simp
   refine hc.mono ?_
   rintro e wb ⟨v6, rfl, ho, hb⟩
   have HO := ϕ ho
   have HZwb := ϕ (HZwa.out.trans (hb.mono HZwa.out.size))
   refine hK.out _ _ (Only.lat hswa hb) ?_
   clear hK hc
   try go_frame
   refine RL.sk 8 (fun wc hlwc hswc K hK => ?_)
   have HZwc := ϕ (HZwb.out.trans (Below.mono hlwc HZwb.out.size)); have HOc := ϕ (ownsBelow HO.out hlwc)
   have hsz := HV.out
   have hfold := fold_cells (Cv.bytesV k) z32 (by rw [hsz]; rfl) 32 hsz.symm
   go_simp
   clear hsz hfold
   refine hK.out _ _ (Only.alloc hswc _) ?_
   clear hK
   try go_frame
   refine RL.sk 9 (fun we hlwe hswe K hK => ?_)
   have HZwe := ϕ ((HZwc.out.alloc HZwc.out.size _).trans (Below.mono hlwe (by have := HZwc.out.size; simp; omega)))
   have HOe := ϕ (ownsBelow (World.ownsRow.alloc HOc.out _) hlwe)
   have HRe := ϕ (show Rd we (some ⟨wc.heap.size, 0, none⟩) (bv k) from fun j x hx => ⟨wc.heap.size, 0, rfl, by have := Below.size hlwe; simp at this; omega, by rw [Nat.zero_add]; exact ((Rg.Blk.new wc (Cv.bytesV k) 22).below hlwe (by simp)).cell j (by unfold Cv.bytesV; rw [List.getElem?_toArray]; exact hx)⟩)
   have HBe := ϕ (show wa.heap.size ≤ we.heap.size by have h1 := Below.size hlwe; have h2 := Below.size hlwc; simp at h1; have h3 := HZwb.out.size; exact Nat.le_trans (show wa.heap.size ≤ wb.heap.size from hb.size) (by omega))
   refine appN_op _ _ 109 rfl underlying109 infoK rfl (by decide) (by decide) HOe.out rfl rfl (show (bv k).length = 1 * 32 by rw [jj_, HK.out]) HRe.out (bv_cells k) (by have := HKK.out; have := HM.out; omega) HBe.out ?_
   intro v9 wf hv9 hg9
   have HV9 := ϕ hv9
   have HLO9 := ϕ (show ∀ j, v6.ownBlock = some j → Z.heap.size ≤ j from fun j hj => Nat.le_trans HZA.out (World.ownsRow.lt HOe.out j hj).1)
   have HZwf := ϕ (HZwe.out.grown hg9 HZwe.out.size HLO9.out)
   refine hK.out _ _ (Only.grown hswe hg9 (fun j hj => .inr (HLO9.out j hj))) ?_
   clear hK hv9 hg9
   try go_frame
   refine RL.sk 10 (fun wg hlwg hswg K hK => ?_)
   have HZwg := ϕ (HZwf.out.trans (Below.mono hlwg HZwf.out.size))
   obtain ⟨_, _, _, ⟨f, hf, hfx⟩, _⟩ := HSZ.out.below HZwg.out
   refine jq_ _ _ _ 105 rfl 9 109 keyed_str underlying105 bo N _ f rfl hf (by have := HNN.out; unfold maxLen; omega) (.string t) v9 _ rfl rfl (key_str underlying9 t (by have := HT0.out; unfold maxLen; omega)) ?_
   intro Y hY hgY
   have HKY := ϕ (show KS wg v9 (keysOf L t.data.toList ++ [k]) from KS.own (by have h9 := ownsBelow HV9.out hlwg; rw [hKL, je_, cells_one, List.length_append]; exact h9) (fun x hx => by rcases List.mem_append.1 hx with h | h; exact HKL32.out x (by rw [← hKL]; exact h); rw [List.mem_singleton.1 h]; exact HK.out))
   obtain ⟨f2, hf2, hfx2⟩ := of_next hf hfx hY hgY HKY.out
   have HF2 := ϕ hf2; have HFX2 := ϕ hfx2
   have HGY := ϕ hgY
   refine hK.out _ _ (Only.grown hswg hgY (fun j hj => .inl (by cases hj; rfl))) ?_
   clear hK hf hfx hY hgY hf2 hfx2
   try go_frame
   refine RL.done (by kernel_rfl) (fun wh hlwh hswh => ?_)
   have HUP := ϕ (show Sp.Upd Z wh [bo] from hswh)
   have HFH := ϕ (HF2.out.below hlwh HF2.out.lt); have HXH := ϕ (HFX2.out.below hlwh)
   clear hlwh hswh
   go_upto_region 12 with fail
   have HST2 := ϕ ((show Only Z bo wh from HUP.out).blk HSZ.out.1 HNE.out)
   have HXK2 := ϕ ((show Only Z bo wh from HUP.out).blk HXZ.out (by have := HBO.out; omega))
   obtain ⟨_, hne2, hgood, _, ⟨g, s, hg, hgx⟩⟩ := HSZ.out
   have HNE2 := ϕ hne2
   have HGOOD := ϕ hgood
   have HG2 := ϕ (hg.keep (HUP.out.block bw hg.lt (by simpa using fun e => hne2 e.symm)))
   have HGX := ϕ hgx
   clear hne2 hgood hg hgx
   refine RL.start (Only wh bw) (by kernel_rfl) ((Only.refl wh bw).drew) ?_
   refine RL.tu 0 ?_; go_frame
   refine RL.tu 1 ?_; go_frame
   refine RL.tu 2 ?_; go_frame
   refine' RL.tv 3 ?hk44 ?_
   case hk44 => (intro W hSW; have c3 := (hSW.blk HST2.out HNW.out).cell 3 (v := .map (some bw)) rfl; go_simp; try with_reducible rfl)
   try go_frame
   refine RL.tw 4 (v := .agg (Cv.bytesV k)) rfl (fun W hSW => RT.qx_ 22 _ rfl _ rfl _ _ (hSW.blk HXK2.out (by have := HBW.out; omega)) underlying22 rfl (by rw [HV.out]; kernel_rfl)) ?_
   try go_frame
   refine RL.tu 5 ?_; go_frame
   refine RL.tu 6 ?_; go_frame
   refine RL.sk 7 (fun wk hlwk hswk K hK => ?_)
   have HWK := ϕ (show Below wh.heap.size wh wk from (Below.drew (Below.refl _ _)).trans hlwk)
   refine jq_ _ _ _ 106 rfl 22 154 keyed_key underlying106 bw N s g rfl (HG2.out.below HWK.out HG2.out.lt) (by have := HNN.out; unfold maxLen; omega) (.agg (Cv.bytesV k)) (.agg #[.string t]) _ rfl rfl (key32 k HK.out) ?_
   intro Y2 hY2 hgY2
   have HY2 := ϕ hY2; have HGY2 := ϕ hgY2
   refine hK.out _ _ (Only.grown hswk hgY2 (fun j hj => .inl (by cases hj; rfl))) ?_
   clear hK hY2 hgY2
   try go_frame
   refine RL.done (by kernel_rfl) (fun wl hlwl hswl => ?_)
   have HWL := ϕ (show Below Y2.heap.size Y2 wl from hlwl)
   have HU2 := ϕ (show Only wh bw wl from hswl)
   clear hlwl hswl
   go_wp2
   go_ret
   have hZw : Sp.Upd w Z [] := Sp.Upd.of_below HZB.out
   have hmap : ∃ es clock, wk.heap[bw]? = some (.map es clock) := isMap (HG2.out.below HWK.out HG2.out.lt)
   refine ⟨rfl, ⟨HU2.out.blk HST2.out HNW.out, HNE2.out, HGOOD.out.snoc HK.out HVV.out HW.out, ⟨f2, ?_, ?_⟩, ⟨_, _, (HY2.out.below HWL.out HY2.out.lt), fun x => ?_⟩⟩, ?_⟩
   · exact HFH.out.keep (HU2.out.block bo HFH.out.lt (by simpa using HNE2.out))
   · exact ((HXH.out.below HWK.out).map HGY2.out hmap).below HWL.out
   · rw [whoOf_snoc L t.data.toList k x HW.out]
     by_cases hx : x = k
     · subst hx
       rw [if_pos rfl, upd_same]
       rfl
     · rw [if_neg hx, upd_other g _ (fun e => hx (by injection e))]
       exact HGX.out x
   · exact Sp.Upd.trans (Sp.Upd.trans (Sp.Upd.trans (Sp.Upd.refl w [bo, bw]) hZw (by simp)) HUP.out (fun x hx => .inl (by simp at hx; simp [hx]))) HU2.out (fun x hx => .inl (by simp at hx; simp [hx]))
 · have HZwa := ϕ (show Below Z.heap.size Z wa from (Below.drew (Below.refl _ _)).trans hlwa)
   have hsz := HV.out
   have hfold := fold_cells (Cv.bytesV k) z32 (by rw [hsz]; rfl) 32 hsz.symm
   go_simp
   clear hsz hfold
   refine hK.out _ _ (Only.alloc hswa _) ?_
   clear hK
   try go_frame
   refine RL.sk 6 (fun wc hlwc hswc K hK => ?_)
   have HZwc := ϕ ((HZwa.out.alloc HZwa.out.size _).trans (Below.mono hlwc (by have := HZwa.out.size; simp; omega)))
   have HZA := ϕ (show Z.heap.size ≤ wc.heap.size from HZwc.out.size)
   have HRc := ϕ ((Rg.Blk.new wa (Cv.bytesV k) 22).below hlwc (by simp))
   have hc := Clone_any wc (.slice A nn c) kl (HKZ.out.below HZwc.out) (by have := HKK.out; have := HM.out; omega)
   go_simp
   refine hc.mono ?_
   rintro e wb ⟨v6, rfl, ho, hb⟩
   have HO := ϕ ho
   have HZwb := ϕ (HZwc.out.trans (hb.mono HZwc.out.size))
   refine hK.out _ _ (Only.lat hswc hb) ?_
   clear hK hc
   try go_frame
   have HRb := ϕ (HRc.out.below hb HRc.out.lt)
   refine RL.sk 9 (fun we hlwe hswe K hK => ?_)
   have HZwe := ϕ (HZwb.out.trans (Below.mono hlwe HZwb.out.size)); have HOe := ϕ (ownsBelow HO.out hlwe)
   have HRe := ϕ (show Rd we (some ⟨wa.heap.size, 0, none⟩) (bv k) from fun j x hx => ⟨wa.heap.size, 0, rfl, (HRb.out.below hlwe HRb.out.lt).lt, by rw [Nat.zero_add]; exact (HRb.out.below hlwe HRb.out.lt).cell j (by unfold Cv.bytesV; rw [List.getElem?_toArray]; exact hx)⟩)
   have HBe := ϕ (show wc.heap.size ≤ we.heap.size from Nat.le_trans hb.size (Below.size hlwe))
   refine appN_op _ _ 109 rfl underlying109 infoK rfl (by decide) (by decide) HOe.out rfl rfl (show (bv k).length = 1 * 32 by rw [jj_, HK.out]) HRe.out (bv_cells k) (by have := HKK.out; have := HM.out; omega) HBe.out ?_
   intro v9 wf hv9 hg9
   have HV9 := ϕ hv9
   have HLO9 := ϕ (show ∀ j, v6.ownBlock = some j → Z.heap.size ≤ j from fun j hj => Nat.le_trans HZA.out (World.ownsRow.lt HOe.out j hj).1)
   have HZwf := ϕ (HZwe.out.grown hg9 HZwe.out.size HLO9.out)
   refine hK.out _ _ (Only.grown hswe hg9 (fun j hj => .inr (HLO9.out j hj))) ?_
   clear hK hv9 hg9
   try go_frame
   refine RL.sk 10 (fun wg hlwg hswg K hK => ?_)
   have HZwg := ϕ (HZwf.out.trans (Below.mono hlwg HZwf.out.size))
   obtain ⟨_, _, _, ⟨f, hf, hfx⟩, _⟩ := HSZ.out.below HZwg.out
   refine jq_ _ _ _ 105 rfl 9 109 keyed_str underlying105 bo N _ f rfl hf (by have := HNN.out; unfold maxLen; omega) (.string t) v9 _ rfl rfl (key_str underlying9 t (by have := HT0.out; unfold maxLen; omega)) ?_
   intro Y hY hgY
   have HKY := ϕ (show KS wg v9 (keysOf L t.data.toList ++ [k]) from KS.own (by have h9 := ownsBelow HV9.out hlwg; rw [hKL, je_, cells_one, List.length_append]; exact h9) (fun x hx => by rcases List.mem_append.1 hx with h | h; exact HKL32.out x (by rw [← hKL]; exact h); rw [List.mem_singleton.1 h]; exact HK.out))
   obtain ⟨f2, hf2, hfx2⟩ := of_next hf hfx hY hgY HKY.out
   have HF2 := ϕ hf2; have HFX2 := ϕ hfx2
   have HGY := ϕ hgY
   refine hK.out _ _ (Only.grown hswg hgY (fun j hj => .inl (by cases hj; rfl))) ?_
   clear hK hf hfx hY hgY hf2 hfx2
   try go_frame
   refine RL.done (by kernel_rfl) (fun wh hlwh hswh => ?_)
   have HUP := ϕ (show Sp.Upd Z wh [bo] from hswh)
   have HFH := ϕ (HF2.out.below hlwh HF2.out.lt); have HXH := ϕ (HFX2.out.below hlwh)
   clear hlwh hswh
   go_upto_region 12 with fail
   have HST2 := ϕ ((show Only Z bo wh from HUP.out).blk HSZ.out.1 HNE.out)
   have HXK2 := ϕ ((show Only Z bo wh from HUP.out).blk HXZ.out (by have := HBO.out; omega))
   obtain ⟨_, hne2, hgood, _, ⟨g, s, hg, hgx⟩⟩ := HSZ.out
   have HNE2 := ϕ hne2
   have HGOOD := ϕ hgood
   have HG2 := ϕ (hg.keep (HUP.out.block bw hg.lt (by simpa using fun e => hne2 e.symm)))
   have HGX := ϕ hgx
   clear hne2 hgood hg hgx
   refine RL.start (Only wh bw) (by kernel_rfl) ((Only.refl wh bw).drew) ?_
   refine RL.tu 0 ?_; go_frame
   refine RL.tu 1 ?_; go_frame
   refine RL.tu 2 ?_; go_frame
   refine' RL.tv 3 ?hk50 ?_
   case hk50 => (intro W hSW; have c3 := (hSW.blk HST2.out HNW.out).cell 3 (v := .map (some bw)) rfl; go_simp; try with_reducible rfl)
   try go_frame
   refine RL.tw 4 (v := .agg (Cv.bytesV k)) rfl (fun W hSW => RT.qx_ 22 _ rfl _ rfl _ _ (hSW.blk HXK2.out (by have := HBW.out; omega)) underlying22 rfl (by rw [HV.out]; kernel_rfl)) ?_
   try go_frame
   refine RL.tu 5 ?_; go_frame
   refine RL.tu 6 ?_; go_frame
   refine RL.sk 7 (fun wk hlwk hswk K hK => ?_)
   have HWK := ϕ (show Below wh.heap.size wh wk from (Below.drew (Below.refl _ _)).trans hlwk)
   refine jq_ _ _ _ 106 rfl 22 154 keyed_key underlying106 bw N s g rfl (HG2.out.below HWK.out HG2.out.lt) (by have := HNN.out; unfold maxLen; omega) (.agg (Cv.bytesV k)) (.agg #[.string t]) _ rfl rfl (key32 k HK.out) ?_
   intro Y2 hY2 hgY2
   have HY2 := ϕ hY2; have HGY2 := ϕ hgY2
   refine hK.out _ _ (Only.grown hswk hgY2 (fun j hj => .inl (by cases hj; rfl))) ?_
   clear hK hY2 hgY2
   try go_frame
   refine RL.done (by kernel_rfl) (fun wl hlwl hswl => ?_)
   have HWL := ϕ (show Below Y2.heap.size Y2 wl from hlwl)
   have HU2 := ϕ (show Only wh bw wl from hswl)
   clear hlwl hswl
   go_wp2
   go_ret
   have hZw : Sp.Upd w Z [] := Sp.Upd.of_below HZB.out
   have hmap : ∃ es clock, wk.heap[bw]? = some (.map es clock) := isMap (HG2.out.below HWK.out HG2.out.lt)
   refine ⟨rfl, ⟨HU2.out.blk HST2.out HNW.out, HNE2.out, HGOOD.out.snoc HK.out HVV.out HW.out, ⟨f2, ?_, ?_⟩, ⟨_, _, (HY2.out.below HWL.out HY2.out.lt), fun x => ?_⟩⟩, ?_⟩
   · exact HFH.out.keep (HU2.out.block bo HFH.out.lt (by simpa using HNE2.out))
   · exact ((HXH.out.below HWK.out).map HGY2.out hmap).below HWL.out
   · rw [whoOf_snoc L t.data.toList k x HW.out]
     by_cases hx : x = k
     · subst hx
       rw [if_pos rfl, upd_same]
       rfl
     · rw [if_neg hx, upd_other g _ (fun e => hx (by injection e))]
       exact HGX.out x
   · exact Sp.Upd.trans (Sp.Upd.trans (Sp.Upd.trans (Sp.Upd.refl w [bo, bw]) hZw (by simp)) HUP.out (fun x hx => .inl (by simp at hx; simp [hx]))) HU2.out (fun x hx => .inl (by simp at hx; simp [hx]))
end Go.Proofs.YtciibogkfbicfaaGreatDoor.St
namespace Go.Proofs
open Go.Shelf
def Tryz.keys66_ren : Go.Shelf.Ren := ⟨fun | 7 => 66 | 10 => 108 | n => n, fun | 23 => 105 | 26 => 9 | 3 => 109 | 28 => 134 | 0 => 0 | 27 => 133 | 33 => 123 | 4 => 4 | n => n, fun | n => n⟩
theorem Tryz.keys66 : Go.Proofs.SlLaysZ.n7 prog Tryz.keys66_ren := {
 mixed := by kernel_rfl
 f7 := ⟨Tryz.f66.name, by decide, func66.trans (congrArg some (by kernel_rfl))⟩
 f10 := ⟨Tryz.f108.name, by decide, func108.trans (congrArg some (by kernel_rfl))⟩
 t0 := underlying0
 a0 := isAgg0
 z0 := sizeOf0
 v0 := zeroValue0
 t4 := underlying4
 a4 := isAgg4
 z4 := sizeOf4
 v4 := zeroValue4
 t23 := underlying105
 a23 := isAgg105
 z23 := sizeOf105
 v23 := zeroValue105
 t26 := underlying9
 a26 := isAgg9
 z26 := sizeOf9
 v26 := zeroValue9
 t27 := underlying133
 a27 := isAgg133
 z27 := sizeOf133
 v27 := zeroValue133
 t28 := underlying134
 a28 := isAgg134
 z28 := sizeOf134
 v28 := zeroValue134
 t33 := underlying123
 a33 := isAgg123
 z33 := sizeOf123
 v33 := zeroValue123 }
def Tryz.sorted65_ren : Go.Shelf.Ren := ⟨fun | 6 => 65 | 8 => 106 | 9 => 107 | 11 => 138 | 13 => 140 | 12 => 139 | 23 => 161 | 24 => 162 | 14 => 152 | 15 => 153 | 16 => 154 | 17 => 155 | 18 => 156 | 19 => 157 | 20 => 158 | 21 => 159 | 22 => 160 | 25 => 174 | 26 => 175 | 27 => 176 | 28 => 177 | 29 => 178 | 30 => 179 | 31 => 186 | n => n, fun | 26 => 9 | 28 => 134 | 24 => 31 | 0 => 0 | 3 => 3 | 37 => 149 | 48 => 100 | 50 => 73 | 4 => 4 | 40 => 241 | 39 => 240 | 45 => 246 | 5 => 5 | 9 => 9 | 51 => 257 | 55 => 261 | 57 => 267 | 58 => 268 | 33 => 123 | n => n, fun | n => n⟩
theorem Tryz.sorted65 : Go.Proofs.SlLaysZ.n6 prog Tryz.sorted65_ren := {
 mixed := by kernel_rfl
 f6 := ⟨Tryz.f65.name, by decide, func65.trans (congrArg some (by kernel_rfl))⟩
 f8 := ⟨Tryz.f106.name, by decide, func106.trans (congrArg some (by kernel_rfl))⟩
 f11 := ⟨Tryz.f138.name, by decide, func138.trans (congrArg some (by kernel_rfl))⟩
 t0 := underlying0
 a0 := isAgg0
 z0 := sizeOf0
 v0 := zeroValue0
 t24 := underlying31
 a24 := isAgg31
 z24 := sizeOf31
 v24 := zeroValue31
 t26 := underlying9
 a26 := isAgg9
 z26 := sizeOf9
 v26 := zeroValue9
 t28 := underlying134
 a28 := isAgg134
 z28 := sizeOf134
 v28 := zeroValue134
 i26 := by kernel_rfl }
def Tryz.sort107_ren : Go.Shelf.Ren := ⟨fun | 6 => 107 | 8 => 140 | 9 => 139 | 19 => 161 | 20 => 162 | 21 => 152 | 22 => 153 | 23 => 154 | 24 => 155 | 25 => 156 | 26 => 157 | 27 => 158 | 28 => 159 | 29 => 160 | 36 => 174 | 31 => 175 | 32 => 176 | 37 => 177 | 38 => 178 | 39 => 179 | 41 => 186 | n => n, fun | 27 => 31 | 29 => 9 | 3 => 3 | 32 => 149 | 26 => 31 | 0 => 0 | 44 => 100 | 46 => 73 | 4 => 4 | 36 => 241 | 35 => 240 | 41 => 246 | 5 => 5 | 9 => 9 | 53 => 257 | 57 => 261 | 63 => 267 | 64 => 268 | n => n, fun | n => n⟩
theorem Tryz.sort107 : Go.Proofs.SlLaysM.n6 prog Tryz.sort107_ren := {
 mixed := by kernel_rfl
 f6 := ⟨Tryz.f107.name, by decide, func107.trans (congrArg some (by kernel_rfl))⟩
 f8 := func140.trans (congrArg some (by kernel_rfl))
 f9 := ⟨Tryz.f139.name, by decide, func139.trans (congrArg some (by kernel_rfl))⟩
 f19 := func161.trans (congrArg some (by kernel_rfl))
 f20 := func162.trans (congrArg some (by kernel_rfl))
 f21 := ⟨Tryz.f152.name, by decide, func152.trans (congrArg some (by kernel_rfl))⟩
 f22 := ⟨Tryz.f153.name, by decide, func153.trans (congrArg some (by kernel_rfl))⟩
 f23 := ⟨Tryz.f154.name, by decide, func154.trans (congrArg some (by kernel_rfl))⟩
 f24 := ⟨Tryz.f155.name, by decide, func155.trans (congrArg some (by kernel_rfl))⟩
 f25 := ⟨Tryz.f156.name, by decide, func156.trans (congrArg some (by kernel_rfl))⟩
 f26 := ⟨Tryz.f157.name, by decide, func157.trans (congrArg some (by kernel_rfl))⟩
 f27 := ⟨Tryz.f158.name, by decide, func158.trans (congrArg some (by kernel_rfl))⟩
 f28 := ⟨Tryz.f159.name, by decide, func159.trans (congrArg some (by kernel_rfl))⟩
 f29 := ⟨Tryz.f160.name, by decide, func160.trans (congrArg some (by kernel_rfl))⟩
 f31 := func175.trans (congrArg some (by kernel_rfl))
 f32 := func176.trans (congrArg some (by kernel_rfl))
 f36 := ⟨Tryz.f174.name, by decide, func174.trans (congrArg some (by kernel_rfl))⟩
 f37 := ⟨Tryz.f177.name, by decide, func177.trans (congrArg some (by kernel_rfl))⟩
 f38 := ⟨Tryz.f178.name, by decide, func178.trans (congrArg some (by kernel_rfl))⟩
 f39 := ⟨Tryz.f179.name, by decide, func179.trans (congrArg some (by kernel_rfl))⟩
 f41 := ⟨Tryz.f186.name, by decide, func186.trans (congrArg some (by kernel_rfl))⟩
 t0 := underlying0
 a0 := isAgg0
 z0 := sizeOf0
 v0 := zeroValue0
 t3 := underlying3
 a3 := isAgg3
 z3 := sizeOf3
 v3 := zeroValue3
 t4 := underlying4
 a4 := isAgg4
 z4 := sizeOf4
 v4 := zeroValue4
 t5 := underlying5
 a5 := isAgg5
 z5 := sizeOf5
 v5 := zeroValue5
 t9 := underlying9
 a9 := isAgg9
 z9 := sizeOf9
 v9 := zeroValue9
 t26 := underlying31
 a26 := isAgg31
 z26 := sizeOf31
 v26 := zeroValue31
 t27 := underlying31
 a27 := isAgg31
 z27 := sizeOf31
 v27 := zeroValue31
 t29 := underlying9
 a29 := isAgg9
 z29 := sizeOf9
 v29 := zeroValue9
 t32 := underlying149
 a32 := isAgg149
 z32 := sizeOf149
 v32 := zeroValue149
 t35 := underlying240
 a35 := isAgg240
 z35 := sizeOf240
 v35 := zeroValue240
 t36 := underlying241
 a36 := isAgg241
 z36 := sizeOf241
 v36 := zeroValue241
 t41 := underlying246
 a41 := isAgg246
 z41 := sizeOf246
 v41 := zeroValue246
 t44 := underlying100
 a44 := isAgg100
 z44 := sizeOf100
 v44 := zeroValue100
 t46 := underlying73
 a46 := isAgg73
 z46 := sizeOf73
 v46 := zeroValue73
 t53 := underlying257
 a53 := isAgg257
 z53 := sizeOf257
 v53 := zeroValue257
 t57 := underlying261
 a57 := isAgg261
 z57 := sizeOf261
 v57 := zeroValue261
 t63 := underlying267
 a63 := isAgg267
 z63 := sizeOf267
 v63 := zeroValue267
 t64 := underlying268
 a64 := isAgg268
 z64 := sizeOf268
 v64 := zeroValue268 }
open Go.RowKit Go.Maps Go.Sort
theorem Tryz.sorts65 (m : Nat) : AnyZ.SortsIn prog Tryz.sorted65_ren Fence.wide m :=
 ⟨fun blk off cap ss W hH hblk hsz => callsIn_wide.2 (AnyM.slices_Sort_string Tryz.sort107 blk off cap ss W hH hblk hsz),
  fun p cap W => callsIn_wide.2 (AnyM.slices_Sort_string_none Tryz.sort107 p cap W)⟩
theorem Tryz.maps_Keys_66 (mb : Option Nat) (W : World) : CallsIn Fence.wide 5 prog 66 #[.map mb] W fun e w' => e = .returned (.func (.func 108) #[] #[.pointer (some ⟨W.heap.size, 0, none⟩)]) ∧ w' = W.alloc (.cells #[.map mb] 105) :=
 AnyZ.keys_in Tryz.keys66 Fence.wide 5 trivial rfl mb W
theorem Tryz.slices_Sorted_keys_65_66 {H : Type} (b nn : Nat) (D0 : DataW H) (R : Value → Option (DataW H × List MemPlace)) (w : World) (hown : w.ownsMap prog 9 R b nn D0) (hmax : Maps.size D0 ≤ maxLen) (hbytes : Maps.size D0 * 16 ≤ 140737488355328) :
 CallsIn Fence.wide 5 prog 65 #[.func (.func 108) #[] #[.pointer (some ⟨w.heap.size, 0, none⟩)]] (w.alloc (.cells #[.map (some b)] 105)) fun e w' => ∃ (v : Value) (ss : List (List UInt8)), e = .returned v ∧ ss.Perm (strKeys D0) ∧
  w'.ownsRow (w.alloc (.cells #[.map (some b)] 105)).heap.size 9 1 v ss.length ((ss.mergeSort (fun x y => decide (x ≤ y))).map encStr) ∧ (v = .slice none 0 0 ↔ ss = []) ∧ Below (w.alloc (.cells #[.map (some b)] 105)).heap.size (w.alloc (.cells #[.map (some b)] 105)) w' := by
 have hbl := hown.lt
 have hseq : SeqGives Fence.wide 2 prog 108 #[.pointer (some ⟨w.heap.size, 0, none⟩)] encStr (fun ss => ss.Perm (strKeys D0)) (Maps.size D0) (w.alloc (.cells #[.map (some b)] 105)) :=
  AnyZ.keys_gives (ρ := Tryz.keys66_ren) { Tryz.keys66 with } Fence.wide _ trivial rfl (by omega) w.heap.size b nn D0 _ (by simp) (by simp) (by
   obtain ⟨es, clock, hb, Ft, hs, hD⟩ := hown
   exact ⟨es, clock, (Below.heap_alloc _ _ b hbl).trans hb, Ft, hs, hD⟩)
 exact AnyZ.sorted_in Tryz.sorted65 Fence.wide 5 trivial trivial trivial trivial rfl (by omega) (Tryz.sorts65 _) (enters_of func107 (by kernel_rfl) rfl) 108 #[.pointer (some ⟨w.heap.size, 0, none⟩)] trivial (enters_of func108 (by kernel_rfl) rfl) _ _ hmax hbytes _ hseq
end Go.Proofs
namespace Go.Proofs.YtciibogkfbicfaaGreatDoor.St
open Go.RowKit Go.Proofs.YtciibogkfbicfaaGreatDoor.Ow Go.Proofs.YtciibogkfbicfaaGreatDoor.Mp Go.Maps Go.Proofs
theorem tens_perm {w : World} {b n : Nat} {f : Lit → Option Value} {L : List Pr} {D : DataW Value} (hD : w.ownsMap prog 9 raw b n D) (hf : ∀ kl, (f kl = none ∧ has D kl = false) ∨ ∃ v, f kl = some v ∧ has D kl = true ∧ ∀ z, D.atKey kl z = .held v)
 (hfx : ∀ x, (keysOf L x = [] ∧ f (.string x) = none) ∨ (keysOf L x ≠ [] ∧ ∃ v, f (.string x) = some v ∧ KS w v (keysOf L x))) : (tens L).Perm (strKeys D) := by
 obtain ⟨es, rfl, hp⟩ := hD.tidy keyed_str
 obtain ⟨es2, e2, hk⟩ := hD.keysOf
 injection e2 with e2
 subst e2
 refine perm_strKeys hp (fun p hp => ?_) (nodup_ddup _) fun x => ?_
 · obtain ⟨v, hv⟩ := hk p hp
   obtain ⟨x, _, h, _⟩ := Maps.keyOf_str underlying9 hv
   exact ⟨x, h⟩
 · rw [mem_tens]
   rcases hfx x with ⟨h1, h2⟩ | ⟨h1, v, h2, _⟩
   · rcases hf (.string x) with ⟨h3, h4⟩ | ⟨v, h3, _⟩
     · rw [h4]; simp [h1]
     · rw [h2] at h3; cases h3
   · rcases hf (.string x) with ⟨h3, h4⟩ | ⟨v', h3, h4, _⟩
     · rw [h2] at h3; cases h3
     · rw [h4]; simp [h1]
theorem Tenants_any (w : World) (sb bo bw T K N : Nat) (L : List Pr) (h : IsSt w sb bo bw T K N L) (hN : (tens L).length ≤ 1000000) :
 Calls prog 32 #[.pointer (some ⟨sb, 0, none⟩)] w fun e w' => ∃ v, e = .returned v ∧ Owns w' w.heap.size 9 v ((namesL L).map encStr) ∧ Below w.heap.size w w' := by
 obtain ⟨hB, hne, hG, ⟨f, ⟨D, hD, hsz, hf⟩, hfx⟩, _⟩ := h
 have HP := ϕ (tens_perm hD hf hfx)
 have c2 := hB.cell 2 (v := .map (some bo)) rfl
 have HK := ϕ (callsIn_wide.1 (Tryz.maps_Keys_66 (some bo) w))
 have HS := ϕ (callsIn_wide.1 (Tryz.slices_Sorted_keys_65_66 bo N D raw w hD (by unfold maxLen; omega) (by omega)))
 have HB := ϕ (show Below w.heap.size w (w.alloc (.cells #[.map (some bo)] 105)) from (Below.refl _ _).alloc (Nat.le_refl _) _)
 clear hB hG hf hfx hD hsz hN
 go_enter func32, ntmps32
 go_wp2_with (first
  | (go_at_call 66; refine HK.out.mono ?_; rintro e w1 ⟨rfl, rfl⟩; skip)
  | (go_at_call 65; refine HS.out.mono ?_; rintro e w2 ⟨v, ss, rfl, hp, hr, hn, hb⟩; have HPS := ϕ hp; have HR := ϕ hr; have HB2 := ϕ hb; clear hp hr hn hb))
 go_ret
 have e1 : ss.mergeSort leB = namesL L := mergeSort_of_perm (HPS.out.trans HP.out.symm)
 refine ⟨_, rfl, ?_, HB.out.trans (HB2.out.mono (by simp))⟩
 have hr := HR.out
 rw [show (ss.mergeSort fun x y => decide (x ≤ y)) = namesL L from e1] at hr
 have el : ss.length = ((namesL L).map encStr).length := by rw [← e1]; simp
 rw [el] at hr
 refine ⟨hr.1, hr.2.imp id fun ⟨g, cap, cur, hv, hb, rest⟩ => ⟨g, cap, cur, hv, ?_, rest⟩⟩
 simp at hb
 omega
theorem rangeAt_append {w : World} {b o : Nat} {x y : List Value} : w.rangeAt b o (x ++ y) ↔ w.rangeAt b o x ∧ w.rangeAt b (o + x.length) y := by
 constructor
 · intro h
   refine ⟨fun j v hv => h j v ?_, fun j v hv => ?_⟩
   · rw [List.getElem?_append_left (List.getElem?_eq_some_iff.1 hv).1]; exact hv
   · have := h (x.length + j) v (by rw [List.getElem?_append_right (by omega), show x.length + j - x.length = j by omega]; exact hv)
     rw [← Nat.add_assoc] at this; exact this
 · rintro ⟨h1, h2⟩ j v hv
   by_cases hj : j < x.length
   · rw [List.getElem?_append_left hj] at hv; exact h1 j v hv
   · rw [List.getElem?_append_right (by omega)] at hv
     have := h2 _ v hv
     rw [show o + x.length + (j - x.length) = o + j by omega] at this; exact this
def KR (w : World) (g : Nat) (M : List (List UInt8)) : Prop := w.rangeAt g 0 (cells M) ∧ w.there g 0 (M.length * 32)
theorem KR.set {w : World} {g : Nat} {M : List (List UInt8)} (h : KR w g M) (hM : ∀ y ∈ M, y.length = 32) {p : Nat} (hp : p < M.length) {x : List UInt8} (hx : x.length = 32) : KR (w.setCells g (p * 32) (bv x)) g (M.set p x) := by
 have e1 : M = M.take p ++ (M[p] :: M.drop (p + 1)) := by rw [← List.drop_eq_getElem_cons hp, List.take_append_drop]
 have e2 : M.set p x = M.take p ++ (x :: M.drop (p + 1)) := by rw [List.set_eq_take_append_cons_drop, if_pos hp]
 have lt : (cells (M.take p)).length = p * 32 := by rw [cells_length _ (fun y hy => hM y (List.mem_of_mem_take hy)), List.length_take, Nat.min_eq_left (by omega)]
 have lb : (bv x).length = 32 := by rw [jj_, hx]
 have h1 := h.1
 rw [e1, je_, show M[p] :: M.drop (p + 1) = [M[p]] ++ M.drop (p + 1) from rfl, je_, cells_one] at h1
 obtain ⟨ha, hb⟩ := rangeAt_append.1 h1
 obtain ⟨_, hc⟩ := rangeAt_append.1 hb
 rw [jj_, hM _ (List.getElem_mem hp), lt] at hc
 have ht : w.there g (p * 32) (bv x).length := fun j hj => by
  have := h.2 (p * 32 + j) (by rw [lb] at hj; omega)
  rw [Nat.zero_add] at this; exact this
 refine ⟨?_, by rw [List.length_set]; exact World.there_setCells h.2 _ _ _⟩
 rw [e2, je_, show x :: M.drop (p + 1) = [x] ++ M.drop (p + 1) from rfl, je_, cells_one]
 refine rangeAt_append.2 ⟨World.rangeAt_setCells_apart ha _ _ _ (.inr (.inl (by omega))), rangeAt_append.2 ⟨?_, ?_⟩⟩
 · rw [lt, Nat.zero_add]; exact World.rangeAt_setCells_same w g (p * 32) (bv x) ht
 · rw [lt, lb]
   exact World.rangeAt_setCells_apart hc _ _ _ (.inr (.inr (by omega)))
theorem KR.at_ {w : World} {g : Nat} {M : List (List UInt8)} (h : KR w g M) (hM : ∀ y ∈ M, y.length = 32) {j : Nat} {x : List UInt8} (hx : M[j]? = some x) : w.rangeAt g (j * 32) (bv x) := fun i v hv => by
 have := h.1 (j * 32 + i) v (cells_at hM hx i v hv)
 rw [Nat.zero_add] at this; exact this
theorem KR.own {w : World} {B g c n : Nat} {l : List (List UInt8)} (h : w.ownsRow B 22 32 (.slice (some ⟨g, 0, none⟩) n c) n (cells l)) (hn : l.length = n) : KR w g l := by
 rcases h.2 with ⟨hv, _⟩ | ⟨g', cap, cur, hv, _, hg, hc, _, hs, ht⟩
 · cases hv
 · injection hv with hv
   injection hv with hv
   injection hv with hv
   subst hv
   have hlen := h.1
   refine ⟨fun j v hv => ?_, fun j hj => ?_⟩
   · have := World.ownsRow.cells h (g := g) rfl j v hv
     rw [Addr.add_mid] at this; exact this
   · have hj2 : j < (cells l).length := by rw [hlen, ← hn]; exact hj
     have := World.ownsRow.cells h (g := g) rfl j _ (List.getElem?_eq_getElem hj2)
     rw [Addr.add_mid] at this
     exact ⟨by rw [this]; rfl, frozen_of_row w g _ _ _ hg⟩
theorem KR.below {w w' : World} {g : Nat} {M : List (List UInt8)} (h : KR w g M) (hb : Below w.heap.size w w') : KR w' g M := by
 refine ⟨fun j v hv => (hb.cell (World.block_lt_of_cell? w _ (h.1 j v hv))).trans (h.1 j v hv), fun j hj => ?_⟩
 obtain ⟨h1, h2⟩ := h.2 j hj
 obtain ⟨u, hu⟩ := Option.isSome_iff_exists.1 h1
 have hl := World.block_lt_of_cell? w _ hu
 exact ⟨by rw [hb.cell hl]; exact h1, (hb.frozen hl).trans h2⟩
open Go.Proofs.YtciibogkfbicfaaGreatDoor.Cv
abbrev kept (l : List (List UInt8)) (k : List UInt8) : List (List UInt8) := l.filter fun y => decide (y ≠ k)
structure DSt (l : List (List UInt8)) (k : List UInt8) (p q : Nat) (M : List (List UInt8)) : Prop where
 pq : p < q
 qn : q ≤ l.length
 len : M.length = l.length
 all : ∀ y ∈ M, y.length = 32
 front : M.take p = kept (l.take q) k
 back : M.drop q = l.drop q
theorem DSt.at_ {l : List (List UInt8)} {k : List UInt8} {p q : Nat} {M : List (List UInt8)} (h : DSt l k p q M) {x : List UInt8} (hx : l[q]? = some x) : M[q]? = some x := by
 have := congrArg (·[0]?) h.back
 simpa [hx] using this
theorem DSt.skip {l : List (List UInt8)} {k : List UInt8} {p q : Nat} {M : List (List UInt8)} (h : DSt l k p q M) {x : List UInt8} (hx : l[q]? = some x) (he : x = k) : DSt l k p (q + 1) M := by
 have hq := (List.getElem?_eq_some_iff.1 hx).1
 refine ⟨by have := h.pq; omega, hq, h.len, h.all, ?_, ?_⟩
 · rw [h.front, List.take_succ_eq_append_getElem hq, (List.getElem?_eq_some_iff.1 hx).2]
   unfold kept
   rw [List.filter_append, he]
   simp
 · have := congrArg (·.drop 1) h.back
   simpa using this
theorem OfSpec.only {w w' : World} {L : List Pr} {f : Lit → Option Value} {b : Nat} (h : OfSpec w L f) (hu : Only w b w') (hm : ∃ es clock, w.heap[b]? = some (.map es clock)) : OfSpec w' L f := h.map (Sp.Upd.grown1 hu) hm
end Go.Proofs.YtciibogkfbicfaaGreatDoor.St
namespace Go.Proofs.YtciibogkfbicfaaGreatDoor.Au
open Go.RowKit Go.Proofs.YtciibogkfbicfaaGreatDoor.Wi Go.Proofs.YtciibogkfbicfaaGreatDoor.Ow Go.Proofs.YtciibogkfbicfaaGreatDoor.Be Go.Proofs.YtciibogkfbicfaaGreatDoor.Bl Go.Proofs.YtciibogkfbicfaaGreatDoor.Cv Go.Proofs.YtciibogkfbicfaaGreatDoor.Kx Go.Proofs.YtciibogkfbicfaaGreatDoor.Mg Go.Proofs.YtciibogkfbicfaaGreatDoor.Ed
def i4 (n : Int) : Nat := (n % 4).toNat
theorem i4_lt (n : Int) : i4 n < 4 := by unfold i4; omega
theorem and3 (n : Int) : bits .and .i64 n 3 = (i4 n : Int) := by
 have h127 : (BitVec.ofInt 64 3).toNat = 2 ^ 2 - 1 := by decide
 have key : (BitVec.ofInt 64 n &&& BitVec.ofInt 64 3).toNat = (n % ((2 ^ 64 : Nat) : Int)).toNat % 2 ^ 2 := by
  rw [BitVec.toNat_and, BitVec.toNat_ofInt, h127, Nat.and_two_pow_sub_one_eq_mod]
 show IntKind.i64.wrap ((BitVec.ofInt 64 n &&& BitVec.ofInt 64 3).toNat : Nat) = _
 unfold i4
 rw [key, IntKind.wrap_i64]
 omega
theorem i4_cases (n : Int) : i4 n = 0 ∨ i4 n = 1 ∨ i4 n = 2 ∨ i4 n = 3 := by have := i4_lt n; omega
theorem sd_built0 : prog.built 22 [(0, .int .u8 7), (1, .int .u8 0)] = some (bytesV (sdN 0)) := by kernel_rfl
theorem sd_built1 : prog.built 22 [(0, .int .u8 7), (1, .int .u8 1)] = some (bytesV (sdN 1)) := by kernel_rfl
theorem sd_built2 : prog.built 22 [(0, .int .u8 7), (1, .int .u8 2)] = some (bytesV (sdN 2)) := by kernel_rfl
theorem sd_built3 : prog.built 22 [(0, .int .u8 7), (1, .int .u8 3)] = some (bytesV (sdN 3)) := by kernel_rfl
theorem seed_0 (w : World) (n : Int) (h : i4 n = 0) : Calls prog 10 #[.int .i64 n] w fun e w' => e = .returned (.agg (bytesV (sdN 0))) ∧ Below w.heap.size w w' := by
 have h3 := and3 n
 rw [h] at h3
 have h3 : bits .and .i64 n 3 = 0 := h3
 have HV := ϕ (show (bytesV (sdN 0)).size = 32 by rw [qa_, sdN_len])
 clear h
 go_enter func10, ntmps10
 go_wp2_with (first
  | ((with_reducible refine qd_ ?_); refine jk_ rfl 22 _ rfl #[(0, .int .u8 7), (1, .int .u8 0)] (by go_simp; try (first | rfl | exact ⟨rfl, rfl⟩)) (bytesV (sdN 0)) sd_built0 ?_)
  | ((with_reducible refine qd_ ?_); refine Rg.qf_ rfl 22 _ _ rfl (bytesV (sdN 0)) _ 22 rfl rfl (by rw [HV.out]; kernel_rfl) (by rw [HV.out]; rfl) (qk_ _) ?_; intro X hX hbX; have HX := ϕ hX; have HBX := ϕ hbX; clear hX hbX))
 refine bodyPost_ret (v := .agg (bytesV (sdN 0)))
  (results_cell_row results10 _ _ w.heap.size 22 _ (0, 0) _ rfl HX.out underlying22 rfl (by rw [HV.out]; kernel_rfl)) rfl ?_
 exact ⟨rfl, HBX.out⟩
theorem seed_1 (w : World) (n : Int) (h : i4 n = 1) : Calls prog 10 #[.int .i64 n] w fun e w' => e = .returned (.agg (bytesV (sdN 1))) ∧ Below w.heap.size w w' := by
 have h3 := and3 n
 rw [h] at h3
 have h3 : bits .and .i64 n 3 = 1 := h3
 have HV := ϕ (show (bytesV (sdN 1)).size = 32 by rw [qa_, sdN_len])
 clear h
 go_enter func10, ntmps10
 go_wp2_with (first
  | ((with_reducible refine qd_ ?_); refine jk_ rfl 22 _ rfl #[(0, .int .u8 7), (1, .int .u8 1)] (by go_simp; try (first | rfl | exact ⟨rfl, rfl⟩)) (bytesV (sdN 1)) sd_built1 ?_)
  | ((with_reducible refine qd_ ?_); refine Rg.qf_ rfl 22 _ _ rfl (bytesV (sdN 1)) _ 22 rfl rfl (by rw [HV.out]; kernel_rfl) (by rw [HV.out]; rfl) (qk_ _) ?_; intro X hX hbX; have HX := ϕ hX; have HBX := ϕ hbX; clear hX hbX))
 refine bodyPost_ret (v := .agg (bytesV (sdN 1)))
  (results_cell_row results10 _ _ w.heap.size 22 _ (0, 0) _ rfl HX.out underlying22 rfl (by rw [HV.out]; kernel_rfl)) rfl ?_
 exact ⟨rfl, HBX.out⟩
theorem seed_2 (w : World) (n : Int) (h : i4 n = 2) : Calls prog 10 #[.int .i64 n] w fun e w' => e = .returned (.agg (bytesV (sdN 2))) ∧ Below w.heap.size w w' := by
 have h3 := and3 n
 rw [h] at h3
 have h3 : bits .and .i64 n 3 = 2 := h3
 have HV := ϕ (show (bytesV (sdN 2)).size = 32 by rw [qa_, sdN_len])
 clear h
 go_enter func10, ntmps10
 go_wp2_with (first
  | ((with_reducible refine qd_ ?_); refine jk_ rfl 22 _ rfl #[(0, .int .u8 7), (1, .int .u8 2)] (by go_simp; try (first | rfl | exact ⟨rfl, rfl⟩)) (bytesV (sdN 2)) sd_built2 ?_)
  | ((with_reducible refine qd_ ?_); refine Rg.qf_ rfl 22 _ _ rfl (bytesV (sdN 2)) _ 22 rfl rfl (by rw [HV.out]; kernel_rfl) (by rw [HV.out]; rfl) (qk_ _) ?_; intro X hX hbX; have HX := ϕ hX; have HBX := ϕ hbX; clear hX hbX))
 refine bodyPost_ret (v := .agg (bytesV (sdN 2)))
  (results_cell_row results10 _ _ w.heap.size 22 _ (0, 0) _ rfl HX.out underlying22 rfl (by rw [HV.out]; kernel_rfl)) rfl ?_
 exact ⟨rfl, HBX.out⟩
theorem seed_3 (w : World) (n : Int) (h : i4 n = 3) : Calls prog 10 #[.int .i64 n] w fun e w' => e = .returned (.agg (bytesV (sdN 3))) ∧ Below w.heap.size w w' := by
 have h3 := and3 n
 rw [h] at h3
 have h3 : bits .and .i64 n 3 = 3 := h3
 have HV := ϕ (show (bytesV (sdN 3)).size = 32 by rw [qa_, sdN_len])
 clear h
 go_enter func10, ntmps10
 go_wp2_with (first
  | ((with_reducible refine qd_ ?_); refine jk_ rfl 22 _ rfl #[(0, .int .u8 7), (1, .int .u8 3)] (by go_simp; try (first | rfl | exact ⟨rfl, rfl⟩)) (bytesV (sdN 3)) sd_built3 ?_)
  | ((with_reducible refine qd_ ?_); refine Rg.qf_ rfl 22 _ _ rfl (bytesV (sdN 3)) _ 22 rfl rfl (by rw [HV.out]; kernel_rfl) (by rw [HV.out]; rfl) (qk_ _) ?_; intro X hX hbX; have HX := ϕ hX; have HBX := ϕ hbX; clear hX hbX))
 refine bodyPost_ret (v := .agg (bytesV (sdN 3)))
  (results_cell_row results10 _ _ w.heap.size 22 _ (0, 0) _ rfl HX.out underlying22 rfl (by rw [HV.out]; kernel_rfl)) rfl ?_
 exact ⟨rfl, HBX.out⟩
theorem seed_any (w : World) (n : Int) : Calls prog 10 #[.int .i64 n] w fun e w' => e = .returned (.agg (bytesV (sdN (i4 n)))) ∧ Below w.heap.size w w' := by
 rcases i4_cases n with h | h | h | h
 · rw [h]; exact seed_0 w n h
 · rw [h]; exact seed_1 w n h
 · rw [h]; exact seed_2 w n h
 · rw [h]; exact seed_3 w n h
theorem service_any (w : World) (s : ByteArray) :
 Calls prog 22 #[.string s] w fun e w' => ∃ g, e = .returned (.agg (askV 5 g 1)) ∧ w.heap.size ≤ g ∧ Rg.Blk w' g 9 #[.string s] ∧ Below w.heap.size w w' := by
 go_enter func22, ntmps22
 go_wp2_with fail
 refine bodyPost_ret (v := .agg (askV 5 (w.heap.size + 1) 1))
  (results_cell_row results22 _ _ w.heap.size 39 _ (0, 0) _ rfl ((Rg.Blk.new w (askV 5 (w.heap.size + 1) 1) 39).below ((Below.refl _ _).alloc (Nat.le_refl _) _) (Rg.Blk.new w (askV 5 (w.heap.size + 1) 1) 39).lt) underlying39 rfl (by kernel_rfl)) rfl ?_
 exact ⟨w.heap.size + 1, rfl, Nat.le_succ _, Rg.Blk.newAt (by show _ = (w.heap.push _).size; rw [Array.size_push]) _ _, ((Below.refl _ _).alloc (Nat.le_refl _) _).alloc (by show _ ≤ (w.heap.push _).size; rw [Array.size_push]; omega) _⟩
theorem MsgAt.srv {w : World} {g : Nat} {s : ByteArray} (h : Rg.Blk w g 9 #[.string s]) : IsMsg w ⟨5, [], [s], [], []⟩ (.slice none 0 0) (.slice (some ⟨g, 0, none⟩) 1 1) (.slice none 0 0) (.slice none 0 0) := ⟨SL.nil w, sl_blk (xs := [.string s]) h (Nat.le_of_ble_eq_true rfl), SLN.nil w, SL.nil w⟩
theorem fit_texts {k : Int} {xs : List ByteArray} (h : ∀ x ∈ xs, x.size ≤ 1000000) : Fit ⟨k, [], xs, [], []⟩ := ⟨fun x hx => by simp at hx, h, fun l hl => by simp at hl⟩
theorem k1_none : St.whoOf [(tL, kyN 0)] (kyN 1) = none := by
 unfold St.whoOf
 rw [List.find?_cons_of_neg (by simpa using ne01)]
 rfl
theorem k2_none : St.whoOf [(tL, kyN 0), (tL, kyN 1)] (kyN 2) = none := by
 unfold St.whoOf
 rw [List.find?_cons_of_neg (by simpa using ne02), List.find?_cons_of_neg (by simpa using ne12)]
 rfl
theorem upd_belowL {B : Nat} {w W W' : World} {s : List Nat} (hb : Below B w W) (hu : Sp.Upd W W' s) (hs : ∀ x ∈ s, B ≤ x) (hB : B ≤ W.heap.size) : Below B w W' := qt_ hb hu hs hB
theorem Keys_law (w : World) (hG : Sg w) : Calls prog 18 #[] w fun e w' => ∃ sb bo bw, e = .returned (.pointer (some ⟨sb, 0, none⟩)) ∧ St.IsSt w' sb bo bw 8 8 3 L0 ∧ Below w.heap.size w w' ∧ w.heap.size ≤ sb ∧ w.heap.size ≤ bo ∧ w.heap.size ≤ bw := by
 have HN := ϕ (show ∀ W, Calls prog 47 #[.int .i64 8, .int .i64 8] W fun e w' => ∃ sb bo bw, e = .returned (.pointer (some ⟨sb, 0, none⟩)) ∧ St.IsSt w' sb bo bw 8 8 0 [] ∧ Below W.heap.size W w' ∧ W.heap.size ≤ sb ∧ W.heap.size ≤ bo ∧ W.heap.size ≤ bw from fun W => St.New_any W 8 8)
 have HS0 := ϕ (fun W => seed_0 W 0 rfl)
 have HS1 := ϕ (fun W => seed_1 W 1 rfl)
 have HS2 := ϕ (fun W => seed_2 W 2 rfl)
 have HK0 := ϕ (show ∀ W, Below w.heap.size w W → Calls prog 9 #[.agg (bytesV (sdN 0))] W fun e w' => e = .returned (.agg (bytesV (kyN 0))) ∧ Below W.heap.size W w' from fun W hW => Key_any W (sdN 0) (sdN_len 0) (hG.below hW).t)
 have HK1 := ϕ (show ∀ W, Below w.heap.size w W → Calls prog 9 #[.agg (bytesV (sdN 1))] W fun e w' => e = .returned (.agg (bytesV (kyN 1))) ∧ Below W.heap.size W w' from fun W hW => Key_any W (sdN 1) (sdN_len 1) (hG.below hW).t)
 have HK2 := ϕ (show ∀ W, Below w.heap.size w W → Calls prog 9 #[.agg (bytesV (sdN 2))] W fun e w' => e = .returned (.agg (bytesV (kyN 2))) ∧ Below W.heap.size W w' from fun W hW => Key_any W (sdN 2) (sdN_len 2) (hG.below hW).t)
 have HA0 := ϕ (show ∀ W sb bo bw, St.IsSt W sb bo bw 8 8 0 [] → Calls prog 48 #[.pointer (some ⟨sb, 0, none⟩), .string ⟨#[116]⟩, .agg (bytesV (kyN 0))] W fun e w' => e = .returned .nilIface ∧ St.IsSt w' sb bo bw 8 8 1 [(tL, kyN 0)] ∧ Sp.Upd W w' [bo, bw] from fun W sb bo bw h => St.Add_ok_false W sb bo bw 8 8 0 [] h ⟨#[116]⟩ (by decide) (kyN 0) (kyN_len 0) (by decide) rfl rfl (by decide) (by decide) (by decide) (by decide))
 have HA1 := ϕ (show ∀ W sb bo bw, St.IsSt W sb bo bw 8 8 1 [(tL, kyN 0)] → Calls prog 48 #[.pointer (some ⟨sb, 0, none⟩), .string ⟨#[116]⟩, .agg (bytesV (kyN 1))] W fun e w' => e = .returned .nilIface ∧ St.IsSt w' sb bo bw 8 8 2 [(tL, kyN 0), (tL, kyN 1)] ∧ Sp.Upd W w' [bo, bw] from fun W sb bo bw h => St.Add_ok_true W sb bo bw 8 8 1 [(tL, kyN 0)] h ⟨#[116]⟩ (by decide) (kyN 1) (kyN_len 1) (by decide) k1_none rfl trivial (by decide) (by decide) (by decide))
 have HA2 := ϕ (show ∀ W sb bo bw, St.IsSt W sb bo bw 8 8 2 [(tL, kyN 0), (tL, kyN 1)] → Calls prog 48 #[.pointer (some ⟨sb, 0, none⟩), .string ⟨#[117]⟩, .agg (bytesV (kyN 2))] W fun e w' => e = .returned .nilIface ∧ St.IsSt w' sb bo bw 8 8 3 L0 ∧ Sp.Upd W w' [bo, bw] from fun W sb bo bw h => St.Add_ok_false W sb bo bw 8 8 2 [(tL, kyN 0), (tL, kyN 1)] h ⟨#[117]⟩ (by decide) (kyN 2) (kyN_len 2) (by decide) k2_none rfl (by decide) (by decide) (by decide) (by decide))
 clear hG
 have tk0 := trivial
 go_enter func18, ntmps18
 go_wp2_with (first
  | (go_at_call 47; refine (HN.out _).mono ?_; rintro e w1 ⟨sb, bo, bw, rfl, h1, hb1, hsb, hbo, hbw⟩; have H1 := ϕ h1; have HB := ϕ hb1; have HSB := ϕ hsb; have HBO := ϕ hbo; have HBW := ϕ hbw; clear h1 hb1 hsb hbo hbw)
  | (go_at_call 10; have _t := tk0; refine (HS0.out _).mono ?_; rintro e w2 ⟨rfl, hb1⟩; have H1 := ϕ (H1.out.below hb1); have HB := tm HB hb1; have tk1 := trivial; clear hb1 _t tk0)
  | (go_at_call 9; have _t := tk1; refine (HK0.out _ HB.out).mono ?_; rintro e w3 ⟨rfl, hb1⟩; have H1 := ϕ (H1.out.below hb1); have HB := tm HB hb1; have tk2 := trivial; clear hb1 _t tk1)
  | (go_at_call 48; have _t := tk2; refine (HA0.out _ _ _ _ H1.out).mono ?_; rintro e w4 ⟨rfl, h2, hu⟩; have H1 := ϕ h2; have HB := ϕ (upd_belowL HB.out hu (by intro x hx; simp at hx; rcases hx with rfl | rfl; exact HBO.out; exact HBW.out) HB.out.size); have tk3 := trivial; clear h2 hu _t tk2)
  | (go_at_call 10; have _t := tk3; refine (HS1.out _).mono ?_; rintro e w2 ⟨rfl, hb1⟩; have H1 := ϕ (H1.out.below hb1); have HB := tm HB hb1; have tk4 := trivial; clear hb1 _t tk3)
  | (go_at_call 9; have _t := tk4; refine (HK1.out _ HB.out).mono ?_; rintro e w3 ⟨rfl, hb1⟩; have H1 := ϕ (H1.out.below hb1); have HB := tm HB hb1; have tk5 := trivial; clear hb1 _t tk4)
  | (go_at_call 48; have _t := tk5; refine (HA1.out _ _ _ _ H1.out).mono ?_; rintro e w4 ⟨rfl, h2, hu⟩; have H1 := ϕ h2; have HB := ϕ (upd_belowL HB.out hu (by intro x hx; simp at hx; rcases hx with rfl | rfl; exact HBO.out; exact HBW.out) HB.out.size); have tk6 := trivial; clear h2 hu _t tk5)
  | (go_at_call 10; have _t := tk6; refine (HS2.out _).mono ?_; rintro e w2 ⟨rfl, hb1⟩; have H1 := ϕ (H1.out.below hb1); have HB := tm HB hb1; have tk7 := trivial; clear hb1 _t tk6)
  | (go_at_call 9; have _t := tk7; refine (HK2.out _ HB.out).mono ?_; rintro e w3 ⟨rfl, hb1⟩; have H1 := ϕ (H1.out.below hb1); have HB := tm HB hb1; have tk8 := trivial; clear hb1 _t tk7)
  | (go_at_call 48; have _t := tk8; refine (HA2.out _ _ _ _ H1.out).mono ?_; rintro e w4 ⟨rfl, h2, hu⟩; have H1 := ϕ h2; have HB := ϕ (upd_belowL HB.out hu (by intro x hx; simp at hx; rcases hx with rfl | rfl; exact HBO.out; exact HBW.out) HB.out.size); have tk9 := trivial; clear h2 hu _t tk8))
 go_ret
 exact ⟨sb, bo, bw, rfl, H1.out, HB.out, HSB.out, HBO.out, HBW.out⟩
theorem msg_one {w : World} {m : Msg} {vu vs vn vb : Value} (h : IsMsg w m vu vs vn vb) (k : Int) : (mC k vu vs vn vb).all (·.oneCell') = true := by
 obtain ⟨_, _, _, rfl, _⟩ := h.u
 obtain ⟨_, _, _, rfl, _⟩ := h.s
 obtain ⟨_, h3, _⟩ := h.n
 obtain ⟨_, _, _, rfl, _⟩ := h3
 obtain ⟨_, _, _, rfl, _⟩ := h.b
 simp [mC, Value.oneCell']
theorem MsgAt.ask {w : World} {g : Nat} {user c mt rest : ByteArray} (h : Rg.Blk w g 9 #[.string user, .string c, .string mt, .string rest]) : IsMsg w (askM user c mt rest) (.slice none 0 0) (.slice (some ⟨g, 0, none⟩) 4 4) (.slice none 0 0) (.slice none 0 0) := ⟨SL.nil w, sl_blk (xs := [.string user, .string c, .string mt, .string rest]) h (Nat.le_of_ble_eq_true rfl), SLN.nil w, SL.nil w⟩
def Got (w : World) (P : Nat → Prop) (b sb bo bw T K N : Nat) (L : List St.Pr) (id : List UInt8) (most : Nat) (a : Nat → Addr) (r : Nat × Msg × Sv) (e : Ending) (w' : World) : Prop :=
 ∃ vu vs vn vb, e = .returned (.tuple #[.agg (mC r.2.1.kind vu vs vn vb), Ei.evA a r.1]) ∧ (mC r.2.1.kind vu vs vn vb).all (·.oneCell') = true ∧ IsMsg w' r.2.1 vu vs vn vb ∧ IsSv w' P b sb bo bw T K N L id most r.2.2 ∧ Sp.Upd w w' [b]
theorem Did.got {w : World} {P : Nat → Prop} {b sb bo bw T K N : Nat} {L : List St.Pr} {id : List UInt8} {most : Nat} {a : Nat → Addr} {r : Nat × Msg × Sv} {e : Ending} {w' : World} (h : Did w P b sb bo bw T K N L id most a r e w') : Got w P b sb bo bw T K N L id most a r e w' := by
 obtain ⟨v, h1, ⟨vu, vs, vn, vb, rfl, h2⟩, h3, h4⟩ := h
 exact ⟨vu, vs, vn, vb, h1, msg_one h2 _, h2, h3, h4⟩
def Got0 (w : World) (P : Nat → Prop) (b sb bo bw T K N : Nat) (L : List St.Pr) (id : List UInt8) (most : Nat) (m : Msg) (st : Sv) (e : Ending) (w' : World) : Prop :=
 ∃ vu vs vn vb, e = .returned (.tuple #[.agg (mC m.kind vu vs vn vb), .nilIface]) ∧ (mC m.kind vu vs vn vb).all (·.oneCell') = true ∧ IsMsg w' m vu vs vn vb ∧ IsSv w' P b sb bo bw T K N L id most st ∧ Sp.Upd w w' [b]
theorem Got.zero {w : World} {P : Nat → Prop} {b sb bo bw T K N : Nat} {L : List St.Pr} {id : List UInt8} {most : Nat} {a : Nat → Addr} {m : Msg} {st : Sv} {e : Ending} {w' : World} (h : Got w P b sb bo bw T K N L id most a (0, m, st) e w') : Got0 w P b sb bo bw T K N L id most m st e w' := h
theorem Handle_req (w : World) (a : Nat → Addr) (hE : Ei.ErrsA w a) (hT : TabR w) (hG : Sg w) (P : Nat → Prop) (b sb bo bw T K N : Nat) (L : List St.Pr) (id : List UInt8) (most : Nat) (st : Sv) (h : IsSv w P b sb bo bw T K N L id most st) (hml : most ≤ 1000) (g i : Nat) (user : ByteArray) (hb : Rg.Blk w g 9 #[.string user, .string connB, .string methB, .string (reqR i id user.data.toList)]) (h1 : user.size ≤ 1000) (ht : st.ten = []) (ha : st.acc = true) (hn : st.tries < most) (hw : St.whoOf L (kyN i) = some user.data.toList) :
 Calls prog 23 #[.pointer (some ⟨b, 0, none⟩), .agg (askV 50 g 4)] w (Got0 w P b sb bo bw T K N L id most sucM { st with ten := user.data.toList, key := kyN i }) := by
 obtain ⟨k1, k2, k3, k4, k5⟩ := rd_req (s := reqR i id user.data.toList) (key := kyN i) (sig := sigN i id user.data.toList) rfl (kyN_len i) (sigN_len _ _ _)
 have hc : checkC (askM user connB methB (reqR i id user.data.toList)) = 0 := ask_ok (by omega) (by rw [conn_size]; decide) (by rw [meth_size]; decide) (by rw [reqR_size]; decide)
 have := ha_reqT w a hE hT hG P b sb bo bw T K N L id most st h 50 [] [user, connB, methB, reqR i id user.data.toList] [] [] _ _ _ _ (MsgAt.ask hb) (fit_texts (fun x hx => by simp at hx; have c1 := conn_size; have c2 := meth_size; have c3 := reqR_size i id user.data.toList; rcases hx with rfl | rfl | rfl | rfl <;> omega)) rfl hc user connB methB (reqR i id user.data.toList) rfl ht ha hn hml k1 k2 _ (by rw [k4]; exact hw) rfl rfl rfl (by rw [k4, k5]; exact verL_own _ _ _) h1
 rw [k4] at this
 exact this.mono fun e w' h => h.got.zero
theorem Service_auth (w : World) (a : Nat → Addr) (hE : Ei.ErrsA w a) (hT : TabR w) (P : Nat → Prop) (b sb bo bw T K N : Nat) (L : List St.Pr) (id : List UInt8) (most : Nat) (st : Sv) (h : IsSv w P b sb bo bw T K N L id most st) (g : Nat) (hb : Rg.Blk w g 9 #[.string authB]) :
 Calls prog 21 #[.pointer (some ⟨b, 0, none⟩), .agg (askV 5 g 1)] w (Got0 w P b sb bo bw T K N L id most (accM authB) { st with acc := true }) :=
 (sv_auth w a hE hT P b sb bo bw T K N L id most st h 5 [] [authB] [] [] _ _ _ _ (MsgAt.srv hb) (fit_texts (fun x hx => by simp at hx; rw [hx, auth_size]; decide)) rfl (srv_ok (by rw [auth_size]; decide)) authB rfl rfl).mono fun e w' h => h.got.zero
theorem eqg : prog.eqGuardType prog.depth 22 = false := by kernel_rfl
theorem run_eql32 {o : Oper} {a : Act} {W : World} (x y : Operand) (ty : TypeId) (ho : o.op = .binOp .eql 22 x y ty) (l m : List UInt8) (hx : a.eval x = .agg (bytesV l)) (hy : a.eval y = .agg (bytesV m)) (hl : l.length = 32) (hm : m.length = 32) : (execOp a.eval o).run prog W = .ok (.value (.bool (l == m))) W := by
 have h1 := run_eql_bytes (P := prog) W 22 5 32 underlying22 underlying5 Wi.infoU8 l m hl hm
 have h2 := run_eqGuard_agg (P := prog) (w := W) .eql 22 x y (bytesV l) (bytesV m) eqg
 unfold execOp
 simp only [ho, hx, hy, Sem.run_bind, Sem.run_pure, Sem.run_map, h2, Result.andThen_ok, h1]
def idle : Sv := ⟨false, 0, [], zB 32⟩
def open0 : Sv := ⟨true, 0, [], zB 32⟩
theorem Request_law (w : World) (id : List UInt8) (i : Nat) (user : ByteArray) (hi : id.length = 32) (hu : user.size ≤ 1000) (hG : Sg w) :
 Calls prog 17 #[.agg (bytesV id), .agg (bytesV (sdN i)), .string user] w fun e w' => ∃ g, e = .returned (.agg (askV 50 g 4)) ∧ w.heap.size ≤ g ∧ Rg.Blk w' g 9 #[.string user, .string connB, .string methB, .string (reqR i id user.data.toList)] ∧ Below w.heap.size w w' := Request_any w id (sdN i) user hi (sdN_len i) hu hG
theorem L0_tens : (St.tens L0).length = 2 := rfl
theorem awake17 (w : World) (a : Nat → Addr) (hE : Ei.ErrsA w a) (hT : TabR w) (hG : Sg w) : Calls prog 7 #[] w fun e w' => e = .returned (.bool true) ∧ Below w.heap.size w w' := by
 have HKY := ϕ (fun W (hW : Below w.heap.size w W) => Keys_law W (hG.below hW))
 have HTN := ϕ (show ∀ W sb bo bw, St.IsSt W sb bo bw 8 8 3 L0 → Calls prog 32 #[.pointer (some ⟨sb, 0, none⟩)] W fun e w' => ∃ A c, e = .returned (.slice A 2 c) ∧ Below W.heap.size W w' from fun W sb bo bw h => by
  refine (St.Tenants_any W sb bo bw 8 8 3 L0 h (by rw [L0_tens]; decide)).mono ?_
  rintro e w' ⟨v, rfl, ho, hb⟩
  obtain ⟨A, c, rfl, _⟩ := ho.form
  rw [List.length_map, St.namesL_length, L0_tens]
  exact ⟨A, c, rfl, hb⟩)
 have HNW := ϕ (show ∀ W sb bo bw, St.IsSt W sb bo bw 8 8 3 L0 → Calls prog 20 #[.pointer (some ⟨sb, 0, none⟩), .agg (bytesV Ed.s1), .int .i64 3] W fun e w' => ∃ b, e = .returned (.pointer (some ⟨b, 0, none⟩)) ∧ W.heap.size ≤ b ∧ IsSv w' (fun k => W.heap.size ≤ k) b sb bo bw 8 8 3 L0 Ed.s1 3 idle ∧ Below W.heap.size W w' from fun W sb bo bw h => New_sv W sb bo bw 8 8 3 L0 h Ed.s1 3 s1_len)
 have HSR := ϕ (show ∀ W, Calls prog 22 #[.string ⟨#[115, 115, 104, 45, 117, 115, 101, 114, 97, 117, 116, 104]⟩] W fun e w' => ∃ g, e = .returned (.agg (askV 5 g 1)) ∧ W.heap.size ≤ g ∧ Rg.Blk w' g 9 #[.string authB] ∧ Below W.heap.size W w' from fun W => by
  have := service_any W ⟨#[115, 115, 104, 45, 117, 115, 101, 114, 97, 117, 116, 104]⟩
  rw [auth_eq] at this ⊢
  exact this)
 have HSC := ϕ (show ∀ W P b sb bo bw g, Below w.heap.size w W → IsSv W P b sb bo bw 8 8 3 L0 Ed.s1 3 idle → Rg.Blk W g 9 #[.string authB] → Calls prog 21 #[.pointer (some ⟨b, 0, none⟩), .agg (askV 5 g 1)] W (Got0 W P b sb bo bw 8 8 3 L0 Ed.s1 3 (accM authB) open0) from fun W P b sb bo bw g hW h hg => Service_auth W a (hE.below hW) (hT.below hW) P b sb bo bw 8 8 3 L0 Ed.s1 3 idle h g hg)
 have HSD := ϕ (fun W => seed_2 W 2 rfl)
 have HRQ := ϕ (show ∀ W, Below w.heap.size w W → Calls prog 17 #[.agg (bytesV Ed.s1), .agg (bytesV (sdN 2)), .string ⟨#[117]⟩] W fun e w' => ∃ g, e = .returned (.agg (askV 50 g 4)) ∧ W.heap.size ≤ g ∧ Rg.Blk w' g 9 #[.string ⟨#[117]⟩, .string connB, .string methB, .string (reqR 2 Ed.s1 uL)] ∧ Below W.heap.size W w' from fun W hW => Request_law W Ed.s1 2 ⟨#[117]⟩ s1_len (by decide) (hG.below hW))
 have HHA := ϕ (show ∀ W P b sb bo bw g, Below w.heap.size w W → IsSv W P b sb bo bw 8 8 3 L0 Ed.s1 3 open0 → Rg.Blk W g 9 #[.string ⟨#[117]⟩, .string connB, .string methB, .string (reqR 2 Ed.s1 uL)] → Calls prog 23 #[.pointer (some ⟨b, 0, none⟩), .agg (askV 50 g 4)] W (Got0 W P b sb bo bw 8 8 3 L0 Ed.s1 3 sucM { open0 with ten := uL, key := kyN 2 }) from fun W P b sb bo bw g hW h hg => Handle_req W a (hE.below hW) (hT.below hW) (hG.below hW) P b sb bo bw 8 8 3 L0 Ed.s1 3 open0 h (by decide) g 2 ⟨#[117]⟩ hg (by decide) rfl rfl (by decide) who2)
 have HIN := ϕ (show ∀ W P b sb bo bw, IsSv W P b sb bo bw 8 8 3 L0 Ed.s1 3 { open0 with ten := uL, key := kyN 2 } → Calls prog 26 #[.pointer (some ⟨b, 0, none⟩)] W fun e w' => e = .returned (.tuple #[.string ⟨#[117]⟩, .agg (bytesV (kyN 2)), .bool true]) ∧ Below W.heap.size W w' from fun W P b sb bo bw h => by
  obtain ⟨cs, h1, h2⟩ := h.blk
  exact In_any W b cs h1 sb Ed.s1 3 _ h2)
 have HKE := ϕ (show ∀ W, Below w.heap.size w W → Calls prog 9 #[.agg (bytesV (sdN 2))] W fun e w' => e = .returned (.agg (bytesV (kyN 2))) ∧ Below W.heap.size W w' from fun W hW => Key_any W (sdN 2) (sdN_len 2) (hG.below hW).t)
 have HVK := ϕ (show (bytesV (kyN 2)).size = 32 by rw [qa_, kyN_len])
 have HVL := ϕ (kyN_len 2)
 have HB := ϕ (Below.refl w.heap.size w)
 have HB1 := ϕ (show prog.built 22 [(0, .int .u8 1)] = some (bytesV Ed.s1) by kernel_rfl)
 clear hE hT hG
 generalize reqR 2 Ed.s1 uL = rq at *
 generalize kyN 2 = k2 at *
 generalize sdN 2 = s2 at *
 go_enter func7, ntmps7
 go_upto_region 2 with (go_at_call 18; refine (HKY.out _ HB.out).mono ?_; rintro e w1 ⟨sb, bo, bw, rfl, h1, hb1, _, _, _⟩; have HST := ϕ h1; have HB := tm HB hb1; clear h1 hb1)
 go_upto_region 4 with (go_at_call 32; refine (HTN.out _ _ _ _ HST.out).mono ?_; rintro e w2 ⟨A, c, rfl, hb1⟩; have HST := ϕ (HST.out.below hb1); have HB := tm HB hb1; clear hb1)
 go_upto_region 5 with (first
  | ((with_reducible refine qd_ ?_); refine jk_ rfl 22 _ rfl #[(0, .int .u8 1)] (by go_simp; try rfl) (bytesV Ed.s1) HB1.out ?_)
  | (go_at_call 20; refine (HNW.out _ _ _ _ HST.out).mono ?_; rintro e w3 ⟨b, rfl, hbw, hs, hb1⟩; have HWB := ϕ (Nat.le_trans HB.out.size hbw); have HS := ϕ hs; have HB := tm HB hb1; clear hs hb1 hbw))
 go_upto_region 8 with (first
  | (go_at_call 22; refine (HSR.out _).mono ?_; rintro e w4 ⟨gs, rfl, _, hg, hb1⟩; have HGS := ϕ hg; have HS := ϕ (HS.out.below hb1); have HB := tm HB hb1; clear hg hb1)
  | (go_at_call 21; refine (HSC.out _ _ _ _ _ _ _ HB.out HS.out HGS.out).mono ?_; rintro e w5 ⟨vu, vs, vn, vb, rfl, ho, hm, hs, hu⟩; have HO3 := ϕ ho; have HS := ϕ hs; have HS5 := ϕ hs; have HB := ϕ (qt_ HB.out hu (fun k hk => by simp at hk; rw [hk]; exact HWB.out) HB.out.size); clear ho hm hs hu)
  | (refine Rg.qf_ rfl 39 _ _ rfl (mC 6 vu vs vn vb) _ 39 rfl rfl (by kernel_rfl) rfl HO3.out ?_; intro w6 hX hb1; have H3 := ϕ hX; have HS := ϕ (HS.out.below hb1); have HB := tm HB hb1; clear hX hb1))
 obtain ⟨b3, hb3⟩ : ∃ n, w5.heap.size = n := exr
 have H3 := ϕ (show Rg.Blk w6 b3 39 (mC 6 vu vs vn vb) from hb3 ▸ H3.out)
 have H3B := ϕ (show ¬ b3 = b from fun e => by obtain ⟨cs, h1, _⟩ := HS5.out.blk; have := h1.lt; omega)
 try rw [hb3]
 clear hb3 HS5
 go_upto_region 9 with (first
  | ((with_reducible refine qd_ ?_); refine jk_ rfl 22 _ rfl #[(0, .int .u8 1)] (by go_simp; try rfl) (bytesV Ed.s1) HB1.out ?_)
  | (go_at_call 10; refine (HSD.out _).mono ?_; rintro e w7 ⟨rfl, hb1⟩; have HS := ϕ (HS.out.below hb1); have HB := tm HB hb1; have H3 := ϕ (H3.out.below hb1 H3.out.lt); clear hb1)
  | (go_at_call 17; refine (HRQ.out _ HB.out).mono ?_; rintro e w8 ⟨gr, rfl, _, hg, hb1⟩; have HGR := ϕ hg; have HS := ϕ (HS.out.below hb1); have HB := tm HB hb1; have H3 := ϕ (H3.out.below hb1 H3.out.lt); clear hg hb1)
  | (go_at_call 23; refine (HHA.out _ _ _ _ _ _ _ HB.out HS.out HGR.out).mono ?_; rintro e w9 ⟨xu, xs, xn, xb, rfl, ho, hm, hs, hu⟩; have HO5 := ϕ ho; have HS := ϕ hs; have HB3 := ϕ (qm_ hu H3.out (by have := H3B.out; simpa using this)); have HB := ϕ (qt_ HB.out hu (fun k hk => by simp at hk; rw [hk]; exact HWB.out) HB.out.size); clear ho hm hs hu)
  | (refine Rg.qf_ rfl 39 _ _ rfl (mC 52 xu xs xn xb) _ 39 rfl rfl (by kernel_rfl) rfl HO5.out ?_; intro w10 hX hb1; have H5 := ϕ hX; have H3 := ϕ (HB3.out.below hb1 HB3.out.lt); have HS := ϕ (HS.out.below hb1); have HB := tm HB hb1; clear hX hb1))
 obtain ⟨b5, hb5⟩ : ∃ n, w9.heap.size = n := exr
 have H5 := ϕ (show Rg.Blk w10 b5 39 (mC 52 xu xs xn xb) from hb5 ▸ H5.out)
 try rw [hb5]
 clear hb5
 go_upto_region 10 with (first
  | (go_at_call 26; refine (HIN.out _ _ _ _ _ _ HS.out).mono ?_; rintro e w11 ⟨rfl, hb1⟩; have HB := tm HB hb1; have H3 := ϕ (H3.out.below hb1 H3.out.lt); have H5 := ϕ (H5.out.below hb1 H5.out.lt); clear hb1)
  | (refine Rg.qf_ rfl 22 _ _ rfl (bytesV k2) _ 22 rfl rfl (by rw [HVK.out]; kernel_rfl) (by rw [HVK.out]; rfl) (qk_ _) ?_; intro w12 hX hb1; have H8 := ϕ hX; have HB := tm HB hb1; have H3 := ϕ (H3.out.below hb1 H3.out.lt); have H5 := ϕ (H5.out.below hb1 H5.out.lt); clear hX hb1))
 obtain ⟨b8, hb8⟩ : ∃ n, w11.heap.size = n := exr
 have H8 := ϕ (show Rg.Blk w12 b8 22 (bytesV k2) from hb8 ▸ H8.out)
 try rw [hb8]
 clear hb8
 refine RL.start (RL.Aft w12) (by kernel_rfl) (RL.Aft.drew (RL.Aft.refl w12)) ?_
 refine RL.tu 0 ?_; go_frame
 refine RL.tu 1 ?_; go_frame
 refine RL.tu 2 ?_; go_frame
 refine RL.tu 3 ?_; go_frame
 refine RL.tu 4 ?_; go_frame
 refine RL.tu 5 ?_; go_frame
 refine RL.tu 6 ?_; go_frame
 refine RL.tu 7 ?_; go_frame
 refine' RL.tv 8 ?hk9 ?_
 case hk9 => (intro W hSW; have c1 := (qc_ hSW H3.out).cell 0 (v := .int .i64 6) rfl; go_simp; try with_reducible rfl)
 try go_frame
 refine RL.tu 9 ?_; go_frame
 refine RL.tu 10 ?_; go_frame
 refine RL.tu 11 ?_; go_frame
 refine RL.tu 12 ?_; go_frame
 refine' RL.tv 13 ?hk14 ?_
 case hk14 => (intro W hSW; have c1 := (qc_ hSW H5.out).cell 0 (v := .int .i64 52) rfl; go_simp; try with_reducible rfl)
 try go_frame
 refine RL.tu 14 ?_; go_frame
 refine RL.tu 15 ?_; go_frame
 refine RL.tu 16 ?_; go_frame
 refine RL.tu 17 ?_; go_frame
 refine RL.tu 18 ?_; go_frame
 refine RL.tu 19 ?_; go_frame
 refine RL.tu 20 ?_; go_frame
 refine RL.tw 21 (v := .agg (bytesV k2)) rfl (fun W hSW => RT.qx_ 22 _ rfl _ rfl _ _ (qc_ hSW H8.out) underlying22 rfl (by rw [HVK.out]; kernel_rfl)) ?_
 try go_frame
 refine' RL.td 22 (v := (.agg (bytesV s2))) 10 #[.int .i64 2] ?hc22 ?_
 case hc22 => (intro W hSW; exact (HSD.out W).mono (fun e w9 h9 => ⟨h9.1, h9.2, RL.Aft.lat hSW h9.2⟩))
 try go_frame
 refine' RL.td 23 (v := (.agg (bytesV k2))) 9 #[.agg (bytesV s2)] ?hc23 ?_
 case hc23 => (intro W hSW; exact (HKE.out W (HB.out.trans (Below.mono hSW HB.out.size))).mono (fun e w9 h9 => ⟨h9.1, h9.2, RL.Aft.lat hSW h9.2⟩))
 try go_frame
 refine RL.tw 24 (v := .bool true) rfl (fun W hSW => (run_eql32 _ _ _ rfl k2 k2 rfl rfl HVL.out HVL.out).trans (by rw [beq_self_eq_true])) ?_
 try go_frame
 refine RL.tu 25 ?_; go_frame
 refine RL.tu 26 ?_; go_frame
 refine RL.tu 27 ?_; go_frame
 refine RL.tu 28 ?_; go_frame
 refine RL.tu 29 ?_; go_frame
 refine RL.done (by kernel_rfl) (fun V hlV hsV => ?_)
 have HB := ϕ (HB.out.trans (Below.mono (show RL.Aft w12 V from hsV) HB.out.size))
 clear hlV hsV
 go_wp2_with fail
 go_ret
 exact ⟨rfl, HB.out⟩
end Go.Proofs.YtciibogkfbicfaaGreatDoor.Au
namespace Go.Proofs.YtciibogkfbicfaaGreatDoor.Mg
open Go.RowKit Go.Proofs.YtciibogkfbicfaaGreatDoor.Wi Go.Proofs.YtciibogkfbicfaaGreatDoor.Ow Go.Proofs.YtciibogkfbicfaaGreatDoor.Be
theorem belowN {B : Nat} {w w' : World} (h : Below B w w') (n : Nat) : Below B w (w'.drewN n) := ⟨h.os, h.tape, h.output, h.size, h.block⟩
theorem Same_true (w : World) (m : Msg) (vu vs vn vb xu xs xn xb : Value) (hm : IsMsg w m vu vs vn vb) (hx : IsMsg w m xu xs xn xb) :
 Calls prog 15 #[.agg (mC m.kind vu vs vn vb), .agg (mC m.kind xu xs xn xb)] w fun e w' => e = .returned (.bool true) ∧ Below w.heap.size w w' := by
 obtain ⟨kind, us, ss, ns, bs⟩ := m
 obtain ⟨au, nu, cu, rfl, hlu, hRu, hu1, hu2⟩ := hm.u
 obtain ⟨aS, nS, cS, rfl, hlS, hRS, hs1, hs2⟩ := hm.s
 obtain ⟨vns, ⟨an, nn, cn, rfl, hln, hRn, hn1, hn2⟩, hvl, hvn⟩ := hm.n
 obtain ⟨ab, nb, cb, rfl, hlb, hRb, hb1, hb2⟩ := hm.b
 obtain ⟨du, mu, eu, rfl, klu, kRu, ku1, ku2⟩ := hx.u
 obtain ⟨dS, mS, eS, rfl, klS, kRS, ks1, ks2⟩ := hx.s
 obtain ⟨xns, ⟨dn, mn, en, rfl, kln, kRn, kn1, kn2⟩, kvl, kvn⟩ := hx.n
 obtain ⟨db, mb, eb, rfl, klb, kRb, kb1, kb2⟩ := hx.b
 obtain rfl : mu = nu := klu.symm.trans hlu
 obtain rfl : mS = nS := klS.symm.trans hlS
 obtain rfl : mb = nb := klb.symm.trans hlb
 simp only at hvl kvl hvn kvn
 obtain rfl : mn = nn := by omega
 rw [List.length_map] at hlu hlS hlb
 have HLU := ϕ hlu
 have HLS := ϕ hlS
 have HLB := ϕ hlb
 have HLV := ϕ hln
 have HLX := ϕ kln
 have HLN := ϕ (show ns.length = mn by omega)
 have HRu := ϕ hRu
 have HRS := ϕ hRS
 have HRn := ϕ hRn
 have HRb := ϕ hRb
 have KRu := ϕ kRu
 have KRS := ϕ kRS
 have KRn := ϕ kRn
 have KRb := ϕ kRb
 have HVN := ϕ hvn
 have KVN := ϕ kvn
 unfold maxLen at hu2 hs2 hn2 hb2
 have gu : mu ≤ 9223372036854775807 := by omega
 have gS : mS ≤ 9223372036854775807 := by omega
 have gn : mn ≤ 9223372036854775807 := by omega
 have gb : mb ≤ 9223372036854775807 := by omega
 clear hm hx hlu hlS hlb hln hvl klu klS klb kln kvl hRu hRS hRn hRb kRu kRS kRn kRb hvn kvn hu1 hu2 hs1 hs2 hn1 hn2 hb1 hb2 ku1 ku2 ks1 ks2 kn1 kn2 kb1 kb2
 unfold mC
 have hX1 : Rg.Blk ((w.alloc (.cells #[.int .i64 kind, .slice au mu cu, .slice aS mS cS, .slice an mn cn, .slice ab mb cb] 39)).alloc (.cells #[.int .i64 kind, .slice du mu eu, .slice dS mS eS, .slice dn mn en, .slice db mb eb] 36)) w.heap.size 39 #[.int .i64 kind, .slice au mu cu, .slice aS mS cS, .slice an mn cn, .slice ab mb cb] := (Rg.Blk.new w _ _).alloc _
 have hX2 : Rg.Blk ((w.alloc (.cells #[.int .i64 kind, .slice au mu cu, .slice aS mS cS, .slice an mn cn, .slice ab mb cb] 39)).alloc (.cells #[.int .i64 kind, .slice du mu eu, .slice dS mS eS, .slice dn mn en, .slice db mb eb] 36)) (w.heap.size + 1) 36 #[.int .i64 kind, .slice du mu eu, .slice dS mS eS, .slice dn mn en, .slice db mb eb] := Rg.Blk.newAt (by simp) _ _
 have hXW : Below w.heap.size w ((w.alloc (.cells #[.int .i64 kind, .slice au mu cu, .slice aS mS cS, .slice an mn cn, .slice ab mb cb] 39)).alloc (.cells #[.int .i64 kind, .slice du mu eu, .slice dS mS eS, .slice dn mn en, .slice db mb eb] 36)) := ((Below.refl _ _).alloc (Nat.le_refl _) _).alloc (by simp) _
 go_enter func15, ntmps15
 go_wp2_with fail
 generalize ((w.alloc (.cells #[.int .i64 kind, .slice au mu cu, .slice aS mS cS, .slice an mn cn, .slice ab mb cb] 39)).alloc (.cells #[.int .i64 kind, .slice du mu eu, .slice dS mS eS, .slice dn mn en, .slice db mb eb] 36)) = X at *
 have HX1 := ϕ hX1
 have HX2 := ϕ hX2
 have HXW := ϕ hXW
 clear hX1 hX2 hXW
 go_loopw [55] (fun i wr => ∃ k : Nat, k ≤ mu ∧ i = .int .i64 k ∧ Below X.heap.size X wr) (fun i _ => mu - (intOf i).toNat)
 case atStart => exact ⟨0, Nat.zero_le _, rfl, Below.refl _ _⟩
 case round =>
  obtain ⟨k, hk, rfl, hb⟩ := hrel
  have HBU := ϕ hb
  have p1 := (HX1.out.below hb HX1.out.lt).cell 1 (v := .slice au mu cu) rfl
  have p2 := (HX2.out.below hb HX2.out.lt).cell 1 (v := .slice du mu eu) rfl
  clear hb
  by_cases hkn : k < mu
  · have hd : decide (k < mu) = true := by simp; exact hkn
    have hik : (k : Int) < mu := by omega
    have hik0 : (0 : Int) ≤ k := by omega
    obtain ⟨b1, o1, rfl, hl1, hc1⟩ := HRu.out.at_ (j := k) (by rw [List.length_map, HLU.out]; exact hkn)
    obtain ⟨b2, o2, rfl, hl2, hc2⟩ := KRu.out.at_ (j := k) (by rw [List.length_map, HLU.out]; exact hkn)
    rw [List.getElem_map] at hc1 hc2
    generalize us[k]'(by rw [HLU.out]; exact hkn) = x at *
    have y1 := ((HXW.out.trans (HBU.out.mono HXW.out.size)).cell (p := ⟨b1, o1 + k, none⟩) hl1).trans hc1
    have y2 := ((HXW.out.trans (HBU.out.mono HXW.out.size)).cell (p := ⟨b2, o2 + k, none⟩) hl2).trans hc2
    clear hl1 hl2 hc1 hc2
    go_wp2_with fail
    go_quiet (fail)
    go_wp2_with fail
    go_roundw
    case rel =>
     first
      | exact ⟨k + 1, by omega, by go_num, belowN HBU.out _⟩
      | ((repeat apply Exists.intro); refine ⟨?_, rfl⟩; exact ⟨k + 1, by omega, by go_num, belowN HBU.out _⟩)
    case measure => simp [intOf]; omega
  · obtain rfl : k = mu := by omega
    have hd : decide (k < k) = false := by simp
    have n1 := (HX2.out.below HBU.out HX2.out.lt).cell 2 (v := .slice dS mS eS) rfl
    go_wp2_with fail
    clear n1 p1 p2 hd
    go_loopw [73] (fun i wr => ∃ k : Nat, k ≤ mS ∧ i = .int .i64 k ∧ Below X.heap.size X wr) (fun i _ => mS - (intOf i).toNat)
    case atStart => exact ⟨0, Nat.zero_le _, rfl, HBU.out⟩
    case round =>
     obtain ⟨k, hk, rfl, hb⟩ := hrel
     have HBS := ϕ hb
     have p1 := (HX1.out.below hb HX1.out.lt).cell 2 (v := .slice aS mS cS) rfl
     have p2 := (HX2.out.below hb HX2.out.lt).cell 2 (v := .slice dS mS eS) rfl
     clear hb
     by_cases hkn : k < mS
     · have hd : decide (k < mS) = true := by simp; exact hkn
       have hik : (k : Int) < mS := by omega
       have hik0 : (0 : Int) ≤ k := by omega
       obtain ⟨b1, o1, rfl, hl1, hc1⟩ := HRS.out.at_ (j := k) (by rw [List.length_map, HLS.out]; exact hkn)
       obtain ⟨b2, o2, rfl, hl2, hc2⟩ := KRS.out.at_ (j := k) (by rw [List.length_map, HLS.out]; exact hkn)
       rw [List.getElem_map] at hc1 hc2
       generalize ss[k]'(by rw [HLS.out]; exact hkn) = x at *
       have y1 := ((HXW.out.trans (HBS.out.mono HXW.out.size)).cell (p := ⟨b1, o1 + k, none⟩) hl1).trans hc1
       have y2 := ((HXW.out.trans (HBS.out.mono HXW.out.size)).cell (p := ⟨b2, o2 + k, none⟩) hl2).trans hc2
       clear hl1 hl2 hc1 hc2
       go_wp2_with fail
       go_quiet (fail)
       go_wp2_with fail
       go_roundw
       case rel =>
        first
         | exact ⟨k + 1, by omega, by go_num, belowN HBS.out _⟩
         | ((repeat apply Exists.intro); refine ⟨?_, rfl⟩; exact ⟨k + 1, by omega, by go_num, belowN HBS.out _⟩)
       case measure => simp [intOf]; omega
     · obtain rfl : k = mS := by omega
       have hd : decide (k < k) = false := by simp
       have n1 := (HX2.out.below HBS.out HX2.out.lt).cell 4 (v := .slice db mb eb) rfl
       go_wp2_with fail
       clear n1 p1 p2 hd
       go_loopw [91] (fun i wr => ∃ k : Nat, k ≤ mb ∧ i = .int .i64 k ∧ Below X.heap.size X wr) (fun i _ => mb - (intOf i).toNat)
       case atStart => exact ⟨0, Nat.zero_le _, rfl, HBS.out⟩
       case round =>
        obtain ⟨k, hk, rfl, hb⟩ := hrel
        have HBB := ϕ hb
        have p1 := (HX1.out.below hb HX1.out.lt).cell 4 (v := .slice ab mb cb) rfl
        have p2 := (HX2.out.below hb HX2.out.lt).cell 4 (v := .slice db mb eb) rfl
        clear hb
        by_cases hkn : k < mb
        · have hd : decide (k < mb) = true := by simp; exact hkn
          have hik : (k : Int) < mb := by omega
          have hik0 : (0 : Int) ≤ k := by omega
          obtain ⟨b1, o1, rfl, hl1, hc1⟩ := HRb.out.at_ (j := k) (by rw [List.length_map, HLB.out]; exact hkn)
          obtain ⟨b2, o2, rfl, hl2, hc2⟩ := KRb.out.at_ (j := k) (by rw [List.length_map, HLB.out]; exact hkn)
          rw [List.getElem_map] at hc1 hc2
          generalize bs[k]'(by rw [HLB.out]; exact hkn) = x at *
          have y1 := ((HXW.out.trans (HBB.out.mono HXW.out.size)).cell (p := ⟨b1, o1 + k, none⟩) hl1).trans hc1
          have y2 := ((HXW.out.trans (HBB.out.mono HXW.out.size)).cell (p := ⟨b2, o2 + k, none⟩) hl2).trans hc2
          clear hl1 hl2 hc1 hc2
          go_wp2_with fail
          go_quiet (fail)
          go_wp2_with fail
          go_roundw
          case rel =>
           first
            | exact ⟨k + 1, by omega, by go_num, belowN HBB.out _⟩
            | ((repeat apply Exists.intro); refine ⟨?_, rfl⟩; exact ⟨k + 1, by omega, by go_num, belowN HBB.out _⟩)
          case measure => simp [intOf]; omega
        · obtain rfl : k = mb := by omega
          have hd : decide (k < k) = false := by simp
          have n1 := (HX2.out.below HBB.out HX2.out.lt).cell 3 (v := .slice dn mn en) rfl
          go_wp2_with fail
          clear n1 p1 p2 hd
          go_loopw [109] (fun i wr => ∃ k : Nat, k ≤ mn ∧ i = .int .i64 k ∧ Below X.heap.size X wr) (fun i _ => mn - (intOf i).toNat)
          case atStart => exact ⟨0, Nat.zero_le _, rfl, HBB.out⟩
          case round =>
           obtain ⟨k, hk, rfl, hb⟩ := hrel
           have HBN := ϕ hb
           have p1 := (HX1.out.below hb HX1.out.lt).cell 3 (v := .slice an mn cn) rfl
           clear hb
           by_cases hkn : k < mn
           · have hd : decide (k < mn) = true := by simp; exact hkn
             have hik : (k : Int) < mn := by omega
             have hik0 : (0 : Int) ≤ k := by omega
             have hx : ns[k]? = some (ns[k]'(by rw [HLN.out]; exact hkn)) := List.getElem?_eq_getElem _
             generalize ns[k]'(by rw [HLN.out]; exact hkn) = x at *
             obtain ⟨u1, hu1, xa, xn, xc, rfl, hxn, hRX, hxc, hxm⟩ := HVN.out k x hx
             obtain ⟨u2, hu2, ya, yn, yc, rfl, hyn, hRY, hyc, hym⟩ := KVN.out k x hx
             obtain rfl : yn = xn := hyn.symm.trans hxn
             rw [List.length_map] at hxn
             obtain ⟨b1, o1, rfl, hl1, hc1⟩ := HRn.out.at_ (j := k) (by rw [HLV.out]; exact hkn)
             obtain ⟨b2, o2, rfl, hl2, hc2⟩ := KRn.out.at_ (j := k) (by rw [HLX.out]; exact hkn)
             rw [(List.getElem?_eq_some_iff.1 hu1).2] at hc1
             rw [(List.getElem?_eq_some_iff.1 hu2).2] at hc2
             have y1 := ((HXW.out.trans (HBN.out.mono HXW.out.size)).cell (p := ⟨b1, o1 + k, none⟩) hl1).trans hc1
             have y2 := ((HXW.out.trans (HBN.out.mono HXW.out.size)).cell (p := ⟨b2, o2 + k, none⟩) hl2).trans hc2
             have Y1 := ϕ hc1
             have HL1 := ϕ hl1
             have HXN := ϕ hxn
             have HRX := ϕ hRX
             have HRY := ϕ hRY
             unfold maxLen at hxm
             have gx : yn ≤ 9223372036854775807 := by omega
             clear hx hu1 hu2 hxn hyn hRX hRY hxc hxm hyc hym hl1 hl2 hc1 hc2
             go_wp2_with fail
             clear y1 y2 p1
             go_loopw [125] (fun i w2 => ∃ q : Nat, q ≤ yn ∧ i = .int .i64 q ∧ Below X.heap.size X w2) (fun i _ => yn - (intOf i).toNat)
             case atStart => exact ⟨0, Nat.zero_le _, rfl, HBN.out⟩
             case round =>
              obtain ⟨q, hq, rfl, hb⟩ := hrel
              have HBQ := ϕ hb
              have HWQ := ϕ (HXW.out.trans (hb.mono HXW.out.size))
              have p1 := (HX1.out.below hb HX1.out.lt).cell 3 (v := .slice (some ⟨b1, o1, none⟩) mn cn) rfl
              have z1 := (HWQ.out.cell (p := ⟨b1, o1 + k, none⟩) HL1.out).trans Y1.out
              clear hb
              by_cases hqn : q < yn
              · have hd2 : decide (q < yn) = true := by simp; exact hqn
                have hiq : (q : Int) < yn := by omega
                have hiq0 : (0 : Int) ≤ q := by omega
                obtain ⟨b3, o3, rfl, hl3, hc3⟩ := HRX.out.at_ (j := q) (by rw [List.length_map, HXN.out]; exact hqn)
                obtain ⟨b4, o4, rfl, hl4, hc4⟩ := HRY.out.at_ (j := q) (by rw [List.length_map, HXN.out]; exact hqn)
                rw [List.getElem_map] at hc3 hc4
                generalize x[q]'(by rw [HXN.out]; exact hqn) = y at *
                have z3 := (HWQ.out.cell (p := ⟨b3, o3 + q, none⟩) hl3).trans hc3
                have z4 := (HWQ.out.cell (p := ⟨b4, o4 + q, none⟩) hl4).trans hc4
                clear hl3 hl4 hc3 hc4
                go_wp2_with fail
                go_quiet (fail)
                go_wp2_with fail
                go_roundw
                case rel =>
                 first
                  | exact ⟨q + 1, by omega, by go_num, belowN HBQ.out _⟩
                  | ((repeat apply Exists.intro); refine ⟨?_, rfl⟩; exact ⟨q + 1, by omega, by go_num, belowN HBQ.out _⟩)
                case measure => simp [intOf]; omega
              · obtain rfl : q = yn := by omega
                have hd2 : decide (q < q) = false := by simp
                go_wp2_with fail
                go_roundw
                case rel =>
                 first
                  | exact ⟨k + 1, by omega, by go_num, HBQ.out⟩
                  | ((repeat apply Exists.intro); refine ⟨?_, rfl⟩; exact ⟨k + 1, by omega, by go_num, HBQ.out⟩)
                case measure => simp [intOf]; omega
           · obtain rfl : k = mn := by omega
             have hd : decide (k < k) = false := by simp
             go_wp2_with fail
             go_ret
             exact ⟨rfl, HXW.out.trans (HBN.out.mono HXW.out.size)⟩
end Go.Proofs.YtciibogkfbicfaaGreatDoor.Mg
namespace Go.Proofs.YtciibogkfbicfaaGreatDoor.Au
open Go.RowKit Go.Proofs.YtciibogkfbicfaaGreatDoor.Wi Go.Proofs.YtciibogkfbicfaaGreatDoor.Ow Go.Proofs.YtciibogkfbicfaaGreatDoor.Be Go.Proofs.YtciibogkfbicfaaGreatDoor.Bl Go.Proofs.YtciibogkfbicfaaGreatDoor.Cv Go.Proofs.YtciibogkfbicfaaGreatDoor.Kx Go.Proofs.YtciibogkfbicfaaGreatDoor.Mg Go.Proofs.YtciibogkfbicfaaGreatDoor.Ed
theorem cat_run {o : Oper} {a : Act} {W : World} (x y : Operand) (ty : TypeId) (ho : o.op = .binOp .add 9 x y ty) (l m : List UInt8) (hx : a.eval x = .string (mkS l)) (hy : a.eval y = .string (mkS m)) (hs : l.length + m.length ≤ 1000000) : (execOp a.eval o).run prog W = .ok (.value (.string (mkS (l ++ m)))) W := by
 have h1 : ¬ 9223372036854775807 < (mkS l).size + (mkS m).size := by rw [jl_, jl_]; omega
 unfold execOp
 simp only [ho, hx, hy]
 rw [← mkS_append]
 go_simp
theorem cat_seq {ops : Array Oper} {rest : List Oper} {o : Oper} {a : Act} {w : World} {Q : Exit → Act → World → Prop} (hgd : o.guard = none) (x y : Operand) (ty : TypeId) (ho : o.op = .binOp .add 9 x y ty) (l m : List UInt8) (hx : a.eval x = .string (mkS l)) (hy : a.eval y = .string (mkS m)) (hs : l.length + m.length ≤ 1000000)
 (n : List UInt8) (hn : l ++ m = n) (h : wpList prog ops Q rest (a.put o.dst (.string (mkS n))) w) : wpList prog ops Q (o :: rest) a w :=
 wpList_plain hgd fun _ hK => by
  have hr := cat_run (o := o) (a := a) (W := w) x y ty ho l m hx hy hs
  rw [hn] at hr
  unfold Oper.wp
  rw [hr]
  exact hK _ _ h
theorem Text_l (W : World) (s : ByteArray) (l : List UInt8) (hl : textL s.data.toList = l) (hs : s.size ≤ 1000000) : Calls prog 12 #[.string s] W fun e w' => e = .returned (.string (mkS l)) ∧ Below W.heap.size W w' := by
 subst hl; exact RefText_any W s hs
theorem law_AuthSigns (w : World) (id : List UInt8) (user0 : ByteArray) (n : Int) (hid : id.length = 32) (a : Nat → Addr) (hE : Ei.ErrsA w a) (hT : TabR w) (hG : Sg w) : Calls prog 3 #[.agg (bytesV id), .string user0, .int .i64 n] w fun e w' => e = .returned (.bool true) ∧ Below w.heap.size w w' := by
 have hul : (user0.extract 0 30).size ≤ 30 := by rw [ByteArray.size_extract]; omega
 obtain ⟨user, hu⟩ : ∃ u, user0.extract 0 30 = u := exr
 rw [hu] at hul
 have HCT := ϕ (show ∀ W, Calls prog 8 #[.string user0, .int .i64 30] W fun e w' => e = .returned (.string user) ∧ W = w' from fun W => hu ▸ Cut_any W user0 30 (by decide))
 obtain ⟨i, hi⟩ : ∃ i, i4 n = i := exr
 have HSD := ϕ (show ∀ W, Calls prog 10 #[.int .i64 n] W fun e w' => e = .returned (.agg (bytesV (sdN i))) ∧ Below W.heap.size W w' from fun W => hi ▸ seed_any W n)
 have hsl := sdN_len i
 have hkl := kyN_len i
 have hgl := sigN_len i id user.data.toList
 have hml : (sgdL id user.data.toList (kyN i)).length ≤ 1000 := by rw [sgdL_length hid hkl, qo_]; omega
 have HKE := ϕ (show ∀ W, Below w.heap.size w W → Calls prog 9 #[.agg (bytesV (sdN i))] W fun e w' => e = .returned (.agg (bytesV (kyN i))) ∧ Below W.heap.size W w' from fun W hW => Key_any W (sdN i) hsl (hG.below hW).t)
 have HSI := ϕ (show ∀ W, Below w.heap.size w W → Calls prog 13 #[.agg (bytesV (sdN i)), .string (mkS (sgdL id user.data.toList (kyN i)))] W fun e w' => e = .returned (.agg (bytesV (sigN i id user.data.toList))) ∧ Below W.heap.size W w' from fun W hW => Sign_any W (sdN i) _ hsl (by omega) (hG.below hW).t (hG.below hW).o)
 have HSG := ϕ (show ∀ W, Calls prog 14 #[.agg (bytesV id), .string user, .agg (bytesV (kyN i))] W fun e w' => e = .returned (.string (mkS (sgdL id user.data.toList (kyN i)))) ∧ Below W.heap.size W w' from fun W => Signed_any W id (kyN i) user hid hkl (by omega))
 have HQU := ϕ (show ∀ W, Calls prog 16 #[.string user, .agg (bytesV (kyN i))] W fun e w' => ∃ g, e = .returned (.agg (askV 50 g 4)) ∧ W.heap.size ≤ g ∧ Rg.Blk w' g 9 #[.string user, .string connB, .string methB, .string (mkS (qryL (kyN i)))] ∧ Below W.heap.size W w' from fun W => Query_any W (kyN i) user hkl)
 have HRQ := ϕ (show ∀ W, Below w.heap.size w W → Calls prog 17 #[.agg (bytesV id), .agg (bytesV (sdN i)), .string user] W fun e w' => ∃ g, e = .returned (.agg (askV 50 g 4)) ∧ W.heap.size ≤ g ∧ Rg.Blk w' g 9 #[.string user, .string connB, .string methB, .string (mkS (reqL (kyN i) (sigN i id user.data.toList)))] ∧ Below W.heap.size W w' from fun W hW => Request_law W id i user hid (by omega) (hG.below hW))
 have HAW := ϕ (fun W (hW : Below w.heap.size w W) => awake17 W a (hE.below hW) (hT.below hW) (hG.below hW))
 generalize sigN i id user.data.toList = G at *
 have hmk : sgdL id user.data.toList (kyN i) = ((((((textL id ++ [50]) ++ textL user.data.toList) ++ textL connB.data.toList) ++ textL methB.data.toList) ++ [1]) ++ textL algoB.data.toList) ++ textL (blobL (kyN i)) := by unfold sgdL; simp only [List.nil_append]
 have hqk : qryL (kyN i) = ([0] ++ textL algoB.data.toList) ++ textL (blobL (kyN i)) := by unfold qryL; simp only [List.nil_append]
 have hrk : reqL (kyN i) G = (([1] ++ textL algoB.data.toList) ++ textL (blobL (kyN i))) ++ textL (blobL G) := by unfold reqL; simp only [List.nil_append]
 generalize kyN i = K at *
 generalize sdN i = S at *
 have hbl : (blobL K).length = 51 := by rw [qs_, hkl]
 have hbg : (blobL G).length = 83 := by rw [qs_, hgl]
 have HT1 := ϕ (fun W => Text_l W (mkS id) _ rfl (by rw [jl_, hid]; decide))
 have HT2 := ϕ (fun W => Text_l W user _ rfl (by omega))
 have HT3 := ϕ (show ∀ W, Calls prog 12 #[.string ⟨#[115, 115, 104, 45, 99, 111, 110, 110, 101, 99, 116, 105, 111, 110]⟩] W fun e w' => e = .returned (.string (mkS (textL connB.data.toList))) ∧ Below W.heap.size W w' from fun W => by rw [conn_eq]; exact Text_l W connB _ rfl (by rw [conn_size]; decide))
 have HT4 := ϕ (show ∀ W, Calls prog 12 #[.string ⟨#[112, 117, 98, 108, 105, 99, 107, 101, 121]⟩] W fun e w' => e = .returned (.string (mkS (textL methB.data.toList))) ∧ Below W.heap.size W w' from fun W => by rw [meth_eq]; exact Text_l W methB _ rfl (by rw [meth_size]; decide))
 have HT5 := ϕ (show ∀ W, Calls prog 12 #[.string ⟨#[115, 115, 104, 45, 101, 100, 50, 53, 53, 49, 57]⟩] W fun e w' => e = .returned (.string (mkS (textL algoB.data.toList))) ∧ Below W.heap.size W w' from fun W => by rw [algo_eq]; exact Text_l W algoB _ rfl (by rw [qz_]; decide))
 have HT6 := ϕ (fun W => Text_l W (mkS (blobL K)) _ rfl (by rw [jl_, hbl]; decide))
 have HT7 := ϕ (fun W => Text_l W (mkS (blobL G)) _ rfl (by rw [jl_, hbg]; decide))
 have HBK := ϕ (show ∀ W, Calls prog 11 #[.string (mkS K)] W fun e w' => e = .returned (.string (mkS (blobL K))) ∧ Below W.heap.size W w' from fun W => RefBlob_any W (mkS K) (by rw [jl_, hkl]; decide))
 have HBG := ϕ (show ∀ W, Calls prog 11 #[.string (mkS G)] W fun e w' => e = .returned (.string (mkS (blobL G))) ∧ Below W.heap.size W w' from fun W => RefBlob_any W (mkS G) (by rw [jl_, hgl]; decide))
 have n1 : (textL id).length = 36 := by rw [qr_, hid]
 have n2 : (textL user.data.toList).length ≤ 34 := by rw [qr_, qo_]; omega
 have n3 : (textL connB.data.toList).length = 18 := by rw [qr_, qo_, conn_size]
 have n4 : (textL methB.data.toList).length = 13 := by rw [qr_, qo_, meth_size]
 have n5 : (textL algoB.data.toList).length = 15 := by rw [qr_, qo_, qz_]
 have n6 : (textL (blobL K)).length = 55 := by rw [qr_, hbl]
 have n7 : (textL (blobL G)).length = 87 := by rw [qr_, hbg]
 generalize hx1 : textL id = x1 at *
 generalize hx2 : textL user.data.toList = x2 at *
 generalize hx3 : textL connB.data.toList = x3 at *
 generalize hx4 : textL methB.data.toList = x4 at *
 generalize hx5 : textL algoB.data.toList = x5 at *
 generalize hx6 : textL (blobL K) = x6 at *
 generalize hx7 : textL (blobL G) = x7 at *
 have HT1 := ϕ (show ∀ W, Calls prog 12 #[.string (mkS id)] W fun e w' => e = .returned (.string (mkS x1)) ∧ Below W.heap.size W w' from fun W => hx1 ▸ HT1.out W)
 have HT6 := ϕ (show ∀ W, Calls prog 12 #[.string (mkS (blobL K))] W fun e w' => e = .returned (.string (mkS x6)) ∧ Below W.heap.size W w' from fun W => hx6 ▸ HT6.out W)
 have HT7 := ϕ (show ∀ W, Calls prog 12 #[.string (mkS (blobL G))] W fun e w' => e = .returned (.string (mkS x7)) ∧ Below W.heap.size W w' from fun W => hx7 ▸ HT7.out W)
 clear hx1 hx2 hx3 hx4 hx5 hx6 hx7
 obtain ⟨y1, hy1⟩ : ∃ y, x1 ++ [50] = y := exr
 have my1 := congrArg List.length hy1
 simp only [List.length_append, List.length_cons, List.length_nil] at my1
 obtain ⟨y2, hy2⟩ : ∃ y, y1 ++ x2 = y := exr
 have my2 := congrArg List.length hy2
 simp only [List.length_append, List.length_cons, List.length_nil] at my2
 obtain ⟨y3, hy3⟩ : ∃ y, y2 ++ x3 = y := exr
 have my3 := congrArg List.length hy3
 simp only [List.length_append, List.length_cons, List.length_nil] at my3
 obtain ⟨y4, hy4⟩ : ∃ y, y3 ++ x4 = y := exr
 have my4 := congrArg List.length hy4
 simp only [List.length_append, List.length_cons, List.length_nil] at my4
 obtain ⟨y5, hy5⟩ : ∃ y, y4 ++ [1] = y := exr
 have my5 := congrArg List.length hy5
 simp only [List.length_append, List.length_cons, List.length_nil] at my5
 obtain ⟨y6, hy6⟩ : ∃ y, y5 ++ x5 = y := exr
 have my6 := congrArg List.length hy6
 simp only [List.length_append, List.length_cons, List.length_nil] at my6
 obtain ⟨y7, hy7⟩ : ∃ y, y6 ++ x6 = y := exr
 have my7 := congrArg List.length hy7
 simp only [List.length_append, List.length_cons, List.length_nil] at my7
 obtain ⟨z1, hz1⟩ : ∃ y, [0] ++ x5 = y := exr
 have mz1 := congrArg List.length hz1
 simp only [List.length_append, List.length_cons, List.length_nil] at mz1
 obtain ⟨z2, hz2⟩ : ∃ y, z1 ++ x6 = y := exr
 have mz2 := congrArg List.length hz2
 simp only [List.length_append, List.length_cons, List.length_nil] at mz2
 obtain ⟨v1, hv1⟩ : ∃ y, [1] ++ x5 = y := exr
 have mv1 := congrArg List.length hv1
 simp only [List.length_append, List.length_cons, List.length_nil] at mv1
 obtain ⟨v2, hv2⟩ : ∃ y, v1 ++ x6 = y := exr
 have mv2 := congrArg List.length hv2
 simp only [List.length_append, List.length_cons, List.length_nil] at mv2
 obtain ⟨v3, hv3⟩ : ∃ y, v2 ++ x7 = y := exr
 have mv3 := congrArg List.length hv3
 simp only [List.length_append, List.length_cons, List.length_nil] at mv3
 rw [hy1, hy2, hy3, hy4, hy5, hy6, hy7] at hmk
 rw [hz1, hz2] at hqk
 rw [hv1, hv2, hv3] at hrk
 rw [hmk] at HSI HSG
 rw [hqk] at HQU
 rw [hrk] at HRQ
 have HL := ϕ (show (x1.length + [(50 : UInt8)].length ≤ 1000000 ∧ y1.length + x2.length ≤ 1000000 ∧ y2.length + x3.length ≤ 1000000 ∧ y3.length + x4.length ≤ 1000000 ∧ y4.length + [(1 : UInt8)].length ≤ 1000000) ∧ y5.length + x5.length ≤ 1000000 ∧ y6.length + x6.length ≤ 1000000 ∧ [(0 : UInt8)].length + x5.length ≤ 1000000 ∧ z1.length + x6.length ≤ 1000000 ∧ [(1 : UInt8)].length + x5.length ≤ 1000000 ∧ v1.length + x6.length ≤ 1000000 ∧ v2.length + x7.length ≤ 1000000 from by simp only [List.length_cons, List.length_nil]; omega)
 have HY := ϕ (And.intro hy1 (And.intro hy2 (And.intro hy3 (And.intro hy4 (And.intro hy5 (And.intro hy6 hy7))))))
 have HZ := ϕ (And.intro hz1 (And.intro hz2 (And.intro hv1 (And.intro hv2 hv3))))
 have HVI := ϕ (show (bytesV id).size = 32 by rw [qa_, hid])
 have HVK := ϕ (show (bytesV K).size = 32 by rw [qa_, hkl])
 have HVG := ϕ (show (bytesV G).size = 64 by rw [qa_, hgl])
 have HKL := ϕ hkl
 have HGL := ϕ hgl
 have HIL := ϕ hid
 clear my1 my2 my3 my4 my5 my6 my7 mz1 mz2 mv1 mv2 mv3 n1 n2 n3 n4 n5 n6 n7 hy1 hy2 hy3 hy4 hy5 hy6 hy7 hz1 hz2 hv1 hv2 hv3 hmk hqk hrk hbl hbg hkl hgl hsl hml hul hu hi hE hT hG hid
 go_enter func3, ntmps3
 go_upto_region 1 with ((with_reducible refine qd_ ?_); refine Rg.qh_ rfl 22 _ rfl (bytesV id) rfl ?_; intro V1 hK hbV hnV; have H3 := ϕ hK; have HB := ϕ hbV; clear hK hbV hnV)
 obtain ⟨b3, hb3⟩ : ∃ n, w.heap.size = n := exr
 have H3 := ϕ (show Rg.Blk V1 b3 22 (bytesV id) from hb3 ▸ H3.out)
 try rw [hb3]
 clear hb3
 go_upto_region 3 with (go_at_call 7; refine (HAW.out _ HB.out).mono ?_; rintro e w1 ⟨rfl, hb1⟩; have H3 := ϕ (H3.out.below hb1 H3.out.lt); have HB := tm HB hb1; clear hb1)
 go_upto_region 4 with (go_at_call 8; refine (HCT.out _).mono ?_; rintro e w2 ⟨rfl, rfl⟩; skip)
 go_upto_region 5 with (first
  | (go_at_call 10; refine (HSD.out _).mono ?_; rintro e w3 ⟨rfl, hb1⟩; have H3 := ϕ (H3.out.below hb1 H3.out.lt); have HB := tm HB hb1; clear hb1)
  | (go_at_call 9; refine (HKE.out _ HB.out).mono ?_; rintro e w4 ⟨rfl, hb1⟩; have H3 := ϕ (H3.out.below hb1 H3.out.lt); have HB := tm HB hb1; clear hb1)
  | (refine Rg.qf_ rfl 22 _ _ rfl (bytesV K) _ 22 rfl rfl (by rw [HVK.out]; kernel_rfl) (by rw [HVK.out]; rfl) (qk_ _) ?_; intro w5 hX hb1; have H7 := ϕ hX; have HLT := ϕ H3.out.lt; have H3 := ϕ (H3.out.below hb1 H3.out.lt); have HB := tm HB hb1; clear hX hb1))
 obtain ⟨b7, hb7⟩ : ∃ n, w4.heap.size = n := exr
 have H7 := ϕ (show Rg.Blk w5 b7 22 (bytesV K) from hb7 ▸ H7.out)
 try rw [hb7]
 clear hb7
 go_upto_region 6 with (first
  | ((with_reducible refine qd_ ?_); refine Cv.ji_ rfl 28 5 9 _ rfl underlying28 underlying5 underlying9 b7 0 32 32 K rfl HKL.out (Cv.Bytes.of_blk H7.out) ?_; skip)
  | (go_at_call 11; refine (HBK.out _).mono ?_; rintro e w6 ⟨rfl, hb1⟩; have H3 := ϕ (H3.out.below hb1 H3.out.lt); have H7 := ϕ (H7.out.below hb1 H7.out.lt); have HB := tm HB hb1; clear hb1))
 have q1 := trivial
 go_upto_region 8 with (first
  | ((with_reducible refine qd_ ?_); refine Cv.ji_ rfl 28 5 9 _ rfl underlying28 underlying5 underlying9 b3 0 32 32 id rfl HIL.out (Cv.Bytes.of_blk H3.out) ?_; skip)
  | (go_at_call 12; have _t := q1; refine (HT1.out _).mono ?_; rintro e wt1 ⟨rfl, hb1⟩; have H3 := ϕ (H3.out.below hb1 H3.out.lt); have H7 := ϕ (H7.out.below hb1 H7.out.lt); have HB := tm HB hb1; clear hb1; have q2 := trivial; clear _t q1)
  | (have _t := q2; (with_reducible refine qd_ ?_); refine cat_seq rfl _ _ _ rfl x1 [50] rfl rfl HL.out.1.1 y1 HY.out.1 ?_; have q3 := trivial; clear _t q2)
  | (go_at_call 12; have _t := q3; refine (HT2.out _).mono ?_; rintro e wt3 ⟨rfl, hb1⟩; have H3 := ϕ (H3.out.below hb1 H3.out.lt); have H7 := ϕ (H7.out.below hb1 H7.out.lt); have HB := tm HB hb1; clear hb1; have q4 := trivial; clear _t q3)
  | (have _t := q4; (with_reducible refine qd_ ?_); refine cat_seq rfl _ _ _ rfl y1 x2 rfl rfl HL.out.1.2.1 y2 HY.out.2.1 ?_; have q5 := trivial; clear _t q4)
  | (go_at_call 12; have _t := q5; refine (HT3.out _).mono ?_; rintro e wt5 ⟨rfl, hb1⟩; have H3 := ϕ (H3.out.below hb1 H3.out.lt); have H7 := ϕ (H7.out.below hb1 H7.out.lt); have HB := tm HB hb1; clear hb1; have q6 := trivial; clear _t q5)
  | (have _t := q6; (with_reducible refine qd_ ?_); refine cat_seq rfl _ _ _ rfl y2 x3 rfl rfl HL.out.1.2.2.1 y3 HY.out.2.2.1 ?_; have q7 := trivial; clear _t q6)
  | (go_at_call 12; have _t := q7; refine (HT4.out _).mono ?_; rintro e wt7 ⟨rfl, hb1⟩; have H3 := ϕ (H3.out.below hb1 H3.out.lt); have H7 := ϕ (H7.out.below hb1 H7.out.lt); have HB := tm HB hb1; clear hb1; have q8 := trivial; clear _t q7)
  | (have _t := q8; (with_reducible refine qd_ ?_); refine cat_seq rfl _ _ _ rfl y3 x4 rfl rfl HL.out.1.2.2.2.1 y4 HY.out.2.2.2.1 ?_; have q9 := trivial; clear _t q8)
  | (have _t := q9; (with_reducible refine qd_ ?_); refine cat_seq rfl _ _ _ rfl y4 [1] rfl rfl HL.out.1.2.2.2.2 y5 HY.out.2.2.2.2.1 ?_; have q10 := trivial; clear _t q9)
  | (go_at_call 12; have _t := q10; refine (HT5.out _).mono ?_; rintro e wt10 ⟨rfl, hb1⟩; have H3 := ϕ (H3.out.below hb1 H3.out.lt); have H7 := ϕ (H7.out.below hb1 H7.out.lt); have HB := tm HB hb1; clear hb1; have q11 := trivial; clear _t q10)
  | (have _t := q11; (with_reducible refine qd_ ?_); refine cat_seq rfl _ _ _ rfl y5 x5 rfl rfl HL.out.2.1 y6 HY.out.2.2.2.2.2.1 ?_; have q12 := trivial; clear _t q11)
  | (go_at_call 12; have _t := q12; refine (HT6.out _).mono ?_; rintro e wt12 ⟨rfl, hb1⟩; have H3 := ϕ (H3.out.below hb1 H3.out.lt); have H7 := ϕ (H7.out.below hb1 H7.out.lt); have HB := tm HB hb1; clear hb1; have q13 := trivial; clear _t q12)
  | (have _t := q13; (with_reducible refine qd_ ?_); refine cat_seq rfl _ _ _ rfl y6 x6 rfl rfl HL.out.2.2.1 y7 HY.out.2.2.2.2.2.2 ?_; have q14 := trivial; clear _t q13))
 clear q14
 go_upto_region 9 with (first
  | (go_at_call 10; refine (HSD.out _).mono ?_; rintro e w7 ⟨rfl, hb1⟩; have H3 := ϕ (H3.out.below hb1 H3.out.lt); have H7 := ϕ (H7.out.below hb1 H7.out.lt); have HB := tm HB hb1; clear hb1)
  | (go_at_call 13; refine (HSI.out _ HB.out).mono ?_; rintro e w8 ⟨rfl, hb1⟩; have H3 := ϕ (H3.out.below hb1 H3.out.lt); have H7 := ϕ (H7.out.below hb1 H7.out.lt); have HB := tm HB hb1; clear hb1)
  | (refine Rg.qf_ rfl 29 _ _ rfl (bytesV G) _ 29 rfl rfl (by rw [HVG.out]; kernel_rfl) (by rw [HVG.out]; rfl) (qk_ _) ?_; intro w9 hX hb1; have H11 := ϕ hX; have H3 := ϕ (H3.out.below hb1 H3.out.lt); have H7 := ϕ (H7.out.below hb1 H7.out.lt); have HB := tm HB hb1; clear hX hb1))
 obtain ⟨b11, hb11⟩ : ∃ n, w8.heap.size = n := exr
 have H11 := ϕ (show Rg.Blk w9 b11 29 (bytesV G) from hb11 ▸ H11.out)
 try rw [hb11]
 clear hb11
 have q1 := trivial
 go_upto_region 10 with (first
  | (go_at_call 12; have _t := q1; refine (HT5.out _).mono ?_; rintro e wa ⟨rfl, hb1⟩; have H3 := ϕ (H3.out.below hb1 H3.out.lt); have H7 := ϕ (H7.out.below hb1 H7.out.lt); have H11 := ϕ (H11.out.below hb1 H11.out.lt); have HB := tm HB hb1; clear hb1; have q2 := trivial; clear _t q1)
  | (have _t := q2; (with_reducible refine qd_ ?_); refine cat_seq rfl _ _ _ rfl [0] x5 rfl rfl HL.out.2.2.2.1 z1 HZ.out.1 ?_; have q3 := trivial; clear _t q2)
  | (go_at_call 12; have _t := q3; refine (HT6.out _).mono ?_; rintro e wb ⟨rfl, hb1⟩; have H3 := ϕ (H3.out.below hb1 H3.out.lt); have H7 := ϕ (H7.out.below hb1 H7.out.lt); have H11 := ϕ (H11.out.below hb1 H11.out.lt); have HB := tm HB hb1; clear hb1; have q4 := trivial; clear _t q3)
  | (have _t := q4; (with_reducible refine qd_ ?_); refine cat_seq rfl _ _ _ rfl z1 x6 rfl rfl HL.out.2.2.2.2.1 z2 HZ.out.2.1 ?_; have q5 := trivial; clear _t q4; obtain ⟨wc, hwc⟩ : ∃ Y, wb.alloc (.cells #[.string user, .string connB, .string methB, .string (mkS z2)] 9) = Y := exr; have hb1 : Below wb.heap.size wb wc := (by rw [← hwc]; exact (Below.refl _ _).alloc (Nat.le_refl _) _); have HQS := ϕ (show Rg.Blk wc wb.heap.size 9 #[.string user, .string connB, .string methB, .string (mkS z2)] from by rw [← hwc]; exact Rg.Blk.new wb _ _); have H3 := ϕ (H3.out.below hb1 H3.out.lt); have H7 := ϕ (H7.out.below hb1 H7.out.lt); have H11 := ϕ (H11.out.below hb1 H11.out.lt); have HB := tm HB hb1; have HWC := ϕ (show wb.alloc (.cells #[.string user, .string ⟨#[115, 115, 104, 45, 99, 111, 110, 110, 101, 99, 116, 105, 111, 110]⟩, .string ⟨#[112, 117, 98, 108, 105, 99, 107, 101, 121]⟩, .string (mkS z2)] 9) = wc from by rw [conn_eq, meth_eq, hwc]); clear hwc hb1))
 rw [HWC.out]
 rw [show (#[.int .i64 50, .slice none 0 0, .slice (some ⟨wb.heap.size, 0, none⟩) 4 4, .slice none 0 0, .slice none 0 0] : Array Value) = askV 50 wb.heap.size 4 from rfl]
 obtain ⟨wdd, hwdd⟩ : ∃ Y, wc.alloc (.cells (askV 50 wb.heap.size 4) 36) = Y := exr
 have hb1 : Below wc.heap.size wc wdd := by rw [← hwdd]; exact (Below.refl _ _).alloc (Nat.le_refl _) _
 have H12 := ϕ (show Rg.Blk wdd wc.heap.size 36 (askV 50 wb.heap.size 4) from by rw [← hwdd]; exact Rg.Blk.new wc _ _)
 have H3 := ϕ (H3.out.below hb1 H3.out.lt)
 have H7 := ϕ (H7.out.below hb1 H7.out.lt)
 have H11 := ϕ (H11.out.below hb1 H11.out.lt)
 have HQS := ϕ (HQS.out.below hb1 HQS.out.lt)
 have HB := tm HB hb1
 have HWD := ϕ (show wc.heap.size = wb.heap.size + 1 from by rw [← HWC.out]; show (wb.heap.push _).size = _; rw [Array.size_push])
 rw [hwdd]
 try rw [← HWD.out]
 clear hwdd hb1
 obtain ⟨b12, hb12⟩ : ∃ n, wc.heap.size = n := exr
 obtain ⟨gq, hgq⟩ : ∃ n, wb.heap.size = n := exr
 have H12 := ϕ (show Rg.Blk wdd b12 36 (askV 50 gq 4) from hb12 ▸ hgq ▸ H12.out)
 have HQS := ϕ (show Rg.Blk wdd gq 9 #[.string user, .string connB, .string methB, .string (mkS z2)] from hgq ▸ HQS.out)
 try rw [hb12]
 try rw [hgq]
 clear hb12 hgq HWC HWD q5
 refine RL.start (RL.Aft wdd) (by kernel_rfl) (RL.Aft.drew (RL.Aft.refl wdd)) ?_
 refine RL.tu 0 ?_; go_frame
 refine RL.tu 1 ?_; go_frame
 refine' RL.td 2 (v := (.string (mkS x5))) 12 #[.string ⟨#[115, 115, 104, 45, 101, 100, 50, 53, 53, 49, 57]⟩] ?hc3 ?_
 case hc3 => (intro W hSW; exact (HT5.out W).mono (fun e w9 h9 => ⟨h9.1, h9.2, RL.Aft.lat hSW h9.2⟩))
 try go_frame
 refine RL.tw 3 (v := .string (mkS v1)) rfl (fun W hSW => (cat_run _ _ _ rfl [1] x5 rfl rfl HL.out.2.2.2.2.2.1).trans (by rw [HZ.out.2.2.1])) ?_
 try go_frame
 refine RL.tu 4 ?_; go_frame
 refine RL.tu 5 ?_; go_frame
 refine' RL.td 6 (v := (.string (mkS x6))) 12 #[.string (mkS (blobL K))] ?hc6 ?_
 case hc6 => (intro W hSW; exact (HT6.out W).mono (fun e w9 h9 => ⟨h9.1, h9.2, RL.Aft.lat hSW h9.2⟩))
 try go_frame
 refine RL.tw 7 (v := .string (mkS v2)) rfl (fun W hSW => (cat_run _ _ _ rfl v1 x6 rfl rfl HL.out.2.2.2.2.2.2.1).trans (by rw [HZ.out.2.2.2.1])) ?_
 try go_frame
 refine RL.tu 8 ?_; go_frame
 refine RL.tu 9 ?_; go_frame
 refine' RL.tv 10 ?hk9 ?_
 case hk9 => (intro W hSW; have x1 := Cv.jv_ (P := prog) W 28 5 9 underlying28 underlying5 underlying9 b11 0 64 64 G HGL.out (Cv.Bytes.of_blk (qc_ hSW H11.out)); go_simp; try with_reducible rfl)
 try go_frame
 refine' RL.td 11 (v := (.string (mkS (blobL G)))) 11 #[.string ⟨G.toArray⟩] ?hc10 ?_
 case hc10 => (intro W hSW; exact (HBG.out W).mono (fun e w9 h9 => ⟨h9.1, h9.2, RL.Aft.lat hSW h9.2⟩))
 try go_frame
 refine' RL.td 12 (v := (.string (mkS x7))) 12 #[.string (mkS (blobL G))] ?hc11 ?_
 case hc11 => (intro W hSW; exact (HT7.out W).mono (fun e w9 h9 => ⟨h9.1, h9.2, RL.Aft.lat hSW h9.2⟩))
 try go_frame
 refine RL.tw 13 (v := .string (mkS v3)) rfl (fun W hSW => (cat_run _ _ _ rfl v2 x7 rfl rfl HL.out.2.2.2.2.2.2.2).trans (by rw [HZ.out.2.2.2.2])) ?_
 try go_frame
 have HRW := ϕ (show (#[.string user, .string ⟨#[115, 115, 104, 45, 99, 111, 110, 110, 101, 99, 116, 105, 111, 110]⟩, .string ⟨#[112, 117, 98, 108, 105, 99, 107, 101, 121]⟩, .string (mkS v3)] : Array Value) = #[.string user, .string connB, .string methB, .string (mkS v3)] from by rw [conn_eq, meth_eq])
 refine' RL.rest_of (T := ?TT) (fun gr b W => RL.Aft wdd W ∧ Rg.Blk W gr 9 #[.string user, .string ⟨#[115, 115, 104, 45, 99, 111, 110, 110, 101, 99, 116, 105, 111, 110]⟩, .string ⟨#[112, 117, 98, 108, 105, 99, 107, 101, 121]⟩, .string (mkS v3)] ∧ Rg.Blk W b 36 #[.int .i64 0, .slice none 0 0, .slice none 0 0, .slice none 0 0, .slice none 0 0] ∧ wdd.heap.size ≤ b) ?hmain ?hrr
 case hmain =>
  intro hrest
  refine RL.step2 (i := 14) (j := 16) rfl rfl (by kernel_rfl) (by rfl) (by rfl) (fun y1 hly1 hsy1 K0 hK => ?_) (fun y1 hly1 hsy1 K0 hK => ?_)
  · refine RL.za_ (v := .slice (some ⟨y1.heap.size, 0, none⟩) 4 4) (w' := y1.alloc (.cells #[.string user, .string ⟨#[115, 115, 104, 45, 99, 111, 110, 110, 101, 99, 116, 105, 111, 110]⟩, .string ⟨#[112, 117, 98, 108, 105, 99, 107, 101, 121]⟩, .string (mkS v3)] 9)) (by go_simp; try rfl) ?_
    obtain ⟨gr, hgr⟩ : ∃ n, y1.heap.size = n := exr
    have hba : Below y1.heap.size y1 (y1.alloc (.cells #[.string user, .string ⟨#[115, 115, 104, 45, 99, 111, 110, 110, 101, 99, 116, 105, 111, 110]⟩, .string ⟨#[112, 117, 98, 108, 105, 99, 107, 101, 121]⟩, .string (mkS v3)] 9)) := (Below.refl _ _).alloc (Nat.le_refl _) _
    have kgr : Rg.Blk (y1.alloc (.cells #[.string user, .string ⟨#[115, 115, 104, 45, 99, 111, 110, 110, 101, 99, 116, 105, 111, 110]⟩, .string ⟨#[112, 117, 98, 108, 105, 99, 107, 101, 121]⟩, .string (mkS v3)] 9)) gr 9 #[.string user, .string ⟨#[115, 115, 104, 45, 99, 111, 110, 110, 101, 99, 116, 105, 111, 110]⟩, .string ⟨#[112, 117, 98, 108, 105, 99, 107, 101, 121]⟩, .string (mkS v3)] := Rg.Blk.newAt hgr.symm _ _
    have ggr : wdd.heap.size ≤ gr := by rw [← hgr]; exact (show RL.Aft wdd y1 from hsy1).size
    refine hK.out _ _ (RL.Aft.alloc hsy1 _) ?_
    try rw [hgr]
    have hSy1y : RL.Aft wdd (y1.alloc (.cells #[.string user, .string ⟨#[115, 115, 104, 45, 99, 111, 110, 110, 101, 99, 116, 105, 111, 110]⟩, .string ⟨#[112, 117, 98, 108, 105, 99, 107, 101, 121]⟩, .string (mkS v3)] 9)) := RL.Aft.alloc hsy1 _
    generalize hyy1 : y1.alloc (.cells #[.string user, .string ⟨#[115, 115, 104, 45, 99, 111, 110, 110, 101, 99, 116, 105, 111, 110]⟩, .string ⟨#[112, 117, 98, 108, 105, 99, 107, 101, 121]⟩, .string (mkS v3)] 9) = y1y at *
    clear hgr hba hyy1
    clear hK
    try go_frame
    refine RL.tu 15 ?_; go_frame
    refine RL.sk 16 (fun y2 hly2 hsy2 K0 hK => ?_)
    have kgr := kgr.below hly2 kgr.lt
    refine RL.za_ (v := .pointer (some ⟨y2.heap.size, 0, none⟩)) (w' := y2.alloc (.cells #[.int .i64 0, .slice none 0 0, .slice none 0 0, .slice none 0 0, .slice none 0 0] 36)) (by go_simp; try rfl) ?_
    obtain ⟨bb, hbb⟩ : ∃ n, y2.heap.size = n := exr
    have hba : Below y2.heap.size y2 (y2.alloc (.cells #[.int .i64 0, .slice none 0 0, .slice none 0 0, .slice none 0 0, .slice none 0 0] 36)) := (Below.refl _ _).alloc (Nat.le_refl _) _
    have kbb : Rg.Blk (y2.alloc (.cells #[.int .i64 0, .slice none 0 0, .slice none 0 0, .slice none 0 0, .slice none 0 0] 36)) bb 36 #[.int .i64 0, .slice none 0 0, .slice none 0 0, .slice none 0 0, .slice none 0 0] := Rg.Blk.newAt hbb.symm _ _
    have gbb : wdd.heap.size ≤ bb := by rw [← hbb]; exact (show RL.Aft wdd y2 from hsy2).size
    have kgr := kgr.below hba kgr.lt
    refine hK.out _ _ (RL.Aft.alloc hsy2 _) ?_
    try rw [hbb]
    have hSy2y : RL.Aft wdd (y2.alloc (.cells #[.int .i64 0, .slice none 0 0, .slice none 0 0, .slice none 0 0, .slice none 0 0] 36)) := RL.Aft.alloc hsy2 _
    generalize hyy2 : y2.alloc (.cells #[.int .i64 0, .slice none 0 0, .slice none 0 0, .slice none 0 0, .slice none 0 0] 36) = y2y at *
    clear hbb hba hyy2
    clear hK
    try go_frame
    refine RL.norm #[true, true, true, true, true, true, true, true, true, true, true, true, true, true, true, true, true, false] (by kernel_rfl) ?_
    exact hrest gr bb _ ⟨by assumption, kgr, kbb, gbb⟩
  · refine RL.za_ (v := .pointer (some ⟨y1.heap.size, 0, none⟩)) (w' := y1.alloc (.cells #[.int .i64 0, .slice none 0 0, .slice none 0 0, .slice none 0 0, .slice none 0 0] 36)) (by go_simp; try rfl) ?_
    obtain ⟨bb, hbb⟩ : ∃ n, y1.heap.size = n := exr
    have hba : Below y1.heap.size y1 (y1.alloc (.cells #[.int .i64 0, .slice none 0 0, .slice none 0 0, .slice none 0 0, .slice none 0 0] 36)) := (Below.refl _ _).alloc (Nat.le_refl _) _
    have kbb : Rg.Blk (y1.alloc (.cells #[.int .i64 0, .slice none 0 0, .slice none 0 0, .slice none 0 0, .slice none 0 0] 36)) bb 36 #[.int .i64 0, .slice none 0 0, .slice none 0 0, .slice none 0 0, .slice none 0 0] := Rg.Blk.newAt hbb.symm _ _
    have gbb : wdd.heap.size ≤ bb := by rw [← hbb]; exact (show RL.Aft wdd y1 from hsy1).size
    refine hK.out _ _ (RL.Aft.alloc hsy1 _) ?_
    try rw [hbb]
    have hSy1y : RL.Aft wdd (y1.alloc (.cells #[.int .i64 0, .slice none 0 0, .slice none 0 0, .slice none 0 0, .slice none 0 0] 36)) := RL.Aft.alloc hsy1 _
    generalize hyy1 : y1.alloc (.cells #[.int .i64 0, .slice none 0 0, .slice none 0 0, .slice none 0 0, .slice none 0 0] 36) = y1y at *
    clear hbb hba hyy1
    clear hK
    try go_frame
    refine RL.sk 14 (fun y3 hly3 hsy3 K0 hK => ?_)
    have kbb := kbb.below hly3 kbb.lt
    refine RL.za_ (v := .slice (some ⟨y3.heap.size, 0, none⟩) 4 4) (w' := y3.alloc (.cells #[.string user, .string ⟨#[115, 115, 104, 45, 99, 111, 110, 110, 101, 99, 116, 105, 111, 110]⟩, .string ⟨#[112, 117, 98, 108, 105, 99, 107, 101, 121]⟩, .string (mkS v3)] 9)) (by go_simp; try rfl) ?_
    obtain ⟨gr, hgr⟩ : ∃ n, y3.heap.size = n := exr
    have hba : Below y3.heap.size y3 (y3.alloc (.cells #[.string user, .string ⟨#[115, 115, 104, 45, 99, 111, 110, 110, 101, 99, 116, 105, 111, 110]⟩, .string ⟨#[112, 117, 98, 108, 105, 99, 107, 101, 121]⟩, .string (mkS v3)] 9)) := (Below.refl _ _).alloc (Nat.le_refl _) _
    have kgr : Rg.Blk (y3.alloc (.cells #[.string user, .string ⟨#[115, 115, 104, 45, 99, 111, 110, 110, 101, 99, 116, 105, 111, 110]⟩, .string ⟨#[112, 117, 98, 108, 105, 99, 107, 101, 121]⟩, .string (mkS v3)] 9)) gr 9 #[.string user, .string ⟨#[115, 115, 104, 45, 99, 111, 110, 110, 101, 99, 116, 105, 111, 110]⟩, .string ⟨#[112, 117, 98, 108, 105, 99, 107, 101, 121]⟩, .string (mkS v3)] := Rg.Blk.newAt hgr.symm _ _
    have ggr : wdd.heap.size ≤ gr := by rw [← hgr]; exact (show RL.Aft wdd y3 from hsy3).size
    have kbb := kbb.below hba kbb.lt
    refine hK.out _ _ (RL.Aft.alloc hsy3 _) ?_
    try rw [hgr]
    have hSy3y : RL.Aft wdd (y3.alloc (.cells #[.string user, .string ⟨#[115, 115, 104, 45, 99, 111, 110, 110, 101, 99, 116, 105, 111, 110]⟩, .string ⟨#[112, 117, 98, 108, 105, 99, 107, 101, 121]⟩, .string (mkS v3)] 9)) := RL.Aft.alloc hsy3 _
    generalize hyy3 : y3.alloc (.cells #[.string user, .string ⟨#[115, 115, 104, 45, 99, 111, 110, 110, 101, 99, 116, 105, 111, 110]⟩, .string ⟨#[112, 117, 98, 108, 105, 99, 107, 101, 121]⟩, .string (mkS v3)] 9) = y3y at *
    clear hgr hba hyy3
    clear hK
    try go_frame
    refine RL.tu 15 ?_; go_frame
    refine RL.norm #[true, true, true, true, true, true, true, true, true, true, true, true, true, true, true, true, true, false] (by kernel_rfl) ?_
    exact hrest gr bb _ ⟨by assumption, kgr, kbb, gbb⟩
 case hrr =>
  rintro gr b13 Z0 ⟨ha0, kg, kb, gbb⟩
  refine RL.sk 17 (fun va hlva hsva K0 hK => ?_)
  have kg := kg.below hlva kg.lt
  have kb := kb.below hlva kb.lt
  have hne : ¬ b13 = gr := fun e => by rw [e] at kb; exact cb_ne_tb kb kg
  refine qg_ 36 _ _ rfl b13 (askV 50 gr 4) _ 36 rfl (by rfl) kb (by kernel_rfl) (by kernel_rfl) (by unfold askV; simp [Value.oneCell']) ?_
  intro Y hY hgY
  have kg := qb_ kg hgY hne
  refine hK.out _ _ (Below.grown hsva hgY (Below.size hsva) (fun k hk => by cases hk; exact gbb)) ?_
  clear hK
  try go_frame
  refine RL.done (by kernel_rfl) (fun wf hlwf hswf => ?_)
  have HA := ϕ (show RL.Aft wdd wf from hswf)
  have H13 := ϕ (show Rg.Blk wf b13 36 (askV 50 gr 4) from hY.below hlwf hY.lt)
  have HRS := ϕ (show Rg.Blk wf gr 9 #[.string user, .string connB, .string methB, .string (mkS v3)] from by rw [← HRW.out]; exact kg.below hlwf kg.lt)
  have H3 := ϕ (qc_ HA.out H3.out)
  have H7 := ϕ (qc_ HA.out H7.out)
  have H12 := ϕ (qc_ HA.out H12.out)
  have HQS := ϕ (qc_ HA.out HQS.out)
  have HB := ϕ (HB.out.trans (Below.mono HA.out HB.out.size))
  clear hlwf hswf hY hgY kg kb hlva hsva hne gbb HA HRW ha0
  go_upto_region 11 with fail
  refine RL.start (RL.Aft wf) (by kernel_rfl) (RL.Aft.drew (RL.Aft.refl wf)) ?_
  refine RL.tw 0 (v := .agg (bytesV id)) rfl (fun W hSW => RT.qx_ 22 _ rfl _ rfl _ _ (qc_ hSW H3.out) underlying22 rfl (by rw [HVI.out]; kernel_rfl)) ?_
  try go_frame
  refine RL.tu 1 ?_; go_frame
  refine RL.tw 2 (v := .agg (bytesV K)) rfl (fun W hSW => RT.qx_ 22 _ rfl _ rfl _ _ (qc_ hSW H7.out) underlying22 rfl (by rw [HVK.out]; kernel_rfl)) ?_
  try go_frame
  refine' RL.td 3 (v := (.string (mkS y7))) 14 #[.agg (bytesV id), .string user, .agg (bytesV K)] ?hc15 ?_
  case hc15 => (intro W hSW; exact (HSG.out W).mono (fun e w9 h9 => ⟨h9.1, h9.2, RL.Aft.lat hSW h9.2⟩))
  try go_frame
  refine RL.tu 4 ?_; go_frame
  refine RL.tu 5 ?_; go_frame
  refine RL.tu 6 ?_; go_frame
  refine RL.tu 7 ?_; go_frame
  refine RL.tw 8 (v := .agg (bytesV K)) rfl (fun W hSW => RT.qx_ 22 _ rfl _ rfl _ _ (qc_ hSW H7.out) underlying22 rfl (by rw [HVK.out]; kernel_rfl)) ?_
  try go_frame
  refine RL.tw 10 (v := .agg (askV 50 gq 4)) rfl (fun W hSW => RT.qx_ 36 _ rfl _ rfl _ _ (qc_ hSW H12.out) underlying36 rfl (by kernel_rfl)) ?_
  try go_frame
  refine' RL.stepCall (i := 9) 16 #[.string user, .agg (bytesV K)] rfl (by kernel_rfl) (by rfl) ?v9 ?c9
  case v9 => (intro W; go_simp; try with_reducible rfl)
  intro a9 hl9 hs9
  refine (HQU.out a9).mono ?_
  rintro e w9x ⟨g1, rfl, _, hg1, hb9⟩
  refine ⟨_, rfl, RL.Aft.lat hs9 hb9, ?_⟩
  try go_frame
  refine' RL.stepCall (i := 11) 15 #[.agg (askV 50 g1 4), .agg (askV 50 gq 4)] rfl (by kernel_rfl) (by rfl) ?v11 ?c11
  case v11 => (intro W; go_simp; try with_reducible rfl)
  intro a11 hl11 hs11
  refine (Same_true a11 (askM user connB methB (mkS z2)) _ _ _ _ _ _ _ _ (MsgAt.ask (Rg.Blk.below hg1 hl11 hg1.lt)) (MsgAt.ask (qc_ (show RL.Aft wf a11 from hs11) HQS.out))).mono ?_
  rintro e w11x ⟨rfl, hb11⟩
  refine ⟨_, rfl, RL.Aft.lat hs11 hb11, ?_⟩
  try go_frame
  refine RL.tu 12 ?_; go_frame
  refine RL.tu 13 ?_; go_frame
  refine RL.tw 14 (v := .agg (bytesV id)) rfl (fun W hSW => RT.qx_ 22 _ rfl _ rfl _ _ (qc_ hSW H3.out) underlying22 rfl (by rw [HVI.out]; kernel_rfl)) ?_
  try go_frame
  refine RL.tu 15 ?_; go_frame
  refine' RL.td 16 (v := (.agg (bytesV S))) 10 #[.int .i64 n] ?hc23 ?_
  case hc23 => (intro W hSW; exact (HSD.out W).mono (fun e w9 h9 => ⟨h9.1, h9.2, RL.Aft.lat hSW h9.2⟩))
  try go_frame
  refine RL.tu 17 ?_; go_frame
  refine RL.tw 19 (v := .agg (askV 50 gr 4)) rfl (fun W hSW => RT.qx_ 36 _ rfl _ rfl _ _ (qc_ hSW H13.out) underlying36 rfl (by kernel_rfl)) ?_
  try go_frame
  refine' RL.stepCall (i := 18) 17 #[.agg (bytesV id), .agg (bytesV S), .string user] rfl (by kernel_rfl) (by rfl) ?v18 ?c18
  case v18 => (intro W; go_simp; try with_reducible rfl)
  intro a18 hl18 hs18
  refine (HRQ.out a18 (HB.out.trans (Below.mono (show RL.Aft wf a18 from hs18) HB.out.size))).mono ?_
  rintro e w18x ⟨g2, rfl, _, hg2, hb18⟩
  refine ⟨_, rfl, RL.Aft.lat hs18 hb18, ?_⟩
  try go_frame
  refine' RL.stepCall (i := 20) 15 #[.agg (askV 50 g2 4), .agg (askV 50 gr 4)] rfl (by kernel_rfl) (by rfl) ?v20 ?c20
  case v20 => (intro W; go_simp; try with_reducible rfl)
  intro a20 hl20 hs20
  refine (Same_true a20 (askM user connB methB (mkS v3)) _ _ _ _ _ _ _ _ (MsgAt.ask (Rg.Blk.below hg2 hl20 hg2.lt)) (MsgAt.ask (qc_ (show RL.Aft wf a20 from hs20) HRS.out))).mono ?_
  rintro e w20x ⟨rfl, hb20⟩
  refine ⟨_, rfl, RL.Aft.lat hs20 hb20, ?_⟩
  try go_frame
  refine RL.tu 21 ?_; go_frame
  refine RL.tu 22 ?_; go_frame
  refine RL.done (by kernel_rfl) (fun V hlV hsV => ?_)
  have HB := ϕ (HB.out.trans (Below.mono (show RL.Aft wf V from hsV) HB.out.size))
  clear hlV hsV
  go_wp2_with fail
  go_ret
  exact ⟨rfl, HB.out⟩
end Go.Proofs.YtciibogkfbicfaaGreatDoor.Au
namespace Go.Proofs.YtciibogkfbicfaaGreatDoor.Ei
open Go.RowKit Go.ChangeShapes
def errN : List String := ["speakeasy/api.ErrArg", "speakeasy/api.ErrEnd", "speakeasy/api.ErrForm", "speakeasy/api.ErrBig", "speakeasy/api.ErrMac", "speakeasy/api.ErrState", "speakeasy/api.ErrFull", "speakeasy/api.ErrNone", "speakeasy/api.ErrHave", "speakeasy/api.ErrKey", "speakeasy/api.ErrSign", "speakeasy/api.ErrVersion", "speakeasy/api.ErrAlgo", "speakeasy/api.ErrHost", "speakeasy/api.ErrAuth", "speakeasy/api.ErrQuota", "speakeasy/api.ErrName", "speakeasy/api.ErrGone", "speakeasy/api.ErrWindow", "speakeasy/api.ErrKind"]
theorem starE : "*" ++ "errors.errorString" = "*errors.errorString" := by decide
theorem rowE (u : TypeId) (h : prog.typeName? 3 u = some "*errors.errorString") : u = 271 :=
 typeName_ptr_named (nm := "errors.errorString") (by rw [starE]; kernel_rfl) (by kernel_rfl) (by decide) u (by rw [starE]; exact h)
theorem cellsES : prog.cellsOf 293 = 1 := by kernel_rfl
theorem cellsSt : prog.cellsOf 9 = 1 := by kernel_rfl
def IsErr (D : DataW Unit) : Prop := ∃ text : List UInt8, D = .iface "*errors.errorString" (.ptr (.agg [.lit (.string text)]))
def Rows (W : World) (ps : List MemPlace) : Prop := ∀ b off, MemPlace.cell b off ∈ ps →
 (∃ c t, W.heap[b]? = some (.cells c t (0, 0))) ∧ ∀ u v, W.cell? ⟨b, off, none⟩ = some (.iface u v) → Value.okWide prog W .any 0 u v
set_option maxRecDepth 100000 in
theorem head_of {n : String} {D : DataW Unit} {r : List (String × DataW Unit)} {W : World} {g : Nat} {ps : List MemPlace} (h : DataW.LaidVars prog W ((n, D) :: r) ps) (hr : Rows W ps) (hD : IsErr D) (hg : prog.globalNamed n = some g) (ht : (prog.globals[g]?).map (·.type) = some 46) :
 ∃ (a : Addr) (q : List MemPlace), W.cell? ⟨g, 0, none⟩ = some (.iface 271 (.pointer (some a))) ∧ DataW.LaidVars prog W r q ∧ ps = MemPlace.cell g 0 :: MemPlace.cell a.block a.off :: q := by
 obtain ⟨text, rfl⟩ := hD
 obtain ⟨g0, t0, cs0, f0, p0, q0, hg0, ht0, hv0, hd0, hq, e0⟩ := h
 obtain rfl := Option.some.inj (hg.symm.trans hg0)
 obtain rfl := Option.some.inj (ht.symm.trans ht0)
 subst e0
 obtain ⟨l0⟩ := cs0
 have ok0 : ∀ u v, l0 = [.iface u v] → Value.okWide prog W .any 0 u v := fun u v e => by
  subst e
  exact (hr g 0 (by simp [MemPlace.row])).2 u v (by simpa using World.var?_cell hg0 hv0 0)
 obtain ⟨a0, s0, rfl, _, _, _, rfl⟩ := errorString_of_trod underlying46 rowE underlying271 underlying293 rfl rfl underlying9 cellsES cellsSt hd0 ok0
 exact ⟨a0, q0, by simpa using World.var?_cell hg hv0 0, hq, by simp [MemPlace.row]⟩
theorem tail_of {x : String × DataW Unit} {r : List (String × DataW Unit)} {W : World} {ps : List MemPlace} (h : DataW.LaidVars prog W (x :: r) ps) : ∃ p q, DataW.LaidVars prog W r q ∧ ps = p ++ q := by
 obtain ⟨g0, t0, cs0, f0, p0, q0, hg0, ht0, hv0, hd0, hq, e0⟩ := h
 exact ⟨_, q0, hq, e0⟩
theorem place_of {W : World} {n : String} {D : DataW Unit} {g : Nat} (hD : IsErr D) (hg : prog.globalNamed n = some g) (ht : (prog.globals[g]?).map (·.type) = some 46) :
 ∀ (r : List (String × DataW Unit)) (ps : List MemPlace), DataW.LaidVars prog W r ps → Rows W ps → (n, D) ∈ r → ∃ a : Addr, W.cell? ⟨g, 0, none⟩ = some (.iface 271 (.pointer (some a))) ∧ MemPlace.cell a.block a.off ∈ ps
 | [], _, _, _, hm => by simp at hm
 | x :: r, ps, h, hr, hm => by
  rcases List.mem_cons.1 hm with e | hm
  · subst e
    obtain ⟨a, q, hc, _, rfl⟩ := head_of h hr hD hg ht
    exact ⟨a, hc, by simp⟩
  · obtain ⟨p, q, hq, rfl⟩ := tail_of h
    obtain ⟨a, hc, hp⟩ := place_of hD hg ht r q hq (fun b off hb => hr b off (List.mem_append_right _ hb)) hm
    exact ⟨a, hc, List.mem_append_right _ hp⟩
theorem errN_g : ∀ k, k < 20 → prog.globalNamed (errN.getD k "") = some (errG.getD k 0) ∧ (prog.globals[errG.getD k 0]?).map (·.type) = some 46
 | 0, _ => ⟨by kernel_rfl, by kernel_rfl⟩
 | 1, _ => ⟨by kernel_rfl, by kernel_rfl⟩
 | 2, _ => ⟨by kernel_rfl, by kernel_rfl⟩
 | 3, _ => ⟨by kernel_rfl, by kernel_rfl⟩
 | 4, _ => ⟨by kernel_rfl, by kernel_rfl⟩
 | 5, _ => ⟨by kernel_rfl, by kernel_rfl⟩
 | 6, _ => ⟨by kernel_rfl, by kernel_rfl⟩
 | 7, _ => ⟨by kernel_rfl, by kernel_rfl⟩
 | 8, _ => ⟨by kernel_rfl, by kernel_rfl⟩
 | 9, _ => ⟨by kernel_rfl, by kernel_rfl⟩
 | 10, _ => ⟨by kernel_rfl, by kernel_rfl⟩
 | 11, _ => ⟨by kernel_rfl, by kernel_rfl⟩
 | 12, _ => ⟨by kernel_rfl, by kernel_rfl⟩
 | 13, _ => ⟨by kernel_rfl, by kernel_rfl⟩
 | 14, _ => ⟨by kernel_rfl, by kernel_rfl⟩
 | 15, _ => ⟨by kernel_rfl, by kernel_rfl⟩
 | 16, _ => ⟨by kernel_rfl, by kernel_rfl⟩
 | 17, _ => ⟨by kernel_rfl, by kernel_rfl⟩
 | 18, _ => ⟨by kernel_rfl, by kernel_rfl⟩
 | 19, _ => ⟨by kernel_rfl, by kernel_rfl⟩
 | n + 20, h => absurd h (by omega)
theorem errsA_of {W : World} {r : List (String × DataW Unit)} (h : laidMet prog r W) (m : ∀ k, k ∈ someE → ∃ D, (errN.getD k "", D) ∈ r ∧ IsErr D) : ∃ a, ErrsA W a := by
 obtain ⟨ps, hv, hnd, hrows⟩ := h
 have hr : Rows W ps := hrows
 have each : ∀ k, k ∈ someE → ∃ a : Addr, W.cell? ⟨errG.getD k 0, 0, none⟩ = some (.iface 271 (.pointer (some a))) := fun k hk => by
  obtain ⟨D, hm, hD⟩ := m k hk
  obtain ⟨a, ha, _⟩ := place_of hD (errN_g k (someE_lt k hk)).1 (errN_g k (someE_lt k hk)).2 r ps hv hr hm
  exact ⟨a, ha⟩
 refine ⟨fun k => if hk : k - 1 ∈ someE then Classical.choose (each (k - 1) hk) else ⟨0, 0, none⟩, ⟨fun k hk => ?_⟩⟩
 have e : k + 1 - 1 ∈ someE := by simpa using hk
 rw [dif_pos e]
 exact Classical.choose_spec (each (k + 1 - 1) e)
end Go.Proofs.YtciibogkfbicfaaGreatDoor.Ei
namespace Go.Proofs.YtciibogkfbicfaaGreatDoor.Au
open Go.RowKit Go.Proofs.YtciibogkfbicfaaGreatDoor.Cv Go.Proofs.YtciibogkfbicfaaGreatDoor.Kx Go.Proofs.YtciibogkfbicfaaGreatDoor.Mg
theorem bytesV_bv (l : List UInt8) : bytesV l = (Ow.bv l).toArray := by unfold bytesV Ow.bv; rfl
theorem law_AuthSignsB (w : World) (l : List UInt8) (hl : l.length = 32) (u : ByteArray) (n : Int) (hn : (Lit.int .i64 n).wf = true) (a : Nat → Addr) (hE : Ei.ErrsA w a) (hT : TabR w) (hTb : Sha.Tables w) (hO : Ord w) :
 Calls prog 3 #[.agg (Ow.bv l).toArray, .string u, .int .i64 n] w fun e w' => e = .returned (.bool true) ∧ Below w.heap.size w w' := by
 rw [← bytesV_bv]
 exact law_AuthSigns w l u n hl a hE hT ⟨hTb, hO⟩
end Go.Proofs.YtciibogkfbicfaaGreatDoor.Au
namespace Go.Proofs.YtciibogkfbicfaaGreatDoor.Og
open Go.RowKit Go.ChangeShapes Go.WideShapes Go.Joins Go.Deep Go.Proofs.YtciibogkfbicfaaGreatDoor.Ow
variable {H : Type} {enc : TypeId × Value → H} {P : Program} {W : World}
theorem open_arr {r : Reach} {b0 : Nat} {t e : TypeId} {n : Nat} {v : Value} {d : DataW H} {p : List MemPlace} (ht : P.underlying t = some (.array n e)) (hc : P.cellsOf e = 1) (hC : P.cellsOf t = n)
 (hv : Value.okWide P W r b0 t v) (h : DataW.Trod enc P W 0 (fun _ => true) true t v d p) : ∃ xs : List Value, v = .agg xs.toArray ∧ xs.length = n ∧ ∀ x ∈ xs, Reads enc P W e x := by
 simp only [Value.okWide, ht] at hv
 obtain ⟨cs, rfl, hsz, _⟩ := hv
 obtain ⟨fuel, hf⟩ := h
 obtain ⟨xs, m, _, _, _, hlen, hg⟩ := DataW.trod_array ht hf
 have hcl : cs.size = n := hsz.trans hC
 refine ⟨cs.toList, by simp, by simpa using hcl, fun x hx => ?_⟩
 obtain ⟨i, hi⟩ := List.mem_iff_getElem?.1 hx
 have hin : i < n := by
  have := (List.getElem?_eq_some_iff.1 hi).1
  simp at this; omega
 have h1 := hg i hin
 rw [hc, Nat.mul_one] at h1
 have e1 : ((Value.agg cs).cells.toList.drop i).take 1 = [x] := by
  have e0 : (Value.agg cs).cells.toList = cs.toList := by simp [Value.cells]
  rw [e0, List.drop_eq_getElem_cons (by simpa using (show i < cs.size by omega))]
  rw [List.getElem?_eq_getElem (by simpa using (show i < cs.size by omega))] at hi
  injection hi with hi
  rw [hi]; rfl
 rw [e1, List.getElem?_eq_getElem (by omega)] at h1
 exact ⟨m, _, h1⟩
theorem open_bytes {r : Reach} {b0 : Nat} {t e : TypeId} {n : Nat} {v : Value} {d : DataW H} {p : List MemPlace} (ht : P.underlying t = some (.array n e)) (he : P.underlying e = some (.int .u8)) (hc : P.cellsOf e = 1) (hC : P.cellsOf t = n)
 (hv : Value.okWide P W r b0 t v) (h : DataW.Trod enc P W 0 (fun _ => true) true t v d p) : ∃ l : List UInt8, v = .agg (bv l).toArray ∧ l.length = n := by
 obtain ⟨xs, rfl, hl, hx⟩ := open_arr ht hc hC hv h
 obtain ⟨l, rfl, _⟩ := map_of (f := fun (x : UInt8) => Value.int .u8 (x.toNat : Int)) (p := fun _ => True) (xs := xs) (fun x h => by
  obtain ⟨n, rfl, hw⟩ := open_int1 he (hx x h)
  have hb := bounds_u8 hw
  refine ⟨UInt8.ofNat n.toNat, ?_, trivial⟩
  have : (UInt8.ofNat n.toNat).toNat = n.toNat := by rw [UInt8.toNat_ofNat']; omega
  rw [this, Int.toNat_of_nonneg (by omega)])
 exact ⟨l, rfl, by simpa using hl⟩
end Go.Proofs.YtciibogkfbicfaaGreatDoor.Og
namespace Go.Proofs.YtciibogkfbicfaaGreatDoor.Mg
open Go.RowKit Go.Proofs.YtciibogkfbicfaaGreatDoor.Wi Go.Proofs.YtciibogkfbicfaaGreatDoor.Ow Go.Proofs.YtciibogkfbicfaaGreatDoor.Be
def rowD (r : Nat × List UInt8 × List UInt8) : DataW Unit := .agg [.lit (.int .i64 (r.1 : Int)), .lit (.string r.2.1), .lit (.string r.2.2)]
def rowsD : DataW Unit := .agg (rowsL.map rowD)
theorem cells_row : prog.cellsOf 171 = 3 := by kernel_rfl
theorem cells_intM : prog.cellsOf 3 = 1 := by kernel_rfl
theorem cells_strM : prog.cellsOf 9 = 1 := by kernel_rfl
theorem gRows : prog.globalNamed "speakeasy/message.rows" = some 20 := by kernel_rfl
theorem tRows : (prog.globals[20]?).map (·.type) = some 218 := by kernel_rfl
theorem lit_str {s : ByteArray} {l : List UInt8} {p : List MemPlace} {y : DataW Unit × List MemPlace} (h : y = (.lit (.string s.data.toList), p)) (h2 : y.1 = .lit (.string l)) : s = mkS l := by
 subst h
 injection h2 with h2
 injection h2 with h2
 rw [← h2, mkS_of]
theorem tab_head {W : World} {D : DataW Unit} {r : List (String × DataW Unit)} {ps : List MemPlace} (h : DataW.LaidVars prog W (("speakeasy/message.rows", D) :: r) ps) (hD : D = rowsD) : TabR W := by
 obtain ⟨g0, t0, cs0, f0, p0, q0, hg0, ht0, hv0, hd0, hq, e0⟩ := h
 obtain rfl := Option.some.inj (gRows.symm.trans hg0)
 obtain rfl := Option.some.inj (tRows.symm.trans ht0)
 obtain ⟨l0⟩ := cs0
 have hc : ∀ j, W.cell? ⟨20, j, none⟩ = l0[j]? := fun j => by simpa using World.var?_cell gRows hv0 j
 obtain ⟨xs, m, hf, hx, hl, hn, he⟩ := DataW.trod_array underlying218 hd0
 have hxs : xs.map (·.1) = rowsL.map rowD := by
  have h1 := congrArg Prod.fst hx
  rw [hD] at h1
  unfold rowsD at h1
  injection h1 with h1
  exact h1.symm
 have each : ∀ i r, rowsL[i]? = some r → l0[i * 3]? = some (.int .i64 (r.1 : Int)) ∧ l0[i * 3 + 1]? = some (.string (mkS r.2.1)) ∧ l0[i * 3 + 2]? = some (.string (mkS r.2.2)) := by
  intro i r hr
  have hi : i < 29 := (List.getElem?_eq_some_iff.1 hr).1
  have h1 := he i hi
  obtain ⟨x, hxi⟩ : ∃ x, xs[i]? = some x := ⟨_, List.getElem?_eq_getElem (by omega)⟩
  rw [hxi] at h1
  have hfst : x.1 = rowD r := by
   have := congrArg (·[i]?) hxs
   simpa [hxi, hr] using this
  rw [cells_row] at h1
  obtain ⟨y0, y1, y2, n, hx3, hl3, t0, t1, t2⟩ := Go.Deep.trod_struct3 underlying171 h1
  simp only [cells_intM, cells_strM] at t0 t1 t2
  obtain ⟨z0, a0, b0, _⟩ := DataW.trod_int underlying3 t0
  obtain ⟨s1, a1, b1, _⟩ := DataW.trod_string underlying9 t1
  obtain ⟨s2, a2, b2, _⟩ := DataW.trod_string underlying9 t2
  rw [hx3] at hfst
  unfold rowD at hfst
  simp only [DataW.agg.injEq, List.cons.injEq, and_true] at hfst
  obtain ⟨g0, g1, g2⟩ := hfst
  have k0 : z0 = (r.1 : Int) := by
   rw [b0] at g0
   injection g0 with g0
   injection g0 with _ g0
  have k1 := lit_str b1 g1
  have k2 := lit_str b2 g2
  subst k0 k1 k2
  have c0 := congrArg (·[0]?) a0
  have c1 := congrArg (·[0]?) a1
  have c2 := congrArg (·[0]?) a2
  refine ⟨?_, ?_, ?_⟩
  · simpa [List.getElem?_take, List.getElem?_drop] using c0
  · simpa [List.getElem?_take, List.getElem?_drop] using c1
  · simpa [List.getElem?_take, List.getElem?_drop] using c2
 intro j v hv
 rw [hc]
 have hj : j < 87 := by rw [← rowsV_size]; exact (Array.getElem?_eq_some_iff.1 hv).1
 obtain ⟨r, hr, hex⟩ := rowsV_at (j / 3) (by omega)
 obtain ⟨d0, d1, d2⟩ := each _ r hr
 have hv2 : (rowsV.extract (j / 3 * 3) (j / 3 * 3 + 3))[j % 3]? = some v := by
  rw [Array.getElem?_extract, if_pos (by rw [rowsV_size]; omega), show j / 3 * 3 + j % 3 = j by omega]
  exact hv
 rw [hex] at hv2
 have hm : j % 3 = 0 ∨ j % 3 = 1 ∨ j % 3 = 2 := by omega
 rcases hm with hm | hm | hm
 · rw [hm] at hv2
   rw [show j = j / 3 * 3 by omega, d0]; simpa using hv2
 · rw [hm] at hv2
   rw [show j = j / 3 * 3 + 1 by omega, d1]; simpa using hv2
 · rw [hm] at hv2
   rw [show j = j / 3 * 3 + 2 by omega, d2]; simpa using hv2
theorem tab_in {W : World} {D : DataW Unit} (hD : D = rowsD) : ∀ (r : List (String × DataW Unit)) (ps : List MemPlace), DataW.LaidVars prog W r ps → ("speakeasy/message.rows", D) ∈ r → TabR W
 | [], _, _, hm => by simp at hm
 | x :: r, ps, h, hm => by
  rcases List.mem_cons.1 hm with e | hm
  · subst e
    exact tab_head h hD
  · obtain ⟨p, q, hq, rfl⟩ := Ei.tail_of h
    exact tab_in hD r q hq hm
theorem tab_of {W : World} {r : List (String × DataW Unit)} {D : DataW Unit} (h : laidMet prog r W) (hD : D = rowsD) (hm : ("speakeasy/message.rows", D) ∈ r) : TabR W := by
 obtain ⟨ps, hv, _, _⟩ := h
 exact tab_in hD r ps hv hm
end Go.Proofs.YtciibogkfbicfaaGreatDoor.Mg
